/- The contracts of the functions of names, of the law NamesHides and of the law NamesOrder over the abstract state, for all arguments. -/
import Derived.Test.YtkmgikcdlbibdaaAb2
import Derived.Test.YtkmgikcdlbibdaaProg
import Derived.KernelRfl
/- The table of the types that the functions here meet, read off the translation by a program; each row is checked. -/
namespace Go.Proofs.Ytkmgikcdlbibdaa
open Go Go.Ab
noncomputable def tab : List (Nat × TI) := [
  (0, ⟨TypeDesc.tuple #[], 1, 0, [.unk]⟩),
  (1, ⟨TypeDesc.func #[] #[] false, 1, 8, [.nilf]⟩),
  (2, ⟨TypeDesc.int .i64, 1, 8, [.int .i64 0]⟩),
  (3, ⟨TypeDesc.int .i64, 1, 8, [.int .i64 0]⟩),
  (4, ⟨TypeDesc.bool, 1, 1, [.bool false]⟩),
  (5, ⟨TypeDesc.int .u8, 1, 1, [.int .u8 0]⟩),
  (9, ⟨TypeDesc.string, 1, 16, [.str []]⟩),
  (20, ⟨TypeDesc.interface #[], 1, 16, [.nili]⟩),
  (21, ⟨TypeDesc.int .i32, 1, 4, [.int .i32 0]⟩),
  (22, ⟨TypeDesc.slice 32, 1, 24, [.sl 1 0 (fun _ => []) .nil]⟩),
  (23, ⟨TypeDesc.func #[] #[4] false, 1, 8, [.nilf]⟩),
  (24, ⟨TypeDesc.pointer 46, 1, 8, [.nilp]⟩),
  (25, ⟨TypeDesc.func #[] #[24] false, 1, 8, [.nilf]⟩),
  (26, ⟨TypeDesc.slice 24, 1, 24, [.sl 1 0 (fun _ => []) .nil]⟩),
  (27, ⟨TypeDesc.pointer 49, 1, 8, [.nilp]⟩),
  (28, ⟨TypeDesc.func #[] #[27] false, 1, 8, [.nilf]⟩),
  (29, ⟨TypeDesc.slice 27, 1, 24, [.sl 1 0 (fun _ => []) .nil]⟩),
  (30, ⟨TypeDesc.int .i64, 1, 8, [.int .i64 0]⟩),
  (31, ⟨Try.t31.desc, 4, 40, [.int .i64 0, .int .i64 0, .str [], .int .i64 0]⟩),
  (32, ⟨Try.t31.desc, 4, 40, [.int .i64 0, .int .i64 0, .str [], .int .i64 0]⟩),
  (33, ⟨TypeDesc.int .i64, 1, 8, [.int .i64 0]⟩),
  (34, ⟨TypeDesc.func #[9, 30] #[33] false, 1, 8, [.nilf]⟩),
  (35, ⟨TypeDesc.tuple #[30, 4], 1, 0, [.unk]⟩),
  (36, ⟨TypeDesc.func #[9] #[30, 4] false, 1, 8, [.nilf]⟩),
  (37, ⟨TypeDesc.func #[] #[3] false, 1, 8, [.nilf]⟩),
  (38, ⟨TypeDesc.func #[39, 39] #[4] false, 1, 8, [.nilf]⟩),
  (39, ⟨TypeDesc.slice 9, 1, 24, [.sl 1 0 (fun _ => []) .nil]⟩),
  (40, ⟨TypeDesc.func #[] #[39] false, 1, 8, [.nilf]⟩),
  (41, ⟨TypeDesc.func #[22] #[4] false, 1, 8, [.nilf]⟩),
  (42, ⟨TypeDesc.func #[9, 9, 30, 30] #[4] false, 1, 8, [.nilf]⟩),
  (43, ⟨TypeDesc.func #[39] #[4] false, 1, 8, [.nilf]⟩),
  (44, ⟨TypeDesc.map 9 30, 1, 8, [.nmap]⟩),
  (45, ⟨Try.t45.desc, 3, 40, [.nilp, .nmap, .sl 1 0 (fun _ => []) .nil]⟩),
  (46, ⟨Try.t45.desc, 3, 40, [.nilp, .nmap, .sl 1 0 (fun _ => []) .nil]⟩),
  (47, ⟨TypeDesc.slice 30, 1, 24, [.sl 1 0 (fun _ => []) .nil]⟩),
  (48, ⟨Try.t48.desc, 3, 56, [.nilp, .sl 1 0 (fun _ => []) .nil, .sl 1 0 (fun _ => []) .nil]⟩),
  (49, ⟨Try.t48.desc, 3, 56, [.nilp, .sl 1 0 (fun _ => []) .nil, .sl 1 0 (fun _ => []) .nil]⟩),
  (50, ⟨TypeDesc.func #[9] #[4] false, 1, 8, [.nilf]⟩),
  (51, ⟨TypeDesc.func #[9] #[3] false, 1, 8, [.nilf]⟩),
  (52, ⟨TypeDesc.func #[39] #[39] false, 1, 8, [.nilf]⟩),
  (53, ⟨TypeDesc.func #[] #[9] false, 1, 8, [.nilf]⟩),
  (59, ⟨TypeDesc.int .u32, 1, 4, [.int .u32 0]⟩),
  (62, ⟨TypeDesc.func #[68, 68] #[4] false, 1, 8, [.nilf]⟩),
  (63, ⟨TypeDesc.pointer 5, 1, 8, [.nilp]⟩),
  (68, ⟨TypeDesc.unsafePointer, 1, 8, [.nilp]⟩)]
theorem tab_ok : TabOk Try.prog (tabGet tab) :=
  TabOk.cons (ti := ⟨_, _, _, _⟩) Try.underlying0 (by kernel_rfl) <|
  TabOk.cons (ti := ⟨_, _, _, _⟩) Try.underlying1 (by kernel_rfl) <|
  TabOk.cons (ti := ⟨_, _, _, _⟩) Try.underlying2 (by kernel_rfl) <|
  TabOk.cons (ti := ⟨_, _, _, _⟩) Try.underlying3 (by kernel_rfl) <|
  TabOk.cons (ti := ⟨_, _, _, _⟩) Try.underlying4 (by kernel_rfl) <|
  TabOk.cons (ti := ⟨_, _, _, _⟩) Try.underlying5 (by kernel_rfl) <|
  TabOk.cons (ti := ⟨_, _, _, _⟩) Try.underlying9 (by kernel_rfl) <|
  TabOk.cons (ti := ⟨_, _, _, _⟩) Try.underlying20 (by kernel_rfl) <|
  TabOk.cons (ti := ⟨_, _, _, _⟩) Try.underlying21 (by kernel_rfl) <|
  TabOk.cons (ti := ⟨_, _, _, _⟩) Try.underlying22 (by kernel_rfl) <|
  TabOk.cons (ti := ⟨_, _, _, _⟩) Try.underlying23 (by kernel_rfl) <|
  TabOk.cons (ti := ⟨_, _, _, _⟩) Try.underlying24 (by kernel_rfl) <|
  TabOk.cons (ti := ⟨_, _, _, _⟩) Try.underlying25 (by kernel_rfl) <|
  TabOk.cons (ti := ⟨_, _, _, _⟩) Try.underlying26 (by kernel_rfl) <|
  TabOk.cons (ti := ⟨_, _, _, _⟩) Try.underlying27 (by kernel_rfl) <|
  TabOk.cons (ti := ⟨_, _, _, _⟩) Try.underlying28 (by kernel_rfl) <|
  TabOk.cons (ti := ⟨_, _, _, _⟩) Try.underlying29 (by kernel_rfl) <|
  TabOk.cons (ti := ⟨_, _, _, _⟩) Try.underlying30 (by kernel_rfl) <|
  TabOk.cons (ti := ⟨_, _, _, _⟩) Try.underlying31 (by kernel_rfl) <|
  TabOk.cons (ti := ⟨_, _, _, _⟩) Try.underlying32 (by kernel_rfl) <|
  TabOk.cons (ti := ⟨_, _, _, _⟩) Try.underlying33 (by kernel_rfl) <|
  TabOk.cons (ti := ⟨_, _, _, _⟩) Try.underlying34 (by kernel_rfl) <|
  TabOk.cons (ti := ⟨_, _, _, _⟩) Try.underlying35 (by kernel_rfl) <|
  TabOk.cons (ti := ⟨_, _, _, _⟩) Try.underlying36 (by kernel_rfl) <|
  TabOk.cons (ti := ⟨_, _, _, _⟩) Try.underlying37 (by kernel_rfl) <|
  TabOk.cons (ti := ⟨_, _, _, _⟩) Try.underlying38 (by kernel_rfl) <|
  TabOk.cons (ti := ⟨_, _, _, _⟩) Try.underlying39 (by kernel_rfl) <|
  TabOk.cons (ti := ⟨_, _, _, _⟩) Try.underlying40 (by kernel_rfl) <|
  TabOk.cons (ti := ⟨_, _, _, _⟩) Try.underlying41 (by kernel_rfl) <|
  TabOk.cons (ti := ⟨_, _, _, _⟩) Try.underlying42 (by kernel_rfl) <|
  TabOk.cons (ti := ⟨_, _, _, _⟩) Try.underlying43 (by kernel_rfl) <|
  TabOk.cons (ti := ⟨_, _, _, _⟩) Try.underlying44 (by kernel_rfl) <|
  TabOk.cons (ti := ⟨_, _, _, _⟩) Try.underlying45 (by kernel_rfl) <|
  TabOk.cons (ti := ⟨_, _, _, _⟩) Try.underlying46 (by kernel_rfl) <|
  TabOk.cons (ti := ⟨_, _, _, _⟩) Try.underlying47 (by kernel_rfl) <|
  TabOk.cons (ti := ⟨_, _, _, _⟩) Try.underlying48 (by kernel_rfl) <|
  TabOk.cons (ti := ⟨_, _, _, _⟩) Try.underlying49 (by kernel_rfl) <|
  TabOk.cons (ti := ⟨_, _, _, _⟩) Try.underlying50 (by kernel_rfl) <|
  TabOk.cons (ti := ⟨_, _, _, _⟩) Try.underlying51 (by kernel_rfl) <|
  TabOk.cons (ti := ⟨_, _, _, _⟩) Try.underlying52 (by kernel_rfl) <|
  TabOk.cons (ti := ⟨_, _, _, _⟩) Try.underlying53 (by kernel_rfl) <|
  TabOk.cons (ti := ⟨_, _, _, _⟩) Try.underlying59 (by kernel_rfl) <|
  TabOk.cons (ti := ⟨_, _, _, _⟩) Try.underlying62 (by kernel_rfl) <|
  TabOk.cons (ti := ⟨_, _, _, _⟩) Try.underlying63 (by kernel_rfl) <|
  TabOk.cons (ti := ⟨_, _, _, _⟩) Try.underlying68 (by kernel_rfl) <|
  TabOk.nil _
end Go.Proofs.Ytkmgikcdlbibdaa
namespace Go.Proofs.Ytkmgikcdlbibdaa
open Go Go.Ab
theorem mix : Try.prog.follows .mixedOrders = true := by kernel_rfl
noncomputable def E0 (con : Nat → List D → St → Option FnSpec) (n V : Nat) (cross : List Nat) : Senv where
  P := Try.prog
  tt := tabGet tab
  n := n
  dfs := []
  V := V
  cross := cross
  gh := fun _ => []
  gr := []
  unr := fun _ => 0
  cut := fun _ _ _ => none
  ann := fun _ _ _ => none
  ord := fun _ => ([], [])
  con := con
abbrev con0 : Nat → List D → St → Option FnSpec := fun _ _ _ => none
theorem con0_ok : ConOk Try.prog con0 := fun _ _ _ _ h => nomatch h

/-! ### New -/
def sNew (a b kt : Nat) : FnSpec where
  β := Unit
  α := Nat × Nat × Nat
  args := fun _ => []
  st := fun _ => ⟨[], []⟩
  pre := fun _ => True
  post := fun _ _ => True
  res := fun _ y => .ret (.ref a y.1 0)
  out := fun _ y => ⟨[(a, y.1, .cells [.nilp, .map b y.2.1, .sl 1 0 (fun _ => []) (.tok kt y.2.2)]), (b, y.2.1, .amap .i64 [])], [(kt, y.2.2)]⟩
noncomputable def E7 : Senv := { E0 con0 4 1 [] with gr := [.cell 1 2] }
theorem new_ok0 : ACalls Try.prog 7 ((sNew 1 0 0).args ()) ((sNew 1 0 0).st ()) (SpecR (sNew 1 0 0) ()) := by
  refine con_of (A := sNew 1 0 0) (x := ()) (E := E7) ⟨tab_ok, con0_ok, mix⟩ Try.func7 rfl rfl rfl (by decide) ?_
  refine vc_eq (T :=
      ∀ (y : Nat),
        freshIn y [] →
          ∀ (x : Nat),
            freshIn x [(0, y, AObj.amap IntKind.i64 [])] →
              ∀ (t : Nat),
                True ∧
                  ∃ (y_1 : Nat × Nat × Nat),
                    True ∧
                      x = Prod.fst y_1 ∧ (x = Prod.fst y_1 ∧ (True ∧ y = Prod.fst (Prod.snd y_1) ∧ (0 = 0 ∧ (∀ (i : Nat), i < 0 → eqOf (List D) [] []) ∧ t = Prod.snd (Prod.snd y_1)) ∧ True) ∧ y = Prod.fst (Prod.snd y_1) ∧ eqOf (List (List UInt8 × Int)) [] [] ∧ True) ∧ t = Prod.snd (Prod.snd y_1) ∧ True) (by kernel_rfl) ?_
  intro y _ x _ t
  refine ⟨trivial, (x, y, t), ?_⟩
  simp

/-! ### valid -/
def vgo (s : List UInt8) : Nat → Nat → Bool
  | 0, _ => decide (s.length ≤ 32) && !s.isEmpty
  | n + 1, pos => if pos < s.length then
      (if ((runeAt s pos).1 < 97 ∨ 122 < (runeAt s pos).1) ∧ (pos = 0 ∨ (runeAt s pos).1 < 48 ∨ 57 < (runeAt s pos).1) then false else vgo s n (pos + (runeAt s pos).2))
    else decide (s.length ≤ 32) && !s.isEmpty
def validS (s : List UInt8) : Bool := vgo s s.length 0
def sValid : FnSpec where
  β := List UInt8
  α := Unit
  args := fun s => [.str s]
  st := fun _ => ⟨[], []⟩
  pre := fun _ => True
  post := fun _ _ => True
  res := fun s _ => .ret (.bool (validS s))
  out := fun _ _ => ⟨[], []⟩
noncomputable def E20 (s : List UInt8) : Senv := { E0 con0 36 1 [2, 3, 4, 6, 7, 8, 28] with
  ann := fun b env _ => match b, Ab.look env 6 with
    | 0, .ref k y 0 => some { slots := [], keep := [0, 6], α := Nat × Nat, st := fun x => ([], ⟨[(k, y, .sit s x.1)], []⟩), inv := fun x => s.length ≤ x.1 + x.2 ∧ vgo s x.2 x.1 = validS s, mu := fun x => s.length - x.1 }
    | _, _ => none }
theorem valid_ok (s : List UInt8) : ACalls Try.prog 20 (sValid.args s) (sValid.st s) (SpecR sValid s) := by
  refine con_of (A := sValid) (x := s) (E := E20 s) ⟨tab_ok, con0_ok, mix⟩ Try.func20 rfl rfl rfl (by simp [sValid, E20, E0]) ?_
  refine vc_eq (T :=
      ∀ (y : Nat),
        freshIn y [] →
          (∃ (x : Nat × Nat), (List.length s ≤ Prod.fst x + Prod.snd x ∧ vgo s (Prod.snd x) (Prod.fst x) = validS s) ∧ True ∧ (y = y ∧ (s = s ∧ 0 = Prod.fst x) ∧ True) ∧ True) ∧
            ∀ (x : Nat × Nat),
              List.length s ≤ Prod.fst x + Prod.snd x ∧ vgo s (Prod.snd x) (Prod.fst x) = validS s →
                y = y ∧
                  ifB (decide (Prod.fst x < List.length s))
                    (ifB (decide ((↑(Prod.fst (runeAt s (Prod.fst x))) : Int) < 97))
                      (ifB ((↑(Prod.fst x) : Int) == 0) (True ∧ ∃ (y : Unit), True ∧ false = validS s ∧ True ∧ True)
                        (ifB (decide ((↑(Prod.fst (runeAt s (Prod.fst x))) : Int) < 48)) (True ∧ ∃ (y : Unit), True ∧ false = validS s ∧ True ∧ True)
                          (ifB (decide (57 < (↑(Prod.fst (runeAt s (Prod.fst x))) : Int))) (True ∧ ∃ (y : Unit), True ∧ false = validS s ∧ True ∧ True)
                            ((D.str s = D.str s ∧ D.ref 0 y 0 = D.ref 0 y 0 ∧ True) ∧
                              ∃ (y_1 : Nat × Nat),
                                (List.length s ≤ Prod.fst y_1 + Prod.snd y_1 ∧ vgo s (Prod.snd y_1) (Prod.fst y_1) = validS s) ∧ List.length s - Prod.fst y_1 < List.length s - Prod.fst x ∧ True ∧ (y = y ∧ (s = s ∧ Prod.fst x + Prod.snd (runeAt s (Prod.fst x)) = Prod.fst y_1) ∧ True) ∧ True))))
                      (ifB (decide (122 < (↑(Prod.fst (runeAt s (Prod.fst x))) : Int)))
                        (ifB ((↑(Prod.fst x) : Int) == 0) (True ∧ ∃ (y : Unit), True ∧ false = validS s ∧ True ∧ True)
                          (ifB (decide ((↑(Prod.fst (runeAt s (Prod.fst x))) : Int) < 48)) (True ∧ ∃ (y : Unit), True ∧ false = validS s ∧ True ∧ True)
                            (ifB (decide (57 < (↑(Prod.fst (runeAt s (Prod.fst x))) : Int))) (True ∧ ∃ (y : Unit), True ∧ false = validS s ∧ True ∧ True)
                              ((D.str s = D.str s ∧ D.ref 0 y 0 = D.ref 0 y 0 ∧ True) ∧
                                ∃ (y_1 : Nat × Nat),
                                  (List.length s ≤ Prod.fst y_1 + Prod.snd y_1 ∧ vgo s (Prod.snd y_1) (Prod.fst y_1) = validS s) ∧ List.length s - Prod.fst y_1 < List.length s - Prod.fst x ∧ True ∧ (y = y ∧ (s = s ∧ Prod.fst x + Prod.snd (runeAt s (Prod.fst x)) = Prod.fst y_1) ∧ True) ∧ True))))
                        ((D.str s = D.str s ∧ D.ref 0 y 0 = D.ref 0 y 0 ∧ True) ∧
                          ∃ (y_1 : Nat × Nat),
                            (List.length s ≤ Prod.fst y_1 + Prod.snd y_1 ∧ vgo s (Prod.snd y_1) (Prod.fst y_1) = validS s) ∧ List.length s - Prod.fst y_1 < List.length s - Prod.fst x ∧ True ∧ (y = y ∧ (s = s ∧ Prod.fst x + Prod.snd (runeAt s (Prod.fst x)) = Prod.fst y_1) ∧ True) ∧ True)))
                    (ifB (s != []) (True ∧ ∃ (y : Unit), True ∧ decide ((↑(List.length s) : Int) ≤ 32) = validS s ∧ True ∧ True) (True ∧ ∃ (y : Unit), True ∧ false = validS s ∧ True ∧ True))) (by kernel_rfl) ?_
  intro y _
  refine ⟨⟨(0, s.length), ⟨by simp, rfl⟩, by simp⟩, ?_⟩
  rintro ⟨pos, n⟩ ⟨h1, h2⟩
  refine ⟨rfl, ?_⟩
  simp only at h1 h2 ⊢
  have hw := runeAt_pos s pos
  have next : ∀ (h : pos < s.length) (hv : vgo s (n - 1) (pos + (runeAt s pos).2) = validS s) (hn : 0 < n),
      (D.str s = D.str s ∧ D.ref 0 y 0 = D.ref 0 y 0 ∧ True) ∧ ∃ (y_1 : Nat × Nat), (s.length ≤ y_1.1 + y_1.2 ∧ vgo s y_1.2 y_1.1 = validS s) ∧ s.length - y_1.1 < s.length - pos ∧ True ∧ (y = y ∧ (s = s ∧ pos + (runeAt s pos).2 = y_1.1) ∧ True) ∧ True := by
    intro h hv hn
    exact ⟨⟨rfl, rfl, trivial⟩, (pos + (runeAt s pos).2, n - 1), ⟨by simp only; omega, hv⟩, by simp only; omega, by simp⟩
  have e0 : ((pos : Int) == 0) = decide (pos = 0) := by
    by_cases h : pos = 0 <;> simp [h]
  rw [e0]
  simp only [ifB_iff, decide_eq_true_eq, decide_eq_false_iff_not]
  refine ⟨fun h => ?_, fun h => ?_⟩
  · cases n with
    | zero => omega
    | succ n =>
      rw [vgo, if_pos h] at h2
      have F : (((runeAt s pos).1 < 97 ∨ 122 < (runeAt s pos).1) ∧ (pos = 0 ∨ (runeAt s pos).1 < 48 ∨ 57 < (runeAt s pos).1)) → (True ∧ ∃ (_ : Unit), True ∧ false = validS s ∧ True ∧ True) := by
        intro hc
        rw [if_pos hc] at h2
        exact ⟨trivial, (), trivial, h2, trivial, trivial⟩
      have N : ¬ (((runeAt s pos).1 < 97 ∨ 122 < (runeAt s pos).1) ∧ (pos = 0 ∨ (runeAt s pos).1 < 48 ∨ 57 < (runeAt s pos).1)) → _ := fun hc => next h (by rw [if_neg hc] at h2; exact h2) (by omega)
      refine ⟨fun a => ⟨fun b => F (by omega), fun b => ⟨fun c => F (by omega), fun c => ⟨fun d => F (by omega), fun d => by simpa using N (by omega)⟩⟩⟩, fun a => ⟨fun b => ⟨fun b => F (by omega), fun b => ⟨fun c => F (by omega), fun c => ⟨fun d => F (by omega), fun d => by simpa using N (by omega)⟩⟩⟩, fun b => by simpa using N (by omega)⟩⟩
  · have hv : (decide (s.length ≤ 32) && !s.isEmpty) = validS s := by
      cases n with
      | zero => exact h2
      | succ n => rw [vgo, if_neg h] at h2; exact h2
    have hi : ((s.length : Int) ≤ 32) ↔ s.length ≤ 32 := by omega
    refine ⟨fun q => ⟨trivial, (), trivial, ?_, trivial, trivial⟩, fun q => ⟨trivial, (), trivial, ?_, trivial, trivial⟩⟩
    · rw [← hv]
      have : s ≠ [] := by simpa using q
      cases s <;> simp_all
    · rw [← hv]
      have : s = [] := by simpa using q
      subst this; rfl

/-! ### Clone -/
def sClone : FnSpec where
  β := Nat × (Nat → List D)
  α := Unit
  args := fun x => [.sl 1 x.1 x.2 .any]
  st := fun _ => ⟨[], []⟩
  pre := fun x => x.1 ≤ 1000000
  post := fun _ _ => True
  res := fun x _ => .ret (.sl 1 x.1 x.2 .any)
  out := fun _ _ => ⟨[], []⟩
theorem clone_ok (x : sClone.β) (hx : sClone.pre x) : ACalls Try.prog 23 (sClone.args x) (sClone.st x) (SpecR sClone x) := by
  refine con_of (A := sClone) (x := x) (E := E0 con0 8 1 [2, 4]) ⟨tab_ok, con0_ok, mix⟩ Try.func23 rfl rfl rfl (by simp [sClone, E0]) ?_
  refine vc_eq (T :=
      ∀ (r : Bool),
        (r = true → Prod.fst x = 0) →
          ifB r (True ∧ ∃ (y : Unit), True ∧ (0 = Prod.fst x ∧ (∀ (i : Nat), i < 0 → eqOf (List D) [] (Prod.snd x i)) ∧ True) ∧ True ∧ True)
            ((0 + Prod.fst x) * 16 ≤ 140737488355328 ∧ 0 + Prod.fst x ≤ 9223372036854775807 ∧ ∀ (t : Nat), True ∧ ∃ (y : Unit), True ∧ (0 + Prod.fst x = Prod.fst x ∧ (∀ (i : Nat), i < 0 + Prod.fst x → appF 0 (fun (i : Nat) => []) (Prod.snd x) i = Prod.snd x i) ∧ True) ∧ True ∧ True)) (by kernel_rfl) ?_
  intro r hr
  have hx : x.1 ≤ 1000000 := hx
  rw [ifB_iff]
  constructor
  · intro h
    have := hr h
    refine ⟨trivial, (), trivial, ⟨by omega, fun i hi => by omega, trivial⟩, trivial, trivial⟩
  · intro _
    refine ⟨by omega, by omega, fun t => ⟨trivial, (), trivial, ⟨by omega, fun i _ => by simp [appF], trivial⟩, trivial, trivial⟩⟩
theorem new_ok (a b kt : Nat) : ACalls Try.prog 7 ((sNew a b kt).args ()) ((sNew a b kt).st ()) (SpecR (sNew a b kt) ()) := by
  refine new_ok0.respec (by simp [sNew, weakL]) (by simp [sNew, posS, posO, posT]) fun y _ => ⟨y, trivial, ?_, ?_⟩
  · simp [sNew, weakEnd, weakD, chk_iff]
  · simp [sNew, posS, posO, posT, weakO, weakL, weakD, chk_iff, kEq, weakM]
def conA (k : Nat) (_ : List D) (S : St) : Option FnSpec :=
  match k with
  | 7 => some (sNew (nextTag S.objs + 1) (nextTag S.objs) (nextTok S.toks))
  | 20 => some sValid
  | 23 => some sClone
  | _ => none
theorem conA_ok : ConOk Try.prog conA := by
  intro k ds S A h
  unfold conA at h
  split at h
  · injection h with h; subst h; exact ConOk.plain (fun _ _ => new_ok _ _ _) rfl
  · injection h with h; subst h; exact ConOk.plain (fun x _ => valid_ok x) rfl
  · injection h with h; subst h; exact ConOk.plain (fun x hx => clone_ok x hx) rfl
  · cases h

/-! ### Open -/
def sOpen (a b kt k x : Nat) : FnSpec where
  β := Unit
  α := Nat × Nat × Nat
  args := fun _ => [.ref k x 0]
  st := fun _ => ⟨[], []⟩
  pre := fun _ => True
  post := fun _ _ => True
  res := fun _ y => .ret (.ref a y.1 0)
  out := fun _ y => ⟨[(a, y.1, .cells [.ref k x 0, .map b y.2.1, .sl 1 0 (fun _ => []) (.tok kt y.2.2)]), (b, y.2.1, .amap .i64 [])], [(kt, y.2.2)]⟩
theorem open_ok0 (k x : Nat) : ACalls Try.prog 9 ((sOpen 1 0 0 k x).args ()) ((sOpen 1 0 0 k x).st ()) (SpecR (sOpen 1 0 0 k x) ()) := by
  refine con_of (A := sOpen 1 0 0 k x) (x := ()) (E := E0 conA 12 1 [2, 3, 5]) ⟨tab_ok, conA_ok, mix⟩ Try.func9 rfl rfl rfl (by simp [sOpen, E0]) ?_
  refine vc_eq (T :=
      ∃ (x_1 : Unit),
        True ∧
          (True ∧ True) ∧
            True ∧
              ∀ (y : Nat × Nat × Nat),
                True →
                  Prod.fst y = Prod.fst y ∧
                    1 ≤ 3 ∧
                      True ∧
                        ∃ (y_1 : Nat × Nat × Nat),
                          True ∧
                            Prod.fst y = Prod.fst y_1 ∧
                              (Prod.fst y = Prod.fst y_1 ∧
                                  (x = x ∧ Prod.fst (Prod.snd y) = Prod.fst (Prod.snd y_1) ∧ (0 = 0 ∧ (∀ (i : Nat), i < 0 → eqOf (List D) [] []) ∧ Prod.snd (Prod.snd y) = Prod.snd (Prod.snd y_1)) ∧ True) ∧ Prod.fst (Prod.snd y) = Prod.fst (Prod.snd y_1) ∧ eqOf (List (List UInt8 × Int)) [] [] ∧ True) ∧
                                Prod.snd (Prod.snd y) = Prod.snd (Prod.snd y_1) ∧ True) (by kernel_rfl) ?_
  refine ⟨(), trivial, ⟨trivial, trivial⟩, trivial, ?_⟩
  intro y _
  refine ⟨rfl, by omega, trivial, y, ?_⟩
  simp

/-! ### Define -/
def defE (es : List (List UInt8 × Int)) (nm : List UInt8) (c : Int) : Int :=
  if c < 1 ∨ 4 < c then 1 else if validS nm = false then 9 else match sget es nm with
    | some _ => 10
    | none => 0
def sDefine (k x : Nat) (nm : List UInt8) (c : Int) (o : D) (km m n : Nat) (f : Nat → List D) (kt t : Nat) (es : List (List UInt8 × Int)) : FnSpec where
  β := Unit
  α := Nat
  args := fun _ => [.ref k x 0, .str nm, .int .i64 c]
  st := fun _ => ⟨[(k, x, .cells [o, .map km m, .sl 1 n f (.tok kt t)]), (km, m, .amap .i64 es)], [(kt, t)]⟩
  pre := fun _ => n ≤ 1000
  post := fun _ _ => True
  res := fun _ _ => .ret (.int .i64 (defE es nm c))
  out := fun _ t' => ⟨[(k, x, .cells [o, .map km m, .sl 1 (if defE es nm c = 0 then n + 1 else n) (if defE es nm c = 0 then appF n f (fun _ => [.str nm]) else f) (.tok kt t')]), (km, m, .amap .i64 (if defE es nm c = 0 then sput es nm c else es))], [(kt, t')]⟩
theorem define_ok0 (x : Nat) (nm : List UInt8) (c : Int) (o : D) (m n : Nat) (f : Nat → List D) (t : Nat) (es : List (List UInt8 × Int)) (hn : n ≤ 1000) :
    ACalls Try.prog 11 ((sDefine 1 x nm c o 0 m n f 0 t es).args ()) ((sDefine 1 x nm c o 0 m n f 0 t es).st ()) (SpecR (sDefine 1 x nm c o 0 m n f 0 t es) ()) := by
  refine con_of (A := sDefine 1 x nm c o 0 m n f 0 t es) (x := ()) (E := E0 conA 59 3 [6, 7, 8, 9, 20, 33, 38]) ⟨tab_ok, conA_ok, mix⟩ Try.func11 rfl rfl rfl (by simp [sDefine, E0]) ?_
  refine vc_eq (T :=
      ifB (decide (c < 1))
        (True ∧
          ∃ (y : Nat),
            True ∧
              1 = defE es nm c ∧
                (x = x ∧ (weakD o o ∧ m = m ∧ ((n = if defE es nm c = 0 then n + 1 else n) ∧ (∀ (i : Nat), i < n → f i = (if defE es nm c = 0 then appF n f fun (x : Nat) => [D.str nm] else f) i) ∧ t = y) ∧ True) ∧ m = m ∧ (es = if defE es nm c = 0 then sput es nm c else es) ∧ True) ∧ t = y ∧ True)
        (ifB (decide (4 < c))
          (True ∧
            ∃ (y : Nat),
              True ∧
                1 = defE es nm c ∧
                  (x = x ∧ (weakD o o ∧ m = m ∧ ((n = if defE es nm c = 0 then n + 1 else n) ∧ (∀ (i : Nat), i < n → f i = (if defE es nm c = 0 then appF n f fun (x : Nat) => [D.str nm] else f) i) ∧ t = y) ∧ True) ∧ m = m ∧ (es = if defE es nm c = 0 then sput es nm c else es) ∧ True) ∧ t = y ∧ True)
          (∃ (x_1 : List UInt8),
            (nm = x_1 ∧ True) ∧
              (True ∧ True) ∧
                True ∧
                  ∀ (y : Unit),
                    True →
                      ifB (!validS x_1)
                        (True ∧
                          ∃ (y : Nat),
                            True ∧
                              9 = defE es nm c ∧
                                (x = x ∧ (weakD o o ∧ m = m ∧ ((n = if defE es nm c = 0 then n + 1 else n) ∧ (∀ (i : Nat), i < n → f i = (if defE es nm c = 0 then appF n f fun (x : Nat) => [D.str nm] else f) i) ∧ t = y) ∧ True) ∧ m = m ∧ (es = if defE es nm c = 0 then sput es nm c else es) ∧ True) ∧
                                  t = y ∧ True)
                        (x = x ∧
                          2 ≤ 3 ∧
                            m = m ∧
                              (∀ (n_1 : Int),
                                  sget es nm = some n_1 →
                                    True ∧
                                      ∃ (y : Nat),
                                        True ∧
                                          10 = defE es nm c ∧
                                            (x = x ∧
                                                (weakD o o ∧ m = m ∧ ((n = if defE es nm c = 0 then n + 1 else n) ∧ (∀ (i : Nat), i < n → f i = (if defE es nm c = 0 then appF n f fun (x : Nat) => [D.str nm] else f) i) ∧ t = y) ∧ True) ∧
                                                  m = m ∧ (es = if defE es nm c = 0 then sput es nm c else es) ∧ True) ∧
                                              t = y ∧ True) ∧
                                (sget es nm = none →
                                  x = x ∧
                                    2 ≤ 3 ∧
                                      x = x ∧
                                        2 ≤ 3 ∧
                                          m = m ∧
                                            x = x ∧
                                              3 ≤ 3 ∧
                                                t = t ∧
                                                  (n + 1) * 16 ≤ 140737488355328 ∧
                                                    n + 1 ≤ 9223372036854775807 ∧
                                                      ∀ (t : Nat),
                                                        x = x ∧
                                                          3 ≤ 3 ∧
                                                            True ∧
                                                              ∃ (y : Nat),
                                                                True ∧
                                                                  0 = defE es nm c ∧
                                                                    (x = x ∧
                                                                        (weakD o o ∧
                                                                            m = m ∧
                                                                              ((n + 1 = if defE es nm c = 0 then n + 1 else n) ∧ (∀ (i : Nat), i < n + 1 → appF n f (fun (i : Nat) => List.getD [[D.str nm]] i []) i = (if defE es nm c = 0 then appF n f fun (x : Nat) => [D.str nm] else f) i) ∧ t = y) ∧
                                                                                True) ∧
                                                                          m = m ∧ (sput es nm c = if defE es nm c = 0 then sput es nm c else es) ∧ True) ∧
                                                                      t = y ∧ True))))) (by kernel_rfl) ?_
  have hw := weakD_refl o
  unfold defE
  simp only [ifB_iff, decide_eq_true_eq, decide_eq_false_iff_not]
  refine ⟨fun h => ?_, fun h1 => ⟨fun h => ?_, fun h2 => ?_⟩⟩
  · refine ⟨trivial, t, ?_⟩
    simp [h, hw]
  · refine ⟨trivial, t, ?_⟩
    simp [h, hw]
  · have hc : ¬ (c < 1 ∨ 4 < c) := by omega
    refine ⟨nm, ⟨rfl, trivial⟩, ⟨trivial, trivial⟩, trivial, fun _ _ => ?_⟩
    refine ⟨fun h => ?_, fun h => ?_⟩
    · have hv : validS nm = false := by simpa using h
      refine ⟨trivial, t, ?_⟩
      simp [hc, hv, hw]
    · have hv : validS nm = true := by simpa using h
      refine ⟨trivial, by omega, trivial, fun n1 hg => ?_, fun hg => ?_⟩
      · refine ⟨trivial, t, ?_⟩
        simp [hc, hv, hw, hg]
      · refine ⟨trivial, by omega, trivial, by omega, trivial, trivial, by omega, trivial, by omega, by omega, fun t' => ⟨trivial, by omega, trivial, t', ?_⟩⟩
        simp [hc, hv, hw, hg]
        intro i hi
        by_cases hin : i < n
        · simp [appF, hin]
        · have : i - n = 0 := by omega
          simp [appF, hin, this]
theorem open_ok (a b kt k x : Nat) : ACalls Try.prog 9 ((sOpen a b kt k x).args ()) ((sOpen a b kt k x).st ()) (SpecR (sOpen a b kt k x) ()) := by
  refine (open_ok0 k x).respec (by simp [sOpen, weakL, weakD, chk_iff]) (by simp [sOpen, posS, posO, posT]) fun y _ => ⟨y, trivial, ?_, ?_⟩
  · simp [sOpen, weakEnd, weakD, chk_iff]
  · simp [sOpen, posS, posO, posT, weakO, weakL, weakD, chk_iff, kEq, weakM]
theorem define_ok (k x : Nat) (nm : List UInt8) (c : Int) (o : D) (km m n : Nat) (f : Nat → List D) (kt t : Nat) (es : List (List UInt8 × Int)) (hn : n ≤ 1000) :
    ACalls Try.prog 11 ((sDefine k x nm c o km m n f kt t es).args ()) ((sDefine k x nm c o km m n f kt t es).st ()) (SpecR (sDefine k x nm c o km m n f kt t es) ()) := by
  refine (define_ok0 x nm c o m n f t es hn).respec ?_ ?_ fun y _ => ⟨y, trivial, ?_, ?_⟩
  · simp [sDefine, weakL, weakD, chk_iff, kEq]
  · simp [sDefine, posS, posO, posT, weakO, weakL, weakD, weakD_refl, chk_iff, kEq, weakM]
  · simp [sDefine, weakEnd, weakD, chk_iff, kEq]
  · simp [sDefine, posS, posO, posT, weakO, weakL, weakD, weakD_refl, chk_iff, kEq, weakM]
    rfl
end Go.Proofs.Ytkmgikcdlbibdaa
namespace Go.Proofs.Ytkmgikcdlbibdaa
open Go Go.Ab

/-! ### Find, in one scope and in two -/
def find1 (es : List (List UInt8 × Int)) (nm : List UInt8) : Int × Bool := match sget es nm with
  | some c => (c, true)
  | none => (0, false)
def find2 (es es2 : List (List UInt8 × Int)) (nm : List UInt8) : Int × Bool := match sget es nm with
  | some c => (c, true)
  | none => find1 es2 nm
def sFind1 (k x : Nat) (nm : List UInt8) (km m : Nat) (d : D) (es : List (List UInt8 × Int)) : FnSpec where
  β := Unit
  α := Unit
  args := fun _ => [.ref k x 0, .str nm]
  st := fun _ => ⟨[(k, x, .cells [.nilp, .map km m, d]), (km, m, .amap .i64 es)], []⟩
  pre := fun _ => True
  post := fun _ _ => True
  res := fun _ _ => .ret (.tup [.int .i64 (find1 es nm).1, .bool (find1 es nm).2])
  out := fun _ _ => ⟨[(k, x, .cells [.nilp, .map km m, d]), (km, m, .amap .i64 es)], []⟩
def sFind2 (k x : Nat) (nm : List UInt8) (km m : Nat) (d : D) (es : List (List UInt8 × Int)) (k2 x2 km2 m2 : Nat) (d2 : D) (es2 : List (List UInt8 × Int)) : FnSpec where
  β := Unit
  α := Unit
  args := fun _ => [.ref k x 0, .str nm]
  st := fun _ => ⟨[(k, x, .cells [.ref k2 x2 0, .map km m, d]), (km, m, .amap .i64 es), (k2, x2, .cells [.nilp, .map km2 m2, d2]), (km2, m2, .amap .i64 es2)], []⟩
  pre := fun _ => True
  post := fun _ _ => True
  res := fun _ _ => .ret (.tup [.int .i64 (find2 es es2 nm).1, .bool (find2 es es2 nm).2])
  out := fun _ _ => ⟨[(k, x, .cells [.ref k2 x2 0, .map km m, d]), (km, m, .amap .i64 es), (k2, x2, .cells [.nilp, .map km2 m2, d2]), (km2, m2, .amap .i64 es2)], []⟩
noncomputable def E13 : Senv := { E0 con0 25 2 [4, 5, 6, 7, 9, 23] with unr := fun _ => 3 }
theorem find1_ok0 (x : Nat) (nm : List UInt8) (m : Nat) (d : D) (es : List (List UInt8 × Int)) :
    ACalls Try.prog 13 ((sFind1 1 x nm 0 m d es).args ()) ((sFind1 1 x nm 0 m d es).st ()) (SpecR (sFind1 1 x nm 0 m d es) ()) := by
  refine con_of (A := sFind1 1 x nm 0 m d es) (x := ()) (E := E13) ⟨tab_ok, con0_ok, mix⟩ Try.func13 rfl rfl rfl (by simp [sFind1, E13, E0]) ?_
  refine vc_eq (T :=
      x = x ∧
        (2 : Nat) ≤ (3 : Nat) ∧
          m = m ∧
            (∀ (n : Int), sget es nm = some n → True ∧ ∃ (y : Unit), True ∧ (n = Prod.fst (find1 es nm) ∧ true = Prod.snd (find1 es nm) ∧ True) ∧ (x = x ∧ (True ∧ m = m ∧ weakD d d ∧ True) ∧ m = m ∧ es = es ∧ True) ∧ True) ∧
              (sget es nm = none → x = x ∧ (1 : Nat) ≤ (3 : Nat) ∧ True ∧ ∃ (y : Unit), True ∧ ((0 : Int) = Prod.fst (find1 es nm) ∧ false = Prod.snd (find1 es nm) ∧ True) ∧ (x = x ∧ (True ∧ m = m ∧ weakD d d ∧ True) ∧ m = m ∧ es = es ∧ True) ∧ True)) (by kernel_rfl) ?_
  have hd := weakD_refl d
  refine ⟨rfl, by omega, rfl, fun n hg => ?_, fun hg => ?_⟩
  · simp [find1, hg, hd]
  · simp [find1, hg, hd]
theorem find2_ok0 (x : Nat) (nm : List UInt8) (m : Nat) (d : D) (es : List (List UInt8 × Int)) (x2 m2 : Nat) (d2 : D) (es2 : List (List UInt8 × Int)) :
    ACalls Try.prog 13 ((sFind2 1 x nm 0 m d es 3 x2 2 m2 d2 es2).args ()) ((sFind2 1 x nm 0 m d es 3 x2 2 m2 d2 es2).st ()) (SpecR (sFind2 1 x nm 0 m d es 3 x2 2 m2 d2 es2) ()) := by
  refine con_of (A := sFind2 1 x nm 0 m d es 3 x2 2 m2 d2 es2) (x := ()) (E := E13) ⟨tab_ok, con0_ok, mix⟩ Try.func13 rfl rfl rfl (by simp [sFind2, E13, E0]) ?_
  refine vc_eq (T :=
      x = x ∧
        (2 : Nat) ≤ (3 : Nat) ∧
          m = m ∧
            (∀ (n : Int),
                sget es nm = some n → True ∧ ∃ (y : Unit), True ∧ (n = Prod.fst (find2 es es2 nm) ∧ true = Prod.snd (find2 es es2 nm) ∧ True) ∧ (x = x ∧ (x2 = x2 ∧ m = m ∧ weakD d d ∧ True) ∧ m = m ∧ es = es ∧ x2 = x2 ∧ (True ∧ m2 = m2 ∧ weakD d2 d2 ∧ True) ∧ m2 = m2 ∧ es2 = es2 ∧ True) ∧ True) ∧
              (sget es nm = none →
                x = x ∧
                  (1 : Nat) ≤ (3 : Nat) ∧
                    x2 = x2 ∧
                      (2 : Nat) ≤ (3 : Nat) ∧
                        m2 = m2 ∧
                          (∀ (n : Int),
                              sget es2 nm = some n →
                                True ∧ ∃ (y : Unit), True ∧ (n = Prod.fst (find2 es es2 nm) ∧ true = Prod.snd (find2 es es2 nm) ∧ True) ∧ (x = x ∧ (x2 = x2 ∧ m = m ∧ weakD d d ∧ True) ∧ m = m ∧ es = es ∧ x2 = x2 ∧ (True ∧ m2 = m2 ∧ weakD d2 d2 ∧ True) ∧ m2 = m2 ∧ es2 = es2 ∧ True) ∧ True) ∧
                            (sget es2 nm = none →
                              x2 = x2 ∧
                                (1 : Nat) ≤ (3 : Nat) ∧
                                  True ∧ ∃ (y : Unit), True ∧ ((0 : Int) = Prod.fst (find2 es es2 nm) ∧ false = Prod.snd (find2 es es2 nm) ∧ True) ∧ (x = x ∧ (x2 = x2 ∧ m = m ∧ weakD d d ∧ True) ∧ m = m ∧ es = es ∧ x2 = x2 ∧ (True ∧ m2 = m2 ∧ weakD d2 d2 ∧ True) ∧ m2 = m2 ∧ es2 = es2 ∧ True) ∧ True))) (by kernel_rfl) ?_
  have hd := weakD_refl d
  have hd2 := weakD_refl d2
  refine ⟨rfl, by omega, rfl, fun n hg => ?_, fun hg => ⟨rfl, by omega, rfl, by omega, rfl, fun n hg2 => ?_, fun hg2 => ⟨rfl, by omega, ?_⟩⟩⟩
  · simp [find2, hg, hd, hd2]
  · simp [find2, find1, hg, hg2, hd, hd2]
  · simp [find2, find1, hg, hg2, hd, hd2]

/-! ### Depth of an inner scope -/
def sDepth2 (k x : Nat) (a b : D) (k2 x2 : Nat) (a2 b2 : D) : FnSpec where
  β := Unit
  α := Unit
  args := fun _ => [.ref k x 0]
  st := fun _ => ⟨[(k, x, .cells [.ref k2 x2 0, a, b]), (k2, x2, .cells [.nilp, a2, b2])], []⟩
  pre := fun _ => True
  post := fun _ _ => True
  res := fun _ _ => .ret (.int .i64 1)
  out := fun _ _ => ⟨[(k, x, .cells [.ref k2 x2 0, a, b]), (k2, x2, .cells [.nilp, a2, b2])], []⟩
noncomputable def E15 : Senv := { E0 con0 20 1 [2, 3, 12] with unr := fun _ => 3 }
theorem depth2_ok0 (x : Nat) (a b : D) (x2 : Nat) (a2 b2 : D) :
    ACalls Try.prog 15 ((sDepth2 0 x a b 1 x2 a2 b2).args ()) ((sDepth2 0 x a b 1 x2 a2 b2).st ()) (SpecR (sDepth2 0 x a b 1 x2 a2 b2) ()) := by
  refine con_of (A := sDepth2 0 x a b 1 x2 a2 b2) (x := ()) (E := E15) ⟨tab_ok, con0_ok, mix⟩ Try.func15 rfl rfl rfl (by simp [sDepth2, E15, E0]) ?_
  refine vc_eq (T :=
      x = x ∧ (1 : Nat) ≤ (3 : Nat) ∧ x = x ∧ (1 : Nat) ≤ (3 : Nat) ∧ x2 = x2 ∧ (1 : Nat) ≤ (3 : Nat) ∧ True ∧ ∃ (y : Unit), True ∧ (1 : Int) = (1 : Int) ∧ (x = x ∧ (x2 = x2 ∧ weakD a a ∧ weakD b b ∧ True) ∧ x2 = x2 ∧ (True ∧ weakD a2 a2 ∧ weakD b2 b2 ∧ True) ∧ True) ∧ True) (by kernel_rfl) ?_
  simp [weakD_refl]

/-! ### Names of a scope -/
def sNames (k x : Nat) (o mp : D) (n : Nat) (f : Nat → List D) (kt t : Nat) : FnSpec where
  β := Unit
  α := Unit
  args := fun _ => [.ref k x 0]
  st := fun _ => ⟨[(k, x, .cells [o, mp, .sl 1 n f (.tok kt t)])], []⟩
  pre := fun _ => n ≤ 1000000
  post := fun _ _ => True
  res := fun _ _ => .ret (.sl 1 n f .any)
  out := fun _ _ => ⟨[(k, x, .cells [o, mp, .sl 1 n f (.tok kt t)])], []⟩
theorem names_ok0 (x : Nat) (o mp : D) (n : Nat) (f : Nat → List D) (kt t : Nat) (hn : n ≤ 1000000) :
    ACalls Try.prog 18 ((sNames 0 x o mp n f kt t).args ()) ((sNames 0 x o mp n f kt t).st ()) (SpecR (sNames 0 x o mp n f kt t) ()) := by
  refine con_of (A := sNames 0 x o mp n f kt t) (x := ()) (E := E0 conA 10 1 [2, 4]) ⟨tab_ok, conA_ok, mix⟩ Try.func18 rfl rfl rfl (by simp [sNames, E0]) ?_
  refine vc_eq (T :=
      x = x ∧
        (3 : Nat) ≤ (3 : Nat) ∧
          ∃ (x_1 : Nat × (Nat → List D)),
            ((n = Prod.fst x_1 ∧ (∀ (i : Nat), i < n → f i = Prod.snd x_1 i) ∧ True) ∧ True) ∧
              (True ∧ True) ∧ Prod.fst x_1 ≤ (1000000 : Nat) ∧ ∀ (y : Unit), True → True ∧ ∃ (y : Unit), True ∧ (Prod.fst x_1 = n ∧ (∀ (i : Nat), i < Prod.fst x_1 → Prod.snd x_1 i = f i) ∧ True) ∧ (x = x ∧ (weakD o o ∧ weakD mp mp ∧ (n = n ∧ (∀ (i : Nat), i < n → f i = f i) ∧ t = t) ∧ True) ∧ True) ∧ True) (by kernel_rfl) ?_
  refine ⟨rfl, by omega, (n, f), ?_⟩
  have h1 := weakD_refl o
  have h2 := weakD_refl mp
  simp [h1, h2, hn]

/-! ### same -/
def strs (l : List (List UInt8)) : Nat → List D := fun i => [.str (l.getD i [])]
def sSame : FnSpec where
  β := List (List UInt8) × List (List UInt8)
  α := Unit
  args := fun x => [.sl 1 x.1.length (strs x.1) .any, .sl 1 x.2.length (strs x.2) .any]
  st := fun _ => ⟨[], []⟩
  pre := fun x => x.1.length ≤ 1000000
  post := fun _ _ => True
  res := fun x _ => .ret (.bool (decide (x.1 = x.2)))
  out := fun _ _ => ⟨[], []⟩
noncomputable def E17 (x : List (List UInt8) × List (List UInt8)) : Senv := { E0 con0 32 2 [4, 5, 15, 26] with
  ann := fun b _ _ => match b with
    | 0 => some { slots := [5], keep := [0, 1], α := Nat, st := fun i => ([.int .i64 i], ⟨[], []⟩), inv := fun i => i ≤ x.1.length ∧ i ≤ x.2.length ∧ x.1.take i = x.2.take i, mu := fun i => x.1.length - i }
    | _ => none
  ord := fun r => match r with
    | 4 => ([0, 1, 2, 3, 4, 5, 6, 7, 8], [])
    | _ => ([], []) }
theorem same_ok (x : sSame.β) (hx : sSame.pre x) : ACalls Try.prog 17 (sSame.args x) (sSame.st x) (SpecR sSame x) := by
  refine con_of (A := sSame) (x := x) (E := E17 x) ⟨tab_ok, con0_ok, mix⟩ Try.func17 rfl rfl rfl (by simp [sSame, E17, E0]) ?_
  refine vc_eq (T :=
      (∃ (x_1 : Nat), (x_1 ≤ List.length (Prod.fst x) ∧ x_1 ≤ List.length (Prod.snd x) ∧ List.take x_1 (Prod.fst x) = List.take x_1 (Prod.snd x)) ∧ ((0 : Int) = (↑x_1 : Int) ∧ True) ∧ True ∧ True) ∧
        ∀ (x_1 : Nat),
          x_1 ≤ List.length (Prod.fst x) ∧ x_1 ≤ List.length (Prod.snd x) ∧ List.take x_1 (Prod.fst x) = List.take x_1 (Prod.snd x) →
            ifB (decide ((↑x_1 : Int) < (↑(List.length (Prod.fst x)) : Int)))
              (ifB (decide ((↑x_1 : Int) < (↑(List.length (Prod.snd x)) : Int)))
                ((0 : Int) ≤ (↑x_1 : Int) ∧
                  (↑x_1 : Int) < (↑(List.length (Prod.fst x)) : Int) ∧
                    (1 : Nat) ≤ (1 : Nat) ∧
                      (0 : Int) ≤ (↑x_1 : Int) ∧
                        (↑x_1 : Int) < (↑(List.length (Prod.snd x)) : Int) ∧
                          (1 : Nat) ≤ (1 : Nat) ∧
                            ifB (List.getD (Prod.fst x) (Int.toNat (↑x_1 : Int)) [] != List.getD (Prod.snd x) (Int.toNat (↑x_1 : Int)) []) (True ∧ ∃ (y : Unit), True ∧ false = decide (Prod.fst x = Prod.snd x) ∧ True ∧ True)
                              ((D.sl (1 : Nat) (List.length (Prod.fst x)) (fun (i : Nat) => [D.str (List.getD (Prod.fst x) i [])]) Mode.any = D.sl (1 : Nat) (List.length (Prod.fst x)) (fun (i : Nat) => [D.str (List.getD (Prod.fst x) i [])]) Mode.any ∧
                                  D.sl (1 : Nat) (List.length (Prod.snd x)) (fun (i : Nat) => [D.str (List.getD (Prod.snd x) i [])]) Mode.any = D.sl (1 : Nat) (List.length (Prod.snd x)) (fun (i : Nat) => [D.str (List.getD (Prod.snd x) i [])]) Mode.any ∧ True) ∧
                                ∃ (y : Nat),
                                  (y ≤ List.length (Prod.fst x) ∧ y ≤ List.length (Prod.snd x) ∧ List.take y (Prod.fst x) = List.take y (Prod.snd x)) ∧ List.length (Prod.fst x) - y < List.length (Prod.fst x) - x_1 ∧ (IntKind.wrap IntKind.i64 ((↑x_1 : Int) + (1 : Int)) = (↑y : Int) ∧ True) ∧ True ∧ True))
                (True ∧ ∃ (y : Unit), True ∧ ((↑(List.length (Prod.fst x)) : Int) == (↑(List.length (Prod.snd x)) : Int)) = decide (Prod.fst x = Prod.snd x) ∧ True ∧ True))
              (True ∧ ∃ (y : Unit), True ∧ ((↑(List.length (Prod.fst x)) : Int) == (↑(List.length (Prod.snd x)) : Int)) = decide (Prod.fst x = Prod.snd x) ∧ True ∧ True)) (by kernel_rfl) ?_
  obtain ⟨l, r⟩ := x
  have hx : l.length ≤ 1000000 := hx
  simp only
  refine ⟨⟨0, ⟨by omega, by omega, by simp⟩, by simp⟩, ?_⟩
  rintro i ⟨h1, h2, h3⟩
  have fin : (¬ i < l.length ∨ ¬ i < r.length) → (((l.length : Int) == (r.length : Int)) = decide (l = r)) := by
    intro h
    by_cases e : l.length = r.length
    · have e1 : l.take i = l := List.take_of_length_le (by omega)
      have e2 : r.take i = r := List.take_of_length_le (by omega)
      rw [e1, e2] at h3
      simp [h3]
    · have : l ≠ r := fun q => e (by rw [q])
      have e' : ¬ (l.length : Int) = (r.length : Int) := by omega
      simp [this, e']
  have c1 : ((i : Int) < (l.length : Int)) ↔ i < l.length := by omega
  have c2 : ((i : Int) < (r.length : Int)) ↔ i < r.length := by omega
  simp only [ifB_iff, decide_eq_true_eq, decide_eq_false_iff_not, c1, c2]
  refine ⟨fun a => ⟨fun b => ⟨by omega, a, by omega, by omega, b, by omega, fun q => ?_, fun q => ?_⟩, fun b => ⟨trivial, (), trivial, fin (.inr b), trivial, trivial⟩⟩, fun a => ⟨trivial, (), trivial, fin (.inl a), trivial, trivial⟩⟩
  · refine ⟨trivial, (), trivial, ?_, trivial, trivial⟩
    have hne : l.getD i [] ≠ r.getD i [] := by simpa using q
    have : l ≠ r := fun e => hne (by rw [e])
    simp [this]
  · have heq : l.getD i [] = r.getD i [] := by simpa using q
    refine ⟨⟨trivial, trivial, trivial⟩, i + 1, ⟨by omega, by omega, ?_⟩, by omega, ⟨?_, trivial⟩, trivial, trivial⟩
    · rw [List.take_add_one, List.take_add_one, h3]
      simp only [List.getD_eq_getElem?_getD, List.getElem?_eq_getElem a, List.getElem?_eq_getElem b, Option.getD_some] at heq
      simp [List.getElem?_eq_getElem a, List.getElem?_eq_getElem b, heq]
    · rw [IntKind.wrap_i64]; omega

/-! ### under any tags -/
theorem find1_ok (k x : Nat) (nm : List UInt8) (km m : Nat) (d : D) (es : List (List UInt8 × Int)) : ACalls Try.prog 13 ((sFind1 k x nm km m d es).args ()) ((sFind1 k x nm km m d es).st ()) (SpecR (sFind1 k x nm km m d es) ()) := by
  refine (find1_ok0 x nm m d es).respec ?_ ?_ fun y _ => ⟨y, trivial, ?_, ?_⟩
  all_goals simp [sFind1, posS, posO, posT, weakO, weakL, weakD, weakD_refl, weakEnd, chk_iff, kEq, weakM]
theorem find2_ok (k x : Nat) (nm : List UInt8) (km m : Nat) (d : D) (es : List (List UInt8 × Int)) (k2 x2 km2 m2 : Nat) (d2 : D) (es2 : List (List UInt8 × Int)) :
    ACalls Try.prog 13 ((sFind2 k x nm km m d es k2 x2 km2 m2 d2 es2).args ()) ((sFind2 k x nm km m d es k2 x2 km2 m2 d2 es2).st ()) (SpecR (sFind2 k x nm km m d es k2 x2 km2 m2 d2 es2) ()) := by
  refine (find2_ok0 x nm m d es x2 m2 d2 es2).respec ?_ ?_ fun y _ => ⟨y, trivial, ?_, ?_⟩
  all_goals simp [sFind2, posS, posO, posT, weakO, weakL, weakD, weakD_refl, weakEnd, chk_iff, kEq, weakM]
theorem depth2_ok (k x : Nat) (a b : D) (k2 x2 : Nat) (a2 b2 : D) : ACalls Try.prog 15 ((sDepth2 k x a b k2 x2 a2 b2).args ()) ((sDepth2 k x a b k2 x2 a2 b2).st ()) (SpecR (sDepth2 k x a b k2 x2 a2 b2) ()) := by
  refine (depth2_ok0 x a b x2 a2 b2).respec ?_ ?_ fun y _ => ⟨y, trivial, ?_, ?_⟩
  all_goals simp [sDepth2, posS, posO, posT, weakO, weakL, weakD, weakD_refl, weakEnd, chk_iff, kEq, weakM]
theorem names_ok (k x : Nat) (o mp : D) (n : Nat) (f : Nat → List D) (kt t : Nat) (hn : n ≤ 1000000) : ACalls Try.prog 18 ((sNames k x o mp n f kt t).args ()) ((sNames k x o mp n f kt t).st ()) (SpecR (sNames k x o mp n f kt t) ()) := by
  refine (names_ok0 x o mp n f kt t hn).respec ?_ ?_ fun y _ => ⟨y, trivial, ?_, ?_⟩
  all_goals simp [sNames, posS, posO, posT, weakO, weakL, weakD, weakD_refl, weakEnd, chk_iff, kEq, weakM]

/-- The contract for a call of Find, read off the state. -/
def conFind (k x : Nat) (nm : List UInt8) (S : St) : Option FnSpec :=
  match getO S.objs k with
  | some (x', .cells [.nilp, .map km m, d]) => match getO S.objs km, k == km with
    | some (m', .amap .i64 es), false => some ((sFind1 k x nm km m d es).fits () (x' = x ∧ m' = m))
    | _, _ => none
  | some (x', .cells [.ref k2 x2 0, .map km m, d]) => match getO S.objs km, getO S.objs k2 with
    | some (m', .amap .i64 es), some (x2', .cells [.nilp, .map km2 m2, d2]) => match getO S.objs km2, nodupB [k, km, k2, km2] with
      | some (m2', .amap .i64 es2), true => some ((sFind2 k x nm km m d es k2 x2 km2 m2 d2 es2).fits () (x' = x ∧ m' = m ∧ x2' = x2 ∧ m2' = m2))
      | _, _ => none
    | _, _ => none
  | _ => none
/-- How a call's contract is right. -/
abbrev OkAt (k : Nat) (ds : List D) (S : St) (A : FnSpec) : Prop :=
  (∀ y, A.pre y → ACalls Try.prog k (A.args y) (A.st y) (SpecR A y)) ∧ ∀ y, A.fit = some y → A.pre y → weakL ds (A.args y) ∧ leS (A.st y) S
theorem conFind_ok {k x : Nat} {nm : List UInt8} {S : St} {A : FnSpec} (h : conFind k x nm S = some A) : OkAt 13 [.ref k x 0, .str nm] S A := by
  unfold conFind at h
  split at h
  · split at h
    · injection h with h; subst h
      refine FnSpec.fits_ok (fun _ _ => find1_ok ..) ?_
      rintro ⟨rfl, rfl⟩
      simp_all [sFind1, leS, leO, leT, chk_iff, nodupB, weakL, weakD, weakO, weakD_refl, kEq]
    · cases h
  · split at h
    · split at h
      · injection h with h; subst h
        refine FnSpec.fits_ok (fun _ _ => find2_ok ..) ?_
        rintro ⟨rfl, rfl, rfl, rfl⟩
        simp_all [sFind2, leS, leO, leT, chk_iff, nodupB, weakL, weakD, weakO, weakD_refl, kEq]
      · cases h
    · cases h
  · cases h
def defN (es : List (List UInt8 × Int)) (nm : List UInt8) (c : Int) (n : Nat) : Nat := if defE es nm c = 0 then n + 1 else n
def defF (es : List (List UInt8 × Int)) (nm : List UInt8) (c : Int) (n : Nat) (f : Nat → List D) : Nat → List D := if defE es nm c = 0 then appF n f (fun _ => [.str nm]) else f
def defM (es : List (List UInt8 × Int)) (nm : List UInt8) (c : Int) : List (List UInt8 × Int) := if defE es nm c = 0 then sput es nm c else es
def sDef (k x : Nat) (nm : List UInt8) (c : Int) (o : D) (km m n : Nat) (f : Nat → List D) (kt t : Nat) (es : List (List UInt8 × Int)) : FnSpec where
  β := Unit
  α := Nat
  args := fun _ => [.ref k x 0, .str nm, .int .i64 c]
  st := fun _ => ⟨[(k, x, .cells [o, .map km m, .sl 1 n f (.tok kt t)]), (km, m, .amap .i64 es)], [(kt, t)]⟩
  pre := fun _ => n ≤ 1000
  post := fun _ _ => True
  res := fun _ _ => .ret (.int .i64 (defE es nm c))
  out := fun _ t' => ⟨[(k, x, .cells [o, .map km m, .sl 1 (defN es nm c n) (defF es nm c n f) (.tok kt t')]), (km, m, .amap .i64 (defM es nm c))], [(kt, t')]⟩
def conDefine (k x : Nat) (nm : List UInt8) (c : Int) (S : St) : Option FnSpec :=
  match getO S.objs k with
  | some (x', .cells [o, .map km m, .sl 1 n f (.tok kt t)]) => match getO S.objs km, getT S.toks kt, k == km with
    | some (m', .amap .i64 es), some t', false => some ((sDef k x nm c o km m n f kt t es).fits () (x' = x ∧ m' = m ∧ t' = t))
    | _, _, _ => none
  | _ => none
theorem conDefine_ok {k x : Nat} {nm : List UInt8} {c : Int} {S : St} {A : FnSpec} (h : conDefine k x nm c S = some A) : OkAt 11 [.ref k x 0, .str nm, .int .i64 c] S A := by
  unfold conDefine at h
  split at h
  · split at h
    · injection h with h; subst h
      refine FnSpec.fits_ok (fun _ hy => define_ok _ _ _ _ _ _ _ _ _ _ _ _ hy) ?_
      rintro ⟨rfl, rfl, rfl⟩
      simp_all [sDef, leS, leO, leT, chk_iff, nodupB, weakL, weakD, weakO, weakM, weakD_refl, kEq]
    · cases h
  · cases h
def conDepth (k x : Nat) (S : St) : Option FnSpec :=
  match getO S.objs k with
  | some (x', .cells [.ref k2 x2 0, a, b]) => match getO S.objs k2, k == k2 with
    | some (x2', .cells [.nilp, a2, b2]), false => some ((sDepth2 k x a b k2 x2 a2 b2).fits () (x' = x ∧ x2' = x2))
    | _, _ => none
  | _ => none
theorem conDepth_ok {k x : Nat} {S : St} {A : FnSpec} (h : conDepth k x S = some A) : OkAt 15 [.ref k x 0] S A := by
  unfold conDepth at h
  split at h
  · split at h
    · injection h with h; subst h
      refine FnSpec.fits_ok (fun _ _ => depth2_ok ..) ?_
      rintro ⟨rfl, rfl⟩
      simp_all [sDepth2, leS, leO, leT, chk_iff, nodupB, weakL, weakD, weakO, weakD_refl]
    · cases h
  · cases h
def conNames (k x : Nat) (S : St) : Option FnSpec :=
  match getO S.objs k with
  | some (x', .cells [o, mp, .sl 1 n f (.tok kt t)]) => some ((sNames k x o mp n f kt t).fits () (x' = x))
  | _ => none
theorem conNames_ok {k x : Nat} {S : St} {A : FnSpec} (h : conNames k x S = some A) : OkAt 18 [.ref k x 0] S A := by
  unfold conNames at h
  split at h
  · injection h with h; subst h
    refine FnSpec.fits_ok (fun _ hy => names_ok _ _ _ _ _ _ _ _ hy) ?_
    rintro rfl
    simp_all [sNames, leS, leO, leT, chk_iff, nodupB, weakL, weakD, weakO, weakM, weakD_refl]
  · cases h
def conB (k : Nat) (ds : List D) (S : St) : Option FnSpec :=
  match k with
  | 7 => match ds with
    | [] => some ((sNew (nextTag S.objs + 1) (nextTag S.objs) (nextTok S.toks)).fits () True)
    | _ => none
  | 9 => match ds with
    | [.ref k x 0] => some ((sOpen (nextTag S.objs + 1) (nextTag S.objs) (nextTok S.toks) k x).fits () True)
    | _ => none
  | 11 => match ds with
    | [.ref k x 0, .str nm, .int .i64 c] => conDefine k x nm c S
    | _ => none
  | 13 => match ds with
    | [.ref k x 0, .str nm] => conFind k x nm S
    | _ => none
  | 15 => match ds with
    | [.ref k x 0] => conDepth k x S
    | _ => none
  | 17 => some sSame
  | 18 => match ds with
    | [.ref k x 0] => conNames k x S
    | _ => none
  | _ => none
theorem conB_ok : ConOk Try.prog conB := by
  intro k ds S A h
  unfold conB at h
  split at h
  · split at h
    · injection h with h; subst h
      exact FnSpec.fits_ok (fun _ _ => new_ok _ _ _) fun _ => by simp [sNew, weakL, leS, leO, leT, nodupB, chk_iff]
    · cases h
  · split at h
    · injection h with h; subst h
      exact FnSpec.fits_ok (fun _ _ => open_ok _ _ _ _ _) fun _ => by simp [sOpen, weakL, weakD, leS, leO, leT, nodupB, chk_iff]
    · cases h
  · split at h
    · exact conDefine_ok h
    · cases h
  · split at h
    · exact conFind_ok h
    · cases h
  · split at h
    · exact conDepth_ok h
    · cases h
  · injection h with h; subst h; exact ConOk.plain (fun x hx => same_ok x hx) rfl
  · split at h
    · exact conNames_ok h
    · cases h
  · cases h
end Go.Proofs.Ytkmgikcdlbibdaa
namespace Go.Proofs.Ytkmgikcdlbibdaa
open Go Go.Ab
def sAwake : FnSpec where
  β := Unit
  α := Unit
  args := fun _ => []
  st := fun _ => ⟨[], []⟩
  pre := fun _ => True
  post := fun _ _ => True
  res := fun _ _ => .ret (.bool true)
  out := fun _ _ => ⟨[], []⟩
theorem awake_ok : ACalls Try.prog 6 (sAwake.args ()) (sAwake.st ()) (SpecR sAwake ()) := by
  refine con_of (A := sAwake) (x := ()) (E := E0 conB 79 13 []) ⟨tab_ok, conB_ok, mix⟩ Try.func6 rfl rfl rfl (by simp [sAwake, E0]) ?_
  refine vc_eq (T :=
      (True ∧ True) ∧ ∀ (y : Nat × Nat × Nat), True → ((Prod.fst y = Prod.fst y ∧ Prod.fst (Prod.snd y) = Prod.fst (Prod.snd y) ∧ Prod.snd (Prod.snd y) = Prod.snd (Prod.snd y)) ∧ (0 : Nat) ≤ (1000 : Nat)) ∧ ∀ (y_1 :
      Nat), True → (True ∧ True) ∧ ∀ (y_2 : Nat × Nat × Nat), True → ((Prod.fst y_2 = Prod.fst y_2 ∧ Prod.fst (Prod.snd y_2) = Prod.fst (Prod.snd y_2) ∧ Prod.fst y = Prod.fst y ∧ Prod.fst (Prod.snd y) = Prod.fst
      (Prod.snd y)) ∧ True) ∧ ∀ (y_3 : Unit), True → ((Prod.fst y_2 = Prod.fst y_2 ∧ Prod.fst (Prod.snd y_2) = Prod.fst (Prod.snd y_2) ∧ Prod.snd (Prod.snd y_2) = Prod.snd (Prod.snd y_2)) ∧ (0 : Nat) ≤ (1000 : Nat)) ∧ ∀
      (y_4 : Nat), True → ((Prod.fst y_2 = Prod.fst y_2 ∧ Prod.fst (Prod.snd y_2) = Prod.fst (Prod.snd y_2) ∧ Prod.fst y = Prod.fst y ∧ Prod.fst (Prod.snd y) = Prod.fst (Prod.snd y)) ∧ True) ∧ ∀ (y_5 : Unit), True →
      ((Prod.fst y = Prod.fst y ∧ Prod.fst (Prod.snd y) = Prod.fst (Prod.snd y)) ∧ True) ∧ ∀ (y_6 : Unit), True → ((Prod.fst y = Prod.fst y ∧ Prod.fst (Prod.snd y) = Prod.fst (Prod.snd y) ∧ y_1 = y_1) ∧ (1 : Nat) ≤ (1000
      : Nat)) ∧ ∀ (y_7 : Nat), True → ((Prod.fst y = Prod.fst y ∧ Prod.fst (Prod.snd y) = Prod.fst (Prod.snd y) ∧ y_7 = y_7) ∧ (1 : Nat) ≤ (1000 : Nat)) ∧ ∀ (y_8 : Nat), True → ((Prod.fst y_2 = Prod.fst y_2 ∧ Prod.fst y
      = Prod.fst y) ∧ True) ∧ ∀ (y : Unit), True → True ∧ ∃ (y : Unit), True ∧ true = true ∧ True ∧ True) (by kernel_rfl) ?_
  simp
def conC (k : Nat) (ds : List D) (S : St) : Option FnSpec :=
  match k with
  | 6 => match ds with
    | [] => some (sAwake.fits () True)
    | _ => none
  | _ => conB k ds S
theorem conC_ok : ConOk Try.prog conC := by
  intro k ds S A h
  unfold conC at h
  split at h
  · split at h
    · injection h with h; subst h
      exact FnSpec.fits_ok (fun _ _ => awake_ok) fun _ => by simp [sAwake, weakL, leS, leO, leT, nodupB, chk_iff]
    · cases h
  · exact conB_ok _ _ _ _ h
theorem sget_sput (es : List (List UInt8 × Int)) (s t : List UInt8) (c : Int) : sget (sput es s c) t = if s = t then some c else sget es t := by
  induction es with
  | nil => simp [sput, sget]
  | cons p es ih =>
    simp only [sput]
    by_cases h : p.1 = s
    · subst h; by_cases h2 : p.1 = t <;> simp [sget, h2]
    · by_cases h2 : p.1 = t
      · subst h2; simp [sget, h, fun e => h (Eq.symm e)]; intro e; exact (h e.symm).elim
      · simp [sget, h, h2, ih]
theorem sget_defM (es : List (List UInt8 × Int)) (s t : List UInt8) (c : Int) : sget (defM es s c) t = if defE es s c = 0 ∧ s = t then some c else sget es t := by
  unfold defM
  split
  · rename_i h; rw [sget_sput]; simp [h]
  · rename_i h; simp [h]
theorem defE_zero {es : List (List UInt8 × Int)} {s : List UInt8} {c : Int} (h : defE es s c = 0) : 1 ≤ c ∧ c ≤ 4 ∧ validS s = true ∧ sget es s = none := by
  unfold defE at h
  split at h
  · cases h
  · rename_i h1
    split at h
    · cases h
    · rename_i h2
      split at h
      · cases h
      · rename_i h3
        refine ⟨by omega, by omega, by simpa using h2, h3⟩
theorem defE_dup {es : List (List UInt8 × Int)} {s : List UInt8} {c v : Int} (h1 : 1 ≤ c) (h2 : c ≤ 4) (h3 : validS s = true) (h4 : sget es s = some v) : defE es s c = 10 := by
  unfold defE
  rw [if_neg (by omega), if_neg (by simp [h3]), h4]
def sHides (nm ot : List UInt8) (c d : Int) : FnSpec where
  β := Unit
  α := Unit
  args := fun _ => [.str nm, .str ot, .int .i64 c, .int .i64 d]
  st := fun _ => ⟨[], []⟩
  pre := fun _ => True
  post := fun _ _ => True
  res := fun _ _ => .ret (.bool true)
  out := fun _ _ => ⟨[], []⟩
def cutH (id : Nat) (S : St) : Option LoopAnn := match id with
  | 12 => some { slots := [102], keep := [], α := Unit, st := fun _ => ([.bool false], ⟨[], []⟩), dry := true, inv := fun _ => True, mu := fun _ => 0 }
  | 14 => some { slots := [126], keep := [], α := Unit, st := fun _ => ([.bool false], ⟨[], []⟩), dry := true, inv := fun _ => True, mu := fun _ => 0 }
  | 16 => some { slots := [149], keep := [], α := Unit, st := fun _ => ([.bool false], ⟨[], []⟩), inv := fun _ => True, mu := fun _ => 0 }
  | 18 => some { slots := [8], keep := [], α := Unit, st := fun _ => ([.bool true], ⟨[], []⟩), inv := fun _ => True, mu := fun _ => 0 }
  | _ => none
noncomputable def E4 : Senv := { E0 conC 164 4 [8, 9, 10, 11, 12, 13, 14, 15, 16, 17, 18, 19, 20, 21, 22, 30, 102, 126, 149] with cut := fun id _ S => cutH id S }
theorem hides_ok (nm ot : List UInt8) (c d : Int) : ACalls Try.prog 4 ((sHides nm ot c d).args ()) ((sHides nm ot c d).st ()) (SpecR (sHides nm ot c d) ()) := by
  refine con_of (A := sHides nm ot c d) (x := ()) (E := E4) ⟨tab_ok, conC_ok, mix⟩ Try.func4 rfl rfl rfl (by simp [sHides, E4, E0]) ?_
  refine vc_eq (T :=
      ifB (decide ((200 : Int) < (↑(List.length nm) : Int))) ((True ∧ True) ∧ ∀ (y : Unit), True → True ∧ ∃ (y : Unit), True ∧ true = true ∧ True ∧ True) (ifB (decide ((200 : Int) < (↑(List.length ot) : Int))) ((True ∧
      True) ∧ ∀ (y : Unit), True → True ∧ ∃ (y : Unit), True ∧ true = true ∧ True ∧ True) ((True ∧ True) ∧ ∀ (y : Nat × Nat × Nat), True → ((Prod.fst y = Prod.fst y ∧ Prod.fst (Prod.snd y) = Prod.fst (Prod.snd y) ∧
      Prod.snd (Prod.snd y) = Prod.snd (Prod.snd y)) ∧ (0 : Nat) ≤ (1000 : Nat)) ∧ ∀ (y_1 : Nat), True → (True ∧ True) ∧ ∀ (y_2 : Nat × Nat × Nat), True → (True ∧ True) ∧ ∀ (y_3 : Nat × Nat × Nat), True → ((Prod.fst y_2
      = Prod.fst y_2 ∧ Prod.fst (Prod.snd y_2) = Prod.fst (Prod.snd y_2) ∧ Prod.snd (Prod.snd y_2) = Prod.snd (Prod.snd y_2)) ∧ (0 : Nat) ≤ (1000 : Nat)) ∧ ∀ (y_4 : Nat), True → ((Prod.fst y_2 = Prod.fst y_2 ∧ Prod.fst
      (Prod.snd y_2) = Prod.fst (Prod.snd y_2) ∧ y_4 = y_4) ∧ defN [] nm d (0 : Nat) ≤ (1000 : Nat)) ∧ ∀ (y_5 : Nat), True → ((Prod.fst y = Prod.fst y ∧ Prod.fst (Prod.snd y) = Prod.fst (Prod.snd y)) ∧ True) ∧ ∀ (y_6 :
      Unit), True → ((Prod.fst y_2 = Prod.fst y_2 ∧ Prod.fst (Prod.snd y_2) = Prod.fst (Prod.snd y_2) ∧ Prod.fst y = Prod.fst y ∧ Prod.fst (Prod.snd y) = Prod.fst (Prod.snd y)) ∧ True) ∧ ∀ (y_7 : Unit), True → ((Prod.fst
      y_3 = Prod.fst y_3 ∧ Prod.fst (Prod.snd y_3) = Prod.fst (Prod.snd y_3) ∧ Prod.fst y = Prod.fst y ∧ Prod.fst (Prod.snd y) = Prod.fst (Prod.snd y)) ∧ True) ∧ ∀ (y_8 : Unit), True → ((Prod.fst y = Prod.fst y ∧
      Prod.fst (Prod.snd y) = Prod.fst (Prod.snd y)) ∧ True) ∧ ∀ (y : Unit), True → ifB (defE [] nm c == (0 : Int)) (ifB (Prod.fst (find1 (defM [] nm c) nm) != c) (∃ (x : Unit), True ∧ true = false ∧ True) (ifB
      (!Prod.snd (find1 (defM [] nm c) nm)) (∃ (x : Unit), True ∧ true = false ∧ True) (ifB (Prod.fst (find2 [] (defM [] nm c) nm) != c) (∃ (x : Unit), True ∧ true = false ∧ True) (ifB (!Prod.snd (find2 [] (defM [] nm c)
      nm)) (∃ (x : Unit), True ∧ true = false ∧ True) (ifB (defE [] nm c != (0 : Int)) (ifB (Prod.snd (find1 (defM [] nm c) nm)) (∃ (x : Unit), True ∧ true = false ∧ True) (∃ (x : Unit), True ∧ Prod.snd (find2 [] (defM
      [] nm c) nm) = false ∧ True)) (∃ (x : Unit), True ∧ false = false ∧ True)))))) (ifB (defE [] nm c != (0 : Int)) (ifB (Prod.snd (find1 (defM [] nm c) nm)) (∃ (x : Unit), True ∧ true = false ∧ True) (∃ (x : Unit),
      True ∧ Prod.snd (find2 [] (defM [] nm c) nm) = false ∧ True)) (∃ (x : Unit), True ∧ false = false ∧ True)) ∧ ∀ (x : Unit), True → ifB (defE [] nm d == (0 : Int)) (ifB (Prod.fst (find2 (defM (defM [] nm d) ot d)
      (defM [] nm c) nm) != d) (∃ (x : Unit), True ∧ true = false ∧ True) (ifB (!Prod.snd (find2 (defM (defM [] nm d) ot d) (defM [] nm c) nm)) (∃ (x : Unit), True ∧ true = false ∧ True) (ifB (defE [] nm d != (0 : Int))
      (ifB (defE [] nm c == (0 : Int)) (∃ (x : Unit), True ∧ (Prod.fst (find2 (defM (defM [] nm d) ot d) (defM [] nm c) nm) != c) = false ∧ True) (∃ (x : Unit), True ∧ false = false ∧ True)) (∃ (x : Unit), True ∧ false =
      false ∧ True)))) (ifB (defE [] nm d != (0 : Int)) (ifB (defE [] nm c == (0 : Int)) (∃ (x : Unit), True ∧ (Prod.fst (find2 (defM (defM [] nm d) ot d) (defM [] nm c) nm) != c) = false ∧ True) (∃ (x : Unit), True ∧
      false = false ∧ True)) (∃ (x : Unit), True ∧ false = false ∧ True)) ∧ ∀ (x : Unit), True → ifB (defE [] nm d == (0 : Int)) (ifB (defE (defM [] nm d) ot d == (0 : Int)) (ifB (ot != nm) (ifB (Prod.snd (find1 (defM []
      nm c) ot)) (∃ (x : Unit), True ∧ (true = false ∧ True) ∧ True ∧ True) ((Prod.fst y_2 = Prod.fst y_2 ∧ defN (defM [] nm d) ot d (defN [] nm d (0 : Nat)) ≤ (1000000 : Nat)) ∧ ∀ (y : Unit), True → ∃ (x : List (List
      UInt8) × List (List UInt8)), ((defN (defM [] nm d) ot d (defN [] nm d (0 : Nat)) = List.length (Prod.fst x) ∧ (∀ (i : Nat), i < defN (defM [] nm d) ot d (defN [] nm d (0 : Nat)) → defF (defM [] nm d) ot d (defN []
      nm d (0 : Nat)) (defF [] nm d (0 : Nat) fun (x : Nat) => []) i = [D.str (List.getD (Prod.fst x) i [])]) ∧ True) ∧ ((2 : Nat) = List.length (Prod.snd x) ∧ (∀ (i : Nat), i < (2 : Nat) → List.getD [[D.str nm], [D.str
      ot]] i [] = [D.str (List.getD (Prod.snd x) i [])]) ∧ True) ∧ True) ∧ (True ∧ True) ∧ List.length (Prod.fst x) ≤ (1000000 : Nat) ∧ ∀ (y : Unit), True → ∃ (x_1 : Unit), True ∧ ((!decide (Prod.fst x = Prod.snd x)) =
      false ∧ True) ∧ True ∧ True)) (∃ (x : Unit), True ∧ (false = false ∧ True) ∧ True ∧ True)) (∃ (x : Unit), True ∧ (false = false ∧ True) ∧ True ∧ True)) (∃ (x : Unit), True ∧ (false = false ∧ True) ∧ True ∧ True) ∧
      ∀ (x : Unit), True → ifB (defE [] nm d != (0 : Int)) ((True ∧ True) ∧ ∀ (y : Unit), True → ∃ (x : Unit), True ∧ (true = true ∧ True) ∧ True ∧ True) (ifB (ot != nm) ((True ∧ True) ∧ ∀ (y : Unit), True → ∃ (x :
      Unit), True ∧ (true = true ∧ True) ∧ True ∧ True) (ifB (defE (defM [] nm d) ot d == (10 : Int)) ((True ∧ True) ∧ ∀ (y : Unit), True → ∃ (x : Unit), True ∧ (true = true ∧ True) ∧ True ∧ True) (∃ (x : Unit), True ∧
      (false = true ∧ True) ∧ True ∧ True))) ∧ ∀ (x : Unit), True → True ∧ ∃ (y : Unit), True ∧ true = true ∧ True ∧ True))) (by kernel_rfl) ?_
  have hN : ∀ es s (c : Int) n, defN es s c n ≤ n + 1 := by intro es s c n; unfold defN; split <;> omega
  have hn1 := hN [] nm d 0
  have hn2 := hN (defM [] nm d) ot d (defN [] nm d 0)
  have e1 : find1 (defM [] nm c) nm = if defE [] nm c = 0 then (c, true) else (0, false) := by
    unfold find1; rw [sget_defM]; by_cases h : defE [] nm c = 0 <;> simp [h, sget]
  have e2 : find2 [] (defM [] nm c) nm = find1 (defM [] nm c) nm := by simp [find2, sget]
  have e3 : ot ≠ nm → find1 (defM [] nm c) ot = (0, false) := by
    intro h; unfold find1; rw [sget_defM]; simp [sget, h.symm]
  have e4 : defE [] nm d = 0 → ot = nm → defE (defM [] nm d) ot d = 10 := by
    intro h e; subst e
    obtain ⟨h1, h2, h3, _⟩ := defE_zero h
    exact defE_dup (v := d) h1 h2 h3 (by rw [sget_defM]; simp [h])
  have e5 : defE [] nm d = 0 → find2 (defM (defM [] nm d) ot d) (defM [] nm c) nm = (d, true) := by
    intro h
    unfold find2
    rw [sget_defM, sget_defM]
    simp only [h, true_and, if_true, and_self]
    split
    · rename_i q; split at q <;> simp_all
    · rename_i q; split at q <;> simp_all
  have e6 : defE [] nm d ≠ 0 → defE [] nm c = 0 → find2 (defM (defM [] nm d) ot d) (defM [] nm c) nm = (c, true) := by
    intro h k
    have hm : defM [] nm d = [] := by simp [defM, h]
    unfold find2
    rw [hm, sget_defM, e1, if_pos k]
    by_cases ho : ot = nm
    · subst ho; simp [h, sget]
    · simp [ho, sget]
  have e7 : defE [] nm d = 0 → defE (defM [] nm d) ot d = 0 → defN (defM [] nm d) ot d (defN [] nm d 0) = 2 ∧ ∀ i, i < 2 → defF (defM [] nm d) ot d (defN [] nm d 0) (defF [] nm d 0 fun _ => []) i = [D.str ([nm, ot].getD i [])] := by
    intro h k
    simp only [defN, defF, h, k, if_true]
    refine ⟨trivial, fun i hi => ?_⟩
    have : i = 0 ∨ i = 1 := by omega
    rcases this with rfl | rfl <;> simp [appF]
  have b1 : defN [] nm d 0 ≤ 1000 := by omega
  have b2 : defN (defM [] nm d) ot d (defN [] nm d 0) ≤ 1000000 := by omega
  rw [e2, e1]
  by_cases ho : ot = nm
  · subst ho
    by_cases k : defE [] ot c = 0 <;> by_cases h : defE [] ot d = 0
    · simp [ifB_iff, k, h, b1, e4 h rfl, e5 h]
    · simp [ifB_iff, k, h, b1, e6 h k]
    · simp [ifB_iff, k, h, b1, e4 h rfl, e5 h]
    · simp [ifB_iff, k, h, b1]
  · have fin : defE [] nm d = 0 → defE (defM [] nm d) ot d = 0 → ∃ a : List (List UInt8), ((defN (defM [] nm d) ot d (defN [] nm d 0) = a.length ∧ ∀ (i : Nat), i < defN (defM [] nm d) ot d (defN [] nm d 0) → defF (defM [] nm d) ot d (defN [] nm d 0) (defF [] nm d 0 fun _ => []) i = [D.str (a[i]?.getD [])]) ∧
        2 = a.length ∧ ∀ (i : Nat), i < 2 → [[D.str nm], [D.str ot]][i]?.getD [] = [D.str (a[i]?.getD [])]) ∧ a.length ≤ 1000000 := by
      intro h g
      obtain ⟨q1, q2⟩ := e7 h g
      refine ⟨[nm, ot], ⟨⟨by simp [q1], fun i hi => ?_⟩, rfl, fun i hi => ?_⟩, by simp⟩
      · rw [q1] at hi; simpa using q2 i hi
      · have : i = 0 ∨ i = 1 := by omega
        rcases this with rfl | rfl <;> simp
    by_cases k : defE [] nm c = 0 <;> by_cases h : defE [] nm d = 0
    · simp [ifB_iff, k, h, ho, b1, b2, e3 ho, e5 h]
      exact fun _ _ g => fin h g
    · simp [ifB_iff, k, h, ho, b1, b2, e3 ho, e6 h k]
    · simp [ifB_iff, k, h, ho, b1, b2, e3 ho, e5 h]
      exact fun _ _ g => fin h g
    · simp [ifB_iff, k, h, ho, b1, b2, e3 ho]
end Go.Proofs.Ytkmgikcdlbibdaa
namespace Go.Proofs.Ytkmgikcdlbibdaa
open Go Go.Ab

/-! ### NamesOrder -/
def oes (l : List (List UInt8)) : Nat → List (List UInt8 × Int)
  | 0 => []
  | i + 1 => defM (oes l i) (l.getD i []) 2
def owant (l : List (List UInt8)) : Nat → List (List UInt8)
  | 0 => []
  | i + 1 => if defE (oes l i) (l.getD i []) 2 = 0 then owant l i ++ [l.getD i []] else owant l i
def sOrder : FnSpec where
  β := List (List UInt8)
  α := Unit
  args := fun l => [.sl 1 l.length (strs l) .any]
  st := fun _ => ⟨[], []⟩
  pre := fun _ => True
  post := fun _ _ => True
  res := fun _ _ => .ret (.bool true)
  out := fun _ _ => ⟨[], []⟩
def annO (l : List (List UInt8)) (b : Nat) (S : St) : Option LoopAnn := match b with
  | 0 => some { slots := [3, 4, 5], keep := [0], α := Nat × Nat × Nat × Nat × Nat, st := fun x => ([.ref 1 x.2.1 0, .sl 1 (owant l x.1).length (strs (owant l x.1)) (.tok 1 x.2.2.2.2), .int .i64 x.1], ⟨[(1, x.2.1, .cells [.nilp, .map 0 x.2.2.1, .sl 1 (owant l x.1).length (strs (owant l x.1)) (.tok 0 x.2.2.2.1)]), (0, x.2.2.1, .amap .i64 (oes l x.1))], [(1, x.2.2.2.2), (0, x.2.2.2.1)]⟩), inv := fun x => x.1 ≤ l.length, mu := fun x => l.length - x.1 }
  | 2 => match S.objs with
    | [(k, y, .cells [.nilp, .map km m, .sl 1 n f (.tok kt _)]), (_, _, .amap .i64 es)] => some { slots := [6], keep := [0, 3, 4], α := Nat × Nat, st := fun x => ([.int .i64 x.1], ⟨[(k, y, .cells [.nilp, .map km m, .sl 1 n f (.tok kt x.2)]), (km, m, .amap .i64 es)], [(kt, x.2)]⟩), inv := fun x => x.1 ≤ n, mu := fun x => n - x.1 }
    | _ => none
  | 4 => some { slots := [7], keep := [0, 3, 4, 6], α := Nat, st := fun x => ([.int .i64 x], S), inv := fun _ => True, mu := fun x => 100 - x }
  | _ => none
noncomputable def E5 (l : List (List UInt8)) : Senv := { E0 conC 68 1 [2, 3, 4, 5, 6, 7, 10, 17, 26, 37, 46, 49, 60] with
  gh := fun b => match b with
    | 0 => [.slot 4]
    | _ => []
  ann := fun b _ S => annO l b S
  ord := fun id => match id with
    | 18 => ([0, 1, 2, 3, 4, 5, 6, 7, 8], [])
    | _ => ([], []) }
theorem owant_len (l : List (List UInt8)) (i : Nat) : (owant l i).length ≤ i := by
  induction i with
  | zero => simp [owant]
  | succ i ih => simp only [owant]; split <;> (try rw [List.length_append]) <;> (try simp only [List.length_cons, List.length_nil]) <;> omega
theorem owant_in (l : List (List UInt8)) (i : Nat) : (owant l i).Nodup ∧ ∀ s, (s ∈ owant l i → validS s = true ∧ ∃ v, sget (oes l i) s = some v) ∧ (sget (oes l i) s ≠ none → s ∈ owant l i) := by
  induction i with
  | zero => simp [owant, oes, sget]
  | succ i ih =>
    obtain ⟨h1, h2⟩ := ih
    simp only [owant, oes]
    split
    · rename_i h
      obtain ⟨_, _, hv, hn⟩ := defE_zero h
      have hni : l.getD i [] ∉ owant l i := fun hm => by
        obtain ⟨_, v, hg⟩ := (h2 _).1 hm
        rw [hn] at hg; cases hg
      refine ⟨List.nodup_append.2 ⟨h1, by simp, fun a ha b hb => ?_⟩, fun s => ⟨fun hs => ?_, fun hs => ?_⟩⟩
      · rw [List.mem_singleton] at hb; subst hb; exact fun e => hni (e ▸ ha)
      · rw [sget_defM]
        rcases List.mem_append.1 hs with hs | hs
        · refine ⟨((h2 s).1 hs).1, ?_⟩
          split
          · exact ⟨_, rfl⟩
          · exact ((h2 s).1 hs).2
        · rw [List.mem_singleton] at hs; subst hs
          exact ⟨hv, 2, if_pos ⟨h, rfl⟩⟩
      · rw [sget_defM] at hs
        split at hs
        · rename_i q; rw [← q.2]; simp
        · exact List.mem_append.2 (.inl ((h2 s).2 hs))
    · rename_i h
      refine ⟨h1, fun s => ?_⟩
      rw [sget_defM, if_neg fun q => h q.1]
      exact h2 s
theorem ostep (l : List (List UInt8)) (i : Nat) (f : Nat → List D) (hf : ∀ j, j < (owant l i).length → f j = [.str ((owant l i).getD j [])]) :
    defN (oes l i) (l.getD i []) 2 (owant l i).length = (owant l (i + 1)).length ∧ ∀ j, j < (owant l (i + 1)).length → defF (oes l i) (l.getD i []) 2 (owant l i).length f j = [.str ((owant l (i + 1)).getD j [])] := by
  simp only [defN, defF, owant]
  split
  · refine ⟨by simp, fun j hj => ?_⟩
    simp only [List.length_append, List.length_cons, List.length_nil] at hj
    by_cases h : j < (owant l i).length
    · simp [appF, h, hf j h, List.getElem?_append_left h]
    · have : j = (owant l i).length := by omega
      subst this; simp [appF]
  · exact ⟨rfl, fun j hj => hf j hj⟩
theorem odup (l : List (List UInt8)) (i j : Nat) (hj : j < (owant l i).length) : defE (oes l i) ((owant l i).getD j []) 1 = 10 := by
  have hm : (owant l i).getD j [] ∈ owant l i := by
    rw [List.getD_eq_getElem?_getD, List.getElem?_eq_getElem hj]; exact List.getElem_mem hj
  obtain ⟨hv, v, hg⟩ := ((owant_in l i).2 _).1 hm
  exact defE_dup (by omega) (by omega) hv hg
theorem order_ok (l : List (List UInt8)) : ACalls Try.prog 5 (sOrder.args l) (sOrder.st l) (SpecR sOrder l) := by
  refine con_of (A := sOrder) (x := l) (E := E5 l) ⟨tab_ok, conC_ok, mix⟩ Try.func5 rfl rfl rfl (by simp [sOrder, E5, E0]) ?_
  refine vc_eq (T :=
      ifB (decide ((60 : Int) < (↑(List.length l) : Int))) ((True ∧ True) ∧ ∀ (y : Unit), True → True ∧ ∃ (y : Unit), True ∧ true = true ∧ True ∧ True) ((True ∧ True) ∧ ∀ (y : Nat × Nat × Nat), True → ∀ (t : Nat), (∃ (x
      : Nat × Nat × Nat × Nat × Nat), Prod.fst x ≤ List.length l ∧ (Prod.fst y = Prod.fst (Prod.snd x) ∧ ((0 : Nat) = List.length (owant l (Prod.fst x)) ∧ (∀ (i : Nat), i < (0 : Nat) → eqOf (List D) [] [D.str (List.getD
      (owant l (Prod.fst x)) i [])]) ∧ t = Prod.snd (Prod.snd (Prod.snd (Prod.snd x)))) ∧ (0 : Int) = (↑(Prod.fst x) : Int) ∧ True) ∧ (Prod.fst y = Prod.fst (Prod.snd x) ∧ (True ∧ Prod.fst (Prod.snd y) = Prod.fst
      (Prod.snd (Prod.snd x)) ∧ ((0 : Nat) = List.length (owant l (Prod.fst x)) ∧ (∀ (i : Nat), i < (0 : Nat) → eqOf (List D) [] [D.str (List.getD (owant l (Prod.fst x)) i [])]) ∧ Prod.snd (Prod.snd y) = Prod.fst
      (Prod.snd (Prod.snd (Prod.snd x)))) ∧ True) ∧ Prod.fst (Prod.snd y) = Prod.fst (Prod.snd (Prod.snd x)) ∧ eqOf (List (List UInt8 × Int)) [] (oes l (Prod.fst x)) ∧ True) ∧ t = Prod.snd (Prod.snd (Prod.snd (Prod.snd
      x))) ∧ Prod.snd (Prod.snd y) = Prod.fst (Prod.snd (Prod.snd (Prod.snd x))) ∧ True) ∧ ∀ (x : Nat × Nat × Nat × Nat × Nat), Prod.fst x ≤ List.length l → ifB (decide ((↑(Prod.fst x) : Int) < (↑(List.length l) : Int)))
      ((0 : Int) ≤ (↑(Prod.fst x) : Int) ∧ (↑(Prod.fst x) : Int) < (↑(List.length l) : Int) ∧ (1 : Nat) ≤ (1 : Nat) ∧ ((Prod.fst (Prod.snd x) = Prod.fst (Prod.snd x) ∧ Prod.fst (Prod.snd (Prod.snd x)) = Prod.fst
      (Prod.snd (Prod.snd x)) ∧ Prod.fst (Prod.snd (Prod.snd (Prod.snd x))) = Prod.fst (Prod.snd (Prod.snd (Prod.snd x)))) ∧ List.length (owant l (Prod.fst x)) ≤ (1000 : Nat)) ∧ ∀ (y : Nat), True → ifB (defE (oes l
      (Prod.fst x)) (List.getD l (Int.toNat (↑(Prod.fst x) : Int)) []) (2 : Int) == (0 : Int)) ((0 : Int) ≤ (↑(Prod.fst x) : Int) ∧ (↑(Prod.fst x) : Int) < (↑(List.length l) : Int) ∧ (1 : Nat) ≤ (1 : Nat) ∧ Prod.snd
      (Prod.snd (Prod.snd (Prod.snd x))) = Prod.snd (Prod.snd (Prod.snd (Prod.snd x))) ∧ (List.length (owant l (Prod.fst x)) + (1 : Nat)) * (16 : Nat) ≤ (140737488355328 : Nat) ∧ List.length (owant l (Prod.fst x)) + (1 :
      Nat) ≤ (9223372036854775807 : Nat) ∧ ∀ (t : Nat), (D.sl (1 : Nat) (List.length l) (fun (i : Nat) => [D.str (List.getD l i [])]) Mode.any = D.sl (1 : Nat) (List.length l) (fun (i : Nat) => [D.str (List.getD l i
      [])]) Mode.any ∧ True) ∧ ∃ (y_1 : Nat × Nat × Nat × Nat × Nat), Prod.fst y_1 ≤ List.length l ∧ List.length l - Prod.fst y_1 < List.length l - Prod.fst x ∧ (Prod.fst (Prod.snd x) = Prod.fst (Prod.snd y_1) ∧
      (List.length (owant l (Prod.fst x)) + (1 : Nat) = List.length (owant l (Prod.fst y_1)) ∧ (∀ (i : Nat), i < List.length (owant l (Prod.fst x)) + (1 : Nat) → appF (List.length (owant l (Prod.fst x))) (fun (i : Nat)
      => [D.str (List.getD (owant l (Prod.fst x)) i [])]) (fun (i : Nat) => List.getD [[D.str (List.getD l (Int.toNat (↑(Prod.fst x) : Int)) [])]] i []) i = [D.str (List.getD (owant l (Prod.fst y_1)) i [])]) ∧ t =
      Prod.snd (Prod.snd (Prod.snd (Prod.snd y_1)))) ∧ IntKind.wrap IntKind.i64 ((↑(Prod.fst x) : Int) + (1 : Int)) = (↑(Prod.fst y_1) : Int) ∧ True) ∧ (Prod.fst (Prod.snd x) = Prod.fst (Prod.snd y_1) ∧ (True ∧ Prod.fst
      (Prod.snd (Prod.snd x)) = Prod.fst (Prod.snd (Prod.snd y_1)) ∧ (defN (oes l (Prod.fst x)) (List.getD l (Int.toNat (↑(Prod.fst x) : Int)) []) (2 : Int) (List.length (owant l (Prod.fst x))) = List.length (owant l
      (Prod.fst y_1)) ∧ (∀ (i : Nat), i < defN (oes l (Prod.fst x)) (List.getD l (Int.toNat (↑(Prod.fst x) : Int)) []) (2 : Int) (List.length (owant l (Prod.fst x))) → defF (oes l (Prod.fst x)) (List.getD l (Int.toNat
      (↑(Prod.fst x) : Int)) []) (2 : Int) (List.length (owant l (Prod.fst x))) (fun (i : Nat) => [D.str (List.getD (owant l (Prod.fst x)) i [])]) i = [D.str (List.getD (owant l (Prod.fst y_1)) i [])]) ∧ y = Prod.fst
      (Prod.snd (Prod.snd (Prod.snd y_1)))) ∧ True) ∧ Prod.fst (Prod.snd (Prod.snd x)) = Prod.fst (Prod.snd (Prod.snd y_1)) ∧ defM (oes l (Prod.fst x)) (List.getD l (Int.toNat (↑(Prod.fst x) : Int)) []) (2 : Int) = oes l
      (Prod.fst y_1) ∧ True) ∧ t = Prod.snd (Prod.snd (Prod.snd (Prod.snd y_1))) ∧ y = Prod.fst (Prod.snd (Prod.snd (Prod.snd y_1))) ∧ True) ((D.sl (1 : Nat) (List.length l) (fun (i : Nat) => [D.str (List.getD l i [])])
      Mode.any = D.sl (1 : Nat) (List.length l) (fun (i : Nat) => [D.str (List.getD l i [])]) Mode.any ∧ True) ∧ ∃ (y_1 : Nat × Nat × Nat × Nat × Nat), Prod.fst y_1 ≤ List.length l ∧ List.length l - Prod.fst y_1 <
      List.length l - Prod.fst x ∧ (Prod.fst (Prod.snd x) = Prod.fst (Prod.snd y_1) ∧ (List.length (owant l (Prod.fst x)) = List.length (owant l (Prod.fst y_1)) ∧ (∀ (i : Nat), i < List.length (owant l (Prod.fst x)) →
      [D.str (List.getD (owant l (Prod.fst x)) i [])] = [D.str (List.getD (owant l (Prod.fst y_1)) i [])]) ∧ Prod.snd (Prod.snd (Prod.snd (Prod.snd x))) = Prod.snd (Prod.snd (Prod.snd (Prod.snd y_1)))) ∧ IntKind.wrap
      IntKind.i64 ((↑(Prod.fst x) : Int) + (1 : Int)) = (↑(Prod.fst y_1) : Int) ∧ True) ∧ (Prod.fst (Prod.snd x) = Prod.fst (Prod.snd y_1) ∧ (True ∧ Prod.fst (Prod.snd (Prod.snd x)) = Prod.fst (Prod.snd (Prod.snd y_1)) ∧
      (defN (oes l (Prod.fst x)) (List.getD l (Int.toNat (↑(Prod.fst x) : Int)) []) (2 : Int) (List.length (owant l (Prod.fst x))) = List.length (owant l (Prod.fst y_1)) ∧ (∀ (i : Nat), i < defN (oes l (Prod.fst x))
      (List.getD l (Int.toNat (↑(Prod.fst x) : Int)) []) (2 : Int) (List.length (owant l (Prod.fst x))) → defF (oes l (Prod.fst x)) (List.getD l (Int.toNat (↑(Prod.fst x) : Int)) []) (2 : Int) (List.length (owant l
      (Prod.fst x))) (fun (i : Nat) => [D.str (List.getD (owant l (Prod.fst x)) i [])]) i = [D.str (List.getD (owant l (Prod.fst y_1)) i [])]) ∧ y = Prod.fst (Prod.snd (Prod.snd (Prod.snd y_1)))) ∧ True) ∧ Prod.fst
      (Prod.snd (Prod.snd x)) = Prod.fst (Prod.snd (Prod.snd y_1)) ∧ defM (oes l (Prod.fst x)) (List.getD l (Int.toNat (↑(Prod.fst x) : Int)) []) (2 : Int) = oes l (Prod.fst y_1) ∧ True) ∧ Prod.snd (Prod.snd (Prod.snd
      (Prod.snd x))) = Prod.snd (Prod.snd (Prod.snd (Prod.snd y_1))) ∧ y = Prod.fst (Prod.snd (Prod.snd (Prod.snd y_1))) ∧ True)) ((∃ (x_1 : Nat × Nat), Prod.fst x_1 ≤ List.length (owant l (Prod.fst x)) ∧ ((0 : Int) =
      (↑(Prod.fst x_1) : Int) ∧ True) ∧ (Prod.fst (Prod.snd x) = Prod.fst (Prod.snd x) ∧ (True ∧ Prod.fst (Prod.snd (Prod.snd x)) = Prod.fst (Prod.snd (Prod.snd x)) ∧ (List.length (owant l (Prod.fst x)) = List.length
      (owant l (Prod.fst x)) ∧ (∀ (i : Nat), i < List.length (owant l (Prod.fst x)) → [D.str (List.getD (owant l (Prod.fst x)) i [])] = [D.str (List.getD (owant l (Prod.fst x)) i [])]) ∧ Prod.fst (Prod.snd (Prod.snd
      (Prod.snd x))) = Prod.snd x_1) ∧ True) ∧ Prod.fst (Prod.snd (Prod.snd x)) = Prod.fst (Prod.snd (Prod.snd x)) ∧ oes l (Prod.fst x) = oes l (Prod.fst x) ∧ True) ∧ Prod.fst (Prod.snd (Prod.snd (Prod.snd x))) =
      Prod.snd x_1 ∧ True) ∧ ∀ (x_1 : Nat × Nat), Prod.fst x_1 ≤ List.length (owant l (Prod.fst x)) → ifB (decide ((↑(Prod.fst x_1) : Int) < (↑(List.length (owant l (Prod.fst x))) : Int))) ((0 : Int) ≤ (↑(Prod.fst x_1) :
      Int) ∧ (↑(Prod.fst x_1) : Int) < (↑(List.length (owant l (Prod.fst x))) : Int) ∧ (1 : Nat) ≤ (1 : Nat) ∧ ((Prod.fst (Prod.snd x) = Prod.fst (Prod.snd x) ∧ Prod.fst (Prod.snd (Prod.snd x)) = Prod.fst (Prod.snd
      (Prod.snd x)) ∧ Prod.snd x_1 = Prod.snd x_1) ∧ List.length (owant l (Prod.fst x)) ≤ (1000 : Nat)) ∧ ∀ (y : Nat), True → ifB (defE (oes l (Prod.fst x)) (List.getD (owant l (Prod.fst x)) (Int.toNat (↑(Prod.fst x_1) :
      Int)) []) (1 : Int) != (10 : Int)) (True ∧ ∃ (y : Unit), True ∧ false = true ∧ True ∧ True) ((∃ (x_2 : Nat), True ∧ ((0 : Int) = (↑x_2 : Int) ∧ True) ∧ (Prod.fst (Prod.snd x) = Prod.fst (Prod.snd x) ∧ (True ∧
      Prod.fst (Prod.snd (Prod.snd x)) = Prod.fst (Prod.snd (Prod.snd x)) ∧ (defN (oes l (Prod.fst x)) (List.getD (owant l (Prod.fst x)) (Int.toNat (↑(Prod.fst x_1) : Int)) []) (1 : Int) (List.length (owant l (Prod.fst
      x))) = defN (oes l (Prod.fst x)) (List.getD (owant l (Prod.fst x)) (Int.toNat (↑(Prod.fst x_1) : Int)) []) (1 : Int) (List.length (owant l (Prod.fst x))) ∧ (∀ (i : Nat), i < defN (oes l (Prod.fst x)) (List.getD
      (owant l (Prod.fst x)) (Int.toNat (↑(Prod.fst x_1) : Int)) []) (1 : Int) (List.length (owant l (Prod.fst x))) → defF (oes l (Prod.fst x)) (List.getD (owant l (Prod.fst x)) (Int.toNat (↑(Prod.fst x_1) : Int)) []) (1
      : Int) (List.length (owant l (Prod.fst x))) (fun (i : Nat) => [D.str (List.getD (owant l (Prod.fst x)) i [])]) i = defF (oes l (Prod.fst x)) (List.getD (owant l (Prod.fst x)) (Int.toNat (↑(Prod.fst x_1) : Int)) [])
      (1 : Int) (List.length (owant l (Prod.fst x))) (fun (i : Nat) => [D.str (List.getD (owant l (Prod.fst x)) i [])]) i) ∧ y = y) ∧ True) ∧ Prod.fst (Prod.snd (Prod.snd x)) = Prod.fst (Prod.snd (Prod.snd x)) ∧ defM
      (oes l (Prod.fst x)) (List.getD (owant l (Prod.fst x)) (Int.toNat (↑(Prod.fst x_1) : Int)) []) (1 : Int) = defM (oes l (Prod.fst x)) (List.getD (owant l (Prod.fst x)) (Int.toNat (↑(Prod.fst x_1) : Int)) []) (1 :
      Int) ∧ True) ∧ y = y ∧ True) ∧ ∀ (x_2 : Nat), True → ifB (decide ((↑x_2 : Int) < (↑(Prod.fst x_1) : Int))) ((0 : Int) ≤ (↑x_2 : Int) ∧ (↑x_2 : Int) < (↑(List.length (owant l (Prod.fst x))) : Int) ∧ (1 : Nat) ≤ (1 :
      Nat) ∧ (0 : Int) ≤ (↑(Prod.fst x_1) : Int) ∧ (↑(Prod.fst x_1) : Int) < (↑(List.length (owant l (Prod.fst x))) : Int) ∧ (1 : Nat) ≤ (1 : Nat) ∧ ifB (List.getD (owant l (Prod.fst x)) (Int.toNat (↑x_2 : Int)) [] ==
      List.getD (owant l (Prod.fst x)) (Int.toNat (↑(Prod.fst x_1) : Int)) []) (True ∧ ∃ (y : Unit), True ∧ false = true ∧ True ∧ True) ((D.sl (1 : Nat) (List.length l) (fun (i : Nat) => [D.str (List.getD l i [])])
      Mode.any = D.sl (1 : Nat) (List.length l) (fun (i : Nat) => [D.str (List.getD l i [])]) Mode.any ∧ D.ref (1 : Nat) (Prod.fst (Prod.snd x)) (0 : Nat) = D.ref (1 : Nat) (Prod.fst (Prod.snd x)) (0 : Nat) ∧ D.sl (1 :
      Nat) (List.length (owant l (Prod.fst x))) (fun (i : Nat) => [D.str (List.getD (owant l (Prod.fst x)) i [])]) (Mode.tok (1 : Nat) (Prod.snd (Prod.snd (Prod.snd (Prod.snd x))))) = D.sl (1 : Nat) (List.length (owant l
      (Prod.fst x))) (fun (i : Nat) => [D.str (List.getD (owant l (Prod.fst x)) i [])]) (Mode.tok (1 : Nat) (Prod.snd (Prod.snd (Prod.snd (Prod.snd x))))) ∧ D.int IntKind.i64 (↑(Prod.fst x_1) : Int) = D.int IntKind.i64
      (↑(Prod.fst x_1) : Int) ∧ True) ∧ ∃ (y_1 : Nat), True ∧ (100 : Nat) - y_1 < (100 : Nat) - x_2 ∧ (IntKind.wrap IntKind.i64 ((↑x_2 : Int) + (1 : Int)) = (↑y_1 : Int) ∧ True) ∧ (Prod.fst (Prod.snd x) = Prod.fst
      (Prod.snd x) ∧ (True ∧ Prod.fst (Prod.snd (Prod.snd x)) = Prod.fst (Prod.snd (Prod.snd x)) ∧ (defN (oes l (Prod.fst x)) (List.getD (owant l (Prod.fst x)) (Int.toNat (↑(Prod.fst x_1) : Int)) []) (1 : Int)
      (List.length (owant l (Prod.fst x))) = defN (oes l (Prod.fst x)) (List.getD (owant l (Prod.fst x)) (Int.toNat (↑(Prod.fst x_1) : Int)) []) (1 : Int) (List.length (owant l (Prod.fst x))) ∧ (∀ (i : Nat), i < defN
      (oes l (Prod.fst x)) (List.getD (owant l (Prod.fst x)) (Int.toNat (↑(Prod.fst x_1) : Int)) []) (1 : Int) (List.length (owant l (Prod.fst x))) → defF (oes l (Prod.fst x)) (List.getD (owant l (Prod.fst x)) (Int.toNat
      (↑(Prod.fst x_1) : Int)) []) (1 : Int) (List.length (owant l (Prod.fst x))) (fun (i : Nat) => [D.str (List.getD (owant l (Prod.fst x)) i [])]) i = defF (oes l (Prod.fst x)) (List.getD (owant l (Prod.fst x))
      (Int.toNat (↑(Prod.fst x_1) : Int)) []) (1 : Int) (List.length (owant l (Prod.fst x))) (fun (i : Nat) => [D.str (List.getD (owant l (Prod.fst x)) i [])]) i) ∧ y = y) ∧ True) ∧ Prod.fst (Prod.snd (Prod.snd x)) =
      Prod.fst (Prod.snd (Prod.snd x)) ∧ defM (oes l (Prod.fst x)) (List.getD (owant l (Prod.fst x)) (Int.toNat (↑(Prod.fst x_1) : Int)) []) (1 : Int) = defM (oes l (Prod.fst x)) (List.getD (owant l (Prod.fst x))
      (Int.toNat (↑(Prod.fst x_1) : Int)) []) (1 : Int) ∧ True) ∧ y = y ∧ True)) ((D.sl (1 : Nat) (List.length l) (fun (i : Nat) => [D.str (List.getD l i [])]) Mode.any = D.sl (1 : Nat) (List.length l) (fun (i : Nat) =>
      [D.str (List.getD l i [])]) Mode.any ∧ D.ref (1 : Nat) (Prod.fst (Prod.snd x)) (0 : Nat) = D.ref (1 : Nat) (Prod.fst (Prod.snd x)) (0 : Nat) ∧ D.sl (1 : Nat) (List.length (owant l (Prod.fst x))) (fun (i : Nat) =>
      [D.str (List.getD (owant l (Prod.fst x)) i [])]) (Mode.tok (1 : Nat) (Prod.snd (Prod.snd (Prod.snd (Prod.snd x))))) = D.sl (1 : Nat) (List.length (owant l (Prod.fst x))) (fun (i : Nat) => [D.str (List.getD (owant l
      (Prod.fst x)) i [])]) (Mode.tok (1 : Nat) (Prod.snd (Prod.snd (Prod.snd (Prod.snd x))))) ∧ True) ∧ ∃ (y_1 : Nat × Nat), Prod.fst y_1 ≤ List.length (owant l (Prod.fst x)) ∧ List.length (owant l (Prod.fst x)) -
      Prod.fst y_1 < List.length (owant l (Prod.fst x)) - Prod.fst x_1 ∧ (IntKind.wrap IntKind.i64 ((↑(Prod.fst x_1) : Int) + (1 : Int)) = (↑(Prod.fst y_1) : Int) ∧ True) ∧ (Prod.fst (Prod.snd x) = Prod.fst (Prod.snd x)
      ∧ (True ∧ Prod.fst (Prod.snd (Prod.snd x)) = Prod.fst (Prod.snd (Prod.snd x)) ∧ (defN (oes l (Prod.fst x)) (List.getD (owant l (Prod.fst x)) (Int.toNat (↑(Prod.fst x_1) : Int)) []) (1 : Int) (List.length (owant l
      (Prod.fst x))) = List.length (owant l (Prod.fst x)) ∧ (∀ (i : Nat), i < defN (oes l (Prod.fst x)) (List.getD (owant l (Prod.fst x)) (Int.toNat (↑(Prod.fst x_1) : Int)) []) (1 : Int) (List.length (owant l (Prod.fst
      x))) → defF (oes l (Prod.fst x)) (List.getD (owant l (Prod.fst x)) (Int.toNat (↑(Prod.fst x_1) : Int)) []) (1 : Int) (List.length (owant l (Prod.fst x))) (fun (i : Nat) => [D.str (List.getD (owant l (Prod.fst x)) i
      [])]) i = [D.str (List.getD (owant l (Prod.fst x)) i [])]) ∧ y = Prod.snd y_1) ∧ True) ∧ Prod.fst (Prod.snd (Prod.snd x)) = Prod.fst (Prod.snd (Prod.snd x)) ∧ defM (oes l (Prod.fst x)) (List.getD (owant l (Prod.fst
      x)) (Int.toNat (↑(Prod.fst x_1) : Int)) []) (1 : Int) = oes l (Prod.fst x) ∧ True) ∧ y = Prod.snd y_1 ∧ True))) ((Prod.fst (Prod.snd x) = Prod.fst (Prod.snd x) ∧ List.length (owant l (Prod.fst x)) ≤ (1000000 :
      Nat)) ∧ ∀ (y : Unit), True → ∃ (x_2 : List (List UInt8) × List (List UInt8)), ((List.length (owant l (Prod.fst x)) = List.length (Prod.fst x_2) ∧ (∀ (i : Nat), i < List.length (owant l (Prod.fst x)) → [D.str
      (List.getD (owant l (Prod.fst x)) i [])] = [D.str (List.getD (Prod.fst x_2) i [])]) ∧ True) ∧ (List.length (owant l (Prod.fst x)) = List.length (Prod.snd x_2) ∧ (∀ (i : Nat), i < List.length (owant l (Prod.fst x))
      → [D.str (List.getD (owant l (Prod.fst x)) i [])] = [D.str (List.getD (Prod.snd x_2) i [])]) ∧ True) ∧ True) ∧ (True ∧ True) ∧ List.length (Prod.fst x_2) ≤ (1000000 : Nat) ∧ ∀ (y : Unit), True → ifB (decide
      (Prod.fst x_2 = Prod.snd x_2)) ((True ∧ True) ∧ ∀ (y : Unit), True → True ∧ ∃ (y : Unit), True ∧ true = true ∧ True ∧ True) (True ∧ ∃ (y : Unit), True ∧ false = true ∧ True ∧ True))))) (by kernel_rfl) ?_
  simp only [ifB_iff, decide_eq_true_eq, decide_eq_false_iff_not, true_and, and_true, forall_const, exists_const, eq_self]
  refine ⟨fun h => ?_, fun h => ?_⟩
  · simp
  · have hl : l.length ≤ 60 := by omega
    have wr : ∀ n : Nat, n < 1000 → IntKind.wrap .i64 ((n : Int) + 1) = ((n + 1 : Nat) : Int) := by
      intro n hn; rw [IntKind.wrap_i64] <;> omega
    intro y t
    refine ⟨⟨(0, y.1, y.2.1, y.2.2, t), by simp, ⟨rfl, ⟨rfl, fun i hi => by omega, rfl⟩, rfl⟩, ⟨rfl, ⟨rfl, rfl, fun i hi => by omega, rfl⟩, rfl, rfl⟩, rfl, rfl⟩, ?_⟩
    rintro ⟨i, y0, m0, t0, tw⟩ hi
    dsimp only at hi ⊢
    have hw := owant_len l i
    have hnd := owant_in l i
    have hst := ostep l i (fun j => [.str ((owant l i).getD j [])]) fun _ _ => rfl
    simp only [Int.toNat_natCast]
    refine ⟨fun hlt => ⟨by omega, hlt, by omega, by omega, fun t1 => ⟨fun he => ⟨by omega, hlt, by omega, by omega, by omega, fun t2 => ⟨(i + 1, y0, m0, t1, t2), by dsimp only; omega, by dsimp only; omega, ⟨rfl, ⟨?_, ?_, rfl⟩, wr i (by omega)⟩, ⟨rfl, ⟨rfl, hst.1, ?_, rfl⟩, rfl, rfl⟩, rfl, rfl⟩⟩, fun he => ⟨(i + 1, y0, m0, t1, tw), by dsimp only; omega, by dsimp only; omega, ⟨rfl, ⟨?_, ?_, rfl⟩, wr i (by omega)⟩, ⟨rfl, ⟨rfl, hst.1, ?_, rfl⟩, rfl, rfl⟩, rfl, rfl⟩⟩⟩, fun hge => ?_⟩
    · have he : defE (oes l i) (l.getD i []) 2 = 0 := by simpa using he
      simp only [owant, he, if_true]; simp
    · have he : defE (oes l i) (l.getD i []) 2 = 0 := by simpa using he
      intro j hj
      simp only [owant, he, if_true]
      by_cases h : j < (owant l i).length
      · simp [appF, h, List.getElem?_append_left h]
      · have : j = (owant l i).length := by omega
        subst this; simp [appF]
    · rw [hst.1]; exact hst.2
    · have he : ¬ defE (oes l i) (l.getD i []) 2 = 0 := by simpa using he
      simp only [owant, he, if_false]
    · have he : ¬ defE (oes l i) (l.getD i []) 2 = 0 := by simpa using he
      intro j hj
      simp only [owant, he, if_false]
    · rw [hst.1]; exact hst.2
    · refine ⟨⟨(0, t0), by simp, rfl, ⟨fun _ _ => trivial, rfl⟩, rfl⟩, ?_⟩
      rintro ⟨j, t1⟩ hj
      dsimp only at hj ⊢
      refine ⟨fun hlt => ?_, fun hge => ?_⟩
      · have hjn : j < (owant l i).length := by omega
        have hd := odup l i j hjn
        have hd' : ¬ defE (oes l i) ((owant l i).getD j []) 1 = 0 := by rw [hd]; decide
        refine ⟨by omega, hlt, by omega, by omega, fun t2 => ⟨fun he => ?_, fun _ => ⟨⟨0, rfl, fun _ _ => trivial⟩, fun k => ⟨fun hk => ⟨by omega, by omega, by omega, by omega, hlt, by omega, fun he => ?_, fun _ => ⟨k + 1, by omega, wr k (by omega), fun _ _ => trivial⟩⟩, fun _ => ⟨(j + 1, t2), by dsimp only; omega, by dsimp only; omega, wr j (by omega), ⟨⟨?_, ?_, rfl⟩, ?_⟩, rfl⟩⟩⟩⟩⟩
        · rw [hd] at he; simp at he
        · have hkn : k < (owant l i).length := by omega
          rw [List.getD_eq_getElem?_getD, List.getD_eq_getElem?_getD, List.getElem?_eq_getElem hkn, List.getElem?_eq_getElem hjn] at he
          have he : (owant l i)[k] = (owant l i)[j] := by simpa using he
          have := (List.getElem_inj hnd.1).1 he
          omega
        · exact if_neg hd'
        · intro q hq; exact congrFun (if_neg hd') q
        · exact if_neg hd'
      · exact ⟨by omega, (owant l i, owant l i), ⟨⟨rfl, fun _ _ => rfl⟩, rfl, fun _ _ => rfl⟩, by dsimp only; omega, fun _ => trivial, fun q => (q rfl).elim⟩
end Go.Proofs.Ytkmgikcdlbibdaa
