/- What the functions of the scopes and of their reference do: each function once. -/
import Derived.Test.YtkmgikcdlbibdaaAb2
import Derived.Test.YtkmgikcdlbibdaaProg
import Derived.KernelRfl
/- The table of the types that the functions here meet, read off the translation by a program; each row is checked. -/
namespace Go.Proofs.Ytkmgikcdlbibdaa
open Go Go.Ab
noncomputable def tab : List (Nat × TI) := [
  (0, ⟨TypeDesc.tuple #[], 1, 0, [.unk]⟩),
  (1, ⟨TypeDesc.func #[] #[] false, 1, 8, [.nilf]⟩),
  (2, ⟨TypeDesc.int .i64, 1, 8, [.int .i64 0]⟩),
  (3, ⟨TypeDesc.int .i64, 1, 8, [.int .i64 0]⟩),
  (4, ⟨TypeDesc.bool, 1, 1, [.bool false]⟩),
  (5, ⟨TypeDesc.int .u8, 1, 1, [.int .u8 0]⟩),
  (9, ⟨TypeDesc.string, 1, 16, [.str []]⟩),
  (20, ⟨TypeDesc.interface #[], 1, 16, [.nili]⟩),
  (21, ⟨TypeDesc.int .i32, 1, 4, [.int .i32 0]⟩),
  (22, ⟨TypeDesc.slice 32, 1, 24, [.sl 1 0 (fun _ => []) .nil]⟩),
  (23, ⟨TypeDesc.func #[] #[4] false, 1, 8, [.nilf]⟩),
  (24, ⟨TypeDesc.pointer 46, 1, 8, [.nilp]⟩),
  (25, ⟨TypeDesc.func #[] #[24] false, 1, 8, [.nilf]⟩),
  (26, ⟨TypeDesc.slice 24, 1, 24, [.sl 1 0 (fun _ => []) .nil]⟩),
  (27, ⟨TypeDesc.pointer 49, 1, 8, [.nilp]⟩),
  (28, ⟨TypeDesc.func #[] #[27] false, 1, 8, [.nilf]⟩),
  (29, ⟨TypeDesc.slice 27, 1, 24, [.sl 1 0 (fun _ => []) .nil]⟩),
  (30, ⟨TypeDesc.int .i64, 1, 8, [.int .i64 0]⟩),
  (31, ⟨Try.t31.desc, 4, 40, [.int .i64 0, .int .i64 0, .str [], .int .i64 0]⟩),
  (32, ⟨Try.t31.desc, 4, 40, [.int .i64 0, .int .i64 0, .str [], .int .i64 0]⟩),
  (33, ⟨TypeDesc.int .i64, 1, 8, [.int .i64 0]⟩),
  (34, ⟨TypeDesc.func #[9, 30] #[33] false, 1, 8, [.nilf]⟩),
  (35, ⟨TypeDesc.tuple #[30, 4], 1, 0, [.unk]⟩),
  (36, ⟨TypeDesc.func #[9] #[30, 4] false, 1, 8, [.nilf]⟩),
  (37, ⟨TypeDesc.func #[] #[3] false, 1, 8, [.nilf]⟩),
  (38, ⟨TypeDesc.func #[39, 39] #[4] false, 1, 8, [.nilf]⟩),
  (39, ⟨TypeDesc.slice 9, 1, 24, [.sl 1 0 (fun _ => []) .nil]⟩),
  (40, ⟨TypeDesc.func #[] #[39] false, 1, 8, [.nilf]⟩),
  (41, ⟨TypeDesc.func #[22] #[4] false, 1, 8, [.nilf]⟩),
  (42, ⟨TypeDesc.func #[9, 9, 30, 30] #[4] false, 1, 8, [.nilf]⟩),
  (43, ⟨TypeDesc.func #[39] #[4] false, 1, 8, [.nilf]⟩),
  (44, ⟨TypeDesc.map 9 30, 1, 8, [.nmap]⟩),
  (45, ⟨Try.t45.desc, 3, 40, [.nilp, .nmap, .sl 1 0 (fun _ => []) .nil]⟩),
  (46, ⟨Try.t45.desc, 3, 40, [.nilp, .nmap, .sl 1 0 (fun _ => []) .nil]⟩),
  (47, ⟨TypeDesc.slice 30, 1, 24, [.sl 1 0 (fun _ => []) .nil]⟩),
  (48, ⟨Try.t48.desc, 3, 56, [.nilp, .sl 1 0 (fun _ => []) .nil, .sl 1 0 (fun _ => []) .nil]⟩),
  (49, ⟨Try.t48.desc, 3, 56, [.nilp, .sl 1 0 (fun _ => []) .nil, .sl 1 0 (fun _ => []) .nil]⟩),
  (50, ⟨TypeDesc.func #[9] #[4] false, 1, 8, [.nilf]⟩),
  (51, ⟨TypeDesc.func #[9] #[3] false, 1, 8, [.nilf]⟩),
  (52, ⟨TypeDesc.func #[39] #[39] false, 1, 8, [.nilf]⟩),
  (53, ⟨TypeDesc.func #[] #[9] false, 1, 8, [.nilf]⟩),
  (59, ⟨TypeDesc.int .u32, 1, 4, [.int .u32 0]⟩),
  (62, ⟨TypeDesc.func #[68, 68] #[4] false, 1, 8, [.nilf]⟩),
  (63, ⟨TypeDesc.pointer 5, 1, 8, [.nilp]⟩),
  (68, ⟨TypeDesc.unsafePointer, 1, 8, [.nilp]⟩)]
theorem tab_ok : TabOk Try.prog (tabGet tab) :=
  TabOk.cons (ti := ⟨_, _, _, _⟩) Try.underlying0 (by kernel_rfl) <|
  TabOk.cons (ti := ⟨_, _, _, _⟩) Try.underlying1 (by kernel_rfl) <|
  TabOk.cons (ti := ⟨_, _, _, _⟩) Try.underlying2 (by kernel_rfl) <|
  TabOk.cons (ti := ⟨_, _, _, _⟩) Try.underlying3 (by kernel_rfl) <|
  TabOk.cons (ti := ⟨_, _, _, _⟩) Try.underlying4 (by kernel_rfl) <|
  TabOk.cons (ti := ⟨_, _, _, _⟩) Try.underlying5 (by kernel_rfl) <|
  TabOk.cons (ti := ⟨_, _, _, _⟩) Try.underlying9 (by kernel_rfl) <|
  TabOk.cons (ti := ⟨_, _, _, _⟩) Try.underlying20 (by kernel_rfl) <|
  TabOk.cons (ti := ⟨_, _, _, _⟩) Try.underlying21 (by kernel_rfl) <|
  TabOk.cons (ti := ⟨_, _, _, _⟩) Try.underlying22 (by kernel_rfl) <|
  TabOk.cons (ti := ⟨_, _, _, _⟩) Try.underlying23 (by kernel_rfl) <|
  TabOk.cons (ti := ⟨_, _, _, _⟩) Try.underlying24 (by kernel_rfl) <|
  TabOk.cons (ti := ⟨_, _, _, _⟩) Try.underlying25 (by kernel_rfl) <|
  TabOk.cons (ti := ⟨_, _, _, _⟩) Try.underlying26 (by kernel_rfl) <|
  TabOk.cons (ti := ⟨_, _, _, _⟩) Try.underlying27 (by kernel_rfl) <|
  TabOk.cons (ti := ⟨_, _, _, _⟩) Try.underlying28 (by kernel_rfl) <|
  TabOk.cons (ti := ⟨_, _, _, _⟩) Try.underlying29 (by kernel_rfl) <|
  TabOk.cons (ti := ⟨_, _, _, _⟩) Try.underlying30 (by kernel_rfl) <|
  TabOk.cons (ti := ⟨_, _, _, _⟩) Try.underlying31 (by kernel_rfl) <|
  TabOk.cons (ti := ⟨_, _, _, _⟩) Try.underlying32 (by kernel_rfl) <|
  TabOk.cons (ti := ⟨_, _, _, _⟩) Try.underlying33 (by kernel_rfl) <|
  TabOk.cons (ti := ⟨_, _, _, _⟩) Try.underlying34 (by kernel_rfl) <|
  TabOk.cons (ti := ⟨_, _, _, _⟩) Try.underlying35 (by kernel_rfl) <|
  TabOk.cons (ti := ⟨_, _, _, _⟩) Try.underlying36 (by kernel_rfl) <|
  TabOk.cons (ti := ⟨_, _, _, _⟩) Try.underlying37 (by kernel_rfl) <|
  TabOk.cons (ti := ⟨_, _, _, _⟩) Try.underlying38 (by kernel_rfl) <|
  TabOk.cons (ti := ⟨_, _, _, _⟩) Try.underlying39 (by kernel_rfl) <|
  TabOk.cons (ti := ⟨_, _, _, _⟩) Try.underlying40 (by kernel_rfl) <|
  TabOk.cons (ti := ⟨_, _, _, _⟩) Try.underlying41 (by kernel_rfl) <|
  TabOk.cons (ti := ⟨_, _, _, _⟩) Try.underlying42 (by kernel_rfl) <|
  TabOk.cons (ti := ⟨_, _, _, _⟩) Try.underlying43 (by kernel_rfl) <|
  TabOk.cons (ti := ⟨_, _, _, _⟩) Try.underlying44 (by kernel_rfl) <|
  TabOk.cons (ti := ⟨_, _, _, _⟩) Try.underlying45 (by kernel_rfl) <|
  TabOk.cons (ti := ⟨_, _, _, _⟩) Try.underlying46 (by kernel_rfl) <|
  TabOk.cons (ti := ⟨_, _, _, _⟩) Try.underlying47 (by kernel_rfl) <|
  TabOk.cons (ti := ⟨_, _, _, _⟩) Try.underlying48 (by kernel_rfl) <|
  TabOk.cons (ti := ⟨_, _, _, _⟩) Try.underlying49 (by kernel_rfl) <|
  TabOk.cons (ti := ⟨_, _, _, _⟩) Try.underlying50 (by kernel_rfl) <|
  TabOk.cons (ti := ⟨_, _, _, _⟩) Try.underlying51 (by kernel_rfl) <|
  TabOk.cons (ti := ⟨_, _, _, _⟩) Try.underlying52 (by kernel_rfl) <|
  TabOk.cons (ti := ⟨_, _, _, _⟩) Try.underlying53 (by kernel_rfl) <|
  TabOk.cons (ti := ⟨_, _, _, _⟩) Try.underlying59 (by kernel_rfl) <|
  TabOk.cons (ti := ⟨_, _, _, _⟩) Try.underlying62 (by kernel_rfl) <|
  TabOk.cons (ti := ⟨_, _, _, _⟩) Try.underlying63 (by kernel_rfl) <|
  TabOk.cons (ti := ⟨_, _, _, _⟩) Try.underlying68 (by kernel_rfl) <|
  TabOk.nil _
end Go.Proofs.Ytkmgikcdlbibdaa
namespace Go.Proofs.Ytkmgikcdlbibdaa
open Go Go.Ab
theorem mix : Try.prog.follows .mixedOrders = true := by kernel_rfl
noncomputable def E0 (con : Nat → List D → St → Option FnSpec) (n V : Nat) (cross : List Nat) : Senv where
  P := Try.prog
  tt := tabGet tab
  n := n
  dfs := []
  V := V
  cross := cross
  gh := fun _ => []
  gr := []
  unr := fun _ => 0
  cut := fun _ _ _ => none
  ann := fun _ _ _ => none
  ord := fun _ => ([], [])
  con := con
abbrev con0 : Nat → List D → St → Option FnSpec := fun _ _ _ => none
theorem con0_ok : ConOk Try.prog con0 := fun _ _ _ _ h => nomatch h

/-! ### New -/
def sNew (a b kt : Nat) : FnSpec where
  β := Unit
  α := Nat × Nat × Nat
  args := fun _ => []
  st := fun _ => ⟨[], []⟩
  pre := fun _ => True
  post := fun _ _ => True
  res := fun _ y => .ret (.ref a y.1 0)
  out := fun _ y => ⟨[(a, y.1, .cells [.nilp, .map b y.2.1, .sl 1 0 (fun _ => []) (.tok kt y.2.2)]), (b, y.2.1, .amap .i64 [])], [(kt, y.2.2)]⟩
noncomputable def E7 : Senv := { E0 con0 4 1 [] with gr := [.cell 1 2] }
theorem new_ok0 : ACalls Try.prog 7 ((sNew 1 0 0).args ()) ((sNew 1 0 0).st ()) (SpecR (sNew 1 0 0) ()) := by
  refine con_of (A := sNew 1 0 0) (x := ()) (E := E7) ⟨tab_ok, con0_ok, mix, fun _ _ _ _ h => h.elim, fun _ h => nomatch h⟩ Try.func7 rfl rfl rfl (by decide) ?_
  refine vc_eq (T :=
      ∀ (y : Nat), True → ∀ (x : Nat), y ≠ x ∧ True → ∀ (t : Nat), True ∧ ∃ (y_1 : Nat × Nat × Nat), True ∧ x = Prod.fst y_1 ∧ (x = Prod.fst y_1 ∧ (True ∧ y = Prod.fst (Prod.snd y_1) ∧ ((0 : Nat) = (0 : Nat) ∧ (∀ (i :
      Nat), i < (0 : Nat) → eqOf (List D) [] []) ∧ t = Prod.snd (Prod.snd y_1)) ∧ True) ∧ y = Prod.fst (Prod.snd y_1) ∧ eqOf (List (List UInt8 × Int)) [] [] ∧ True) ∧ t = Prod.snd (Prod.snd y_1) ∧ True) (by kernel_rfl) ?_
  try simp only [side_and]
  try simp only [side_iff]
  intro y _ x _ t
  refine ⟨trivial, (x, y, t), ?_⟩
  simp

/-! ### valid -/
def vgo (s : List UInt8) : Nat → Nat → Bool
  | 0, _ => decide (s.length ≤ 32) && !s.isEmpty
  | n + 1, pos => if pos < s.length then
      (if ((runeAt s pos).1 < 97 ∨ 122 < (runeAt s pos).1) ∧ (pos = 0 ∨ (runeAt s pos).1 < 48 ∨ 57 < (runeAt s pos).1) then false else vgo s n (pos + (runeAt s pos).2))
    else decide (s.length ≤ 32) && !s.isEmpty
def validS (s : List UInt8) : Bool := vgo s s.length 0
def sValid : FnSpec where
  β := List UInt8
  α := Unit
  args := fun s => [.str s]
  st := fun _ => ⟨[], []⟩
  pre := fun _ => True
  post := fun _ _ => True
  res := fun s _ => .ret (.bool (validS s))
  out := fun _ _ => ⟨[], []⟩
noncomputable def E20 (s : List UInt8) : Senv := { E0 con0 36 1 [2, 3, 4, 6, 7, 8, 28] with
  ann := fun b env _ => match b, Ab.look env 6 with
    | 0, .ref k y 0 => some { slots := [], keep := [0, 6], α := Nat × Nat, st := fun x => ([], ⟨[(k, y, .sit s x.1)], []⟩), inv := fun x => s.length ≤ x.1 + x.2 ∧ vgo s x.2 x.1 = validS s, mu := fun x => s.length - x.1 }
    | _, _ => none }
theorem valid_ok (s : List UInt8) : ACalls Try.prog 20 (sValid.args s) (sValid.st s) (SpecR sValid s) := by
  refine con_of (A := sValid) (x := s) (E := E20 s) ⟨tab_ok, con0_ok, mix, fun _ _ _ _ h => h.elim, fun _ h => nomatch h⟩ Try.func20 rfl rfl rfl (by simp [sValid, E20, E0]) ?_
  refine vc_eq (T :=
      ∀ (y : Nat), True → (∃ (x : Nat × Nat), (List.length s ≤ Prod.fst x + Prod.snd x ∧ vgo s (Prod.snd x) (Prod.fst x) = validS s) ∧ True ∧ (y = y ∧ (s = s ∧ (0 : Nat) = Prod.fst x) ∧ True) ∧ True) ∧ ∀ (x : Nat × Nat),
      List.length s ≤ Prod.fst x + Prod.snd x ∧ vgo s (Prod.snd x) (Prod.fst x) = validS s → y = y ∧ ifB (decide (Prod.fst x < List.length s)) (ifB (decide ((↑(Prod.fst (runeAt s (Prod.fst x))) : Int) < (97 : Int))) (ifB
      ((↑(Prod.fst x) : Int) == (0 : Int)) (True ∧ ∃ (y : Unit), True ∧ false = validS s ∧ True ∧ True) (ifB (decide ((↑(Prod.fst (runeAt s (Prod.fst x))) : Int) < (48 : Int))) (True ∧ ∃ (y : Unit), True ∧ false = validS
      s ∧ True ∧ True) (ifB (decide ((57 : Int) < (↑(Prod.fst (runeAt s (Prod.fst x))) : Int))) (True ∧ ∃ (y : Unit), True ∧ false = validS s ∧ True ∧ True) ((D.str s = D.str s ∧ D.ref (0 : Nat) y (0 : Nat) = D.ref (0 :
      Nat) y (0 : Nat) ∧ True) ∧ ∃ (y_1 : Nat × Nat), (List.length s ≤ Prod.fst y_1 + Prod.snd y_1 ∧ vgo s (Prod.snd y_1) (Prod.fst y_1) = validS s) ∧ List.length s - Prod.fst y_1 < List.length s - Prod.fst x ∧ True ∧ (y
      = y ∧ (s = s ∧ Prod.fst x + Prod.snd (runeAt s (Prod.fst x)) = Prod.fst y_1) ∧ True) ∧ True)))) (ifB (decide ((122 : Int) < (↑(Prod.fst (runeAt s (Prod.fst x))) : Int))) (ifB ((↑(Prod.fst x) : Int) == (0 : Int))
      (True ∧ ∃ (y : Unit), True ∧ false = validS s ∧ True ∧ True) (ifB (decide ((↑(Prod.fst (runeAt s (Prod.fst x))) : Int) < (48 : Int))) (True ∧ ∃ (y : Unit), True ∧ false = validS s ∧ True ∧ True) (ifB (decide ((57 :
      Int) < (↑(Prod.fst (runeAt s (Prod.fst x))) : Int))) (True ∧ ∃ (y : Unit), True ∧ false = validS s ∧ True ∧ True) ((D.str s = D.str s ∧ D.ref (0 : Nat) y (0 : Nat) = D.ref (0 : Nat) y (0 : Nat) ∧ True) ∧ ∃ (y_1 :
      Nat × Nat), (List.length s ≤ Prod.fst y_1 + Prod.snd y_1 ∧ vgo s (Prod.snd y_1) (Prod.fst y_1) = validS s) ∧ List.length s - Prod.fst y_1 < List.length s - Prod.fst x ∧ True ∧ (y = y ∧ (s = s ∧ Prod.fst x +
      Prod.snd (runeAt s (Prod.fst x)) = Prod.fst y_1) ∧ True) ∧ True)))) ((D.str s = D.str s ∧ D.ref (0 : Nat) y (0 : Nat) = D.ref (0 : Nat) y (0 : Nat) ∧ True) ∧ ∃ (y_1 : Nat × Nat), (List.length s ≤ Prod.fst y_1 +
      Prod.snd y_1 ∧ vgo s (Prod.snd y_1) (Prod.fst y_1) = validS s) ∧ List.length s - Prod.fst y_1 < List.length s - Prod.fst x ∧ True ∧ (y = y ∧ (s = s ∧ Prod.fst x + Prod.snd (runeAt s (Prod.fst x)) = Prod.fst y_1) ∧
      True) ∧ True))) (ifB (s != []) (True ∧ ∃ (y : Unit), True ∧ decide ((↑(List.length s) : Int) ≤ (32 : Int)) = validS s ∧ True ∧ True) (True ∧ ∃ (y : Unit), True ∧ false = validS s ∧ True ∧ True))) (by kernel_rfl) ?_
  try simp only [side_and]
  try simp only [side_iff]
  intro y _
  refine ⟨⟨(0, s.length), ⟨by simp, rfl⟩, by simp⟩, ?_⟩
  rintro ⟨pos, n⟩ ⟨h1, h2⟩
  refine ⟨trivial, ?_⟩
  simp only at h1 h2 ⊢
  have hw := runeAt_pos s pos
  have next : ∀ (h : pos < s.length) (hv : vgo s (n - 1) (pos + (runeAt s pos).2) = validS s) (hn : 0 < n),
      (D.str s = D.str s ∧ D.ref 0 y 0 = D.ref 0 y 0 ∧ True) ∧ ∃ (y_1 : Nat × Nat), (s.length ≤ y_1.1 + y_1.2 ∧ vgo s y_1.2 y_1.1 = validS s) ∧ s.length - y_1.1 < s.length - pos ∧ True ∧ (y = y ∧ (s = s ∧ pos + (runeAt s pos).2 = y_1.1) ∧ True) ∧ True := by
    intro h hv hn
    exact ⟨⟨rfl, rfl, trivial⟩, (pos + (runeAt s pos).2, n - 1), ⟨by simp only; omega, hv⟩, by simp only; omega, by simp⟩
  have e0 : ((pos : Int) == 0) = decide (pos = 0) := by
    by_cases h : pos = 0 <;> simp [h]
  rw [e0]
  simp only [ifB_iff, decide_eq_true_eq, decide_eq_false_iff_not]
  refine ⟨fun h => ?_, fun h => ?_⟩
  · cases n with
    | zero => omega
    | succ n =>
      rw [vgo, if_pos h] at h2
      have F : (((runeAt s pos).1 < 97 ∨ 122 < (runeAt s pos).1) ∧ (pos = 0 ∨ (runeAt s pos).1 < 48 ∨ 57 < (runeAt s pos).1)) → (True ∧ ∃ (_ : Unit), True ∧ false = validS s ∧ True ∧ True) := by
        intro hc
        rw [if_pos hc] at h2
        exact ⟨trivial, (), trivial, h2, trivial, trivial⟩
      have N : ¬ (((runeAt s pos).1 < 97 ∨ 122 < (runeAt s pos).1) ∧ (pos = 0 ∨ (runeAt s pos).1 < 48 ∨ 57 < (runeAt s pos).1)) → _ := fun hc => next h (by rw [if_neg hc] at h2; exact h2) (by omega)
      refine ⟨fun a => ⟨fun b => F (by omega), fun b => ⟨fun c => F (by omega), fun c => ⟨fun d => F (by omega), fun d => by simpa using N (by omega)⟩⟩⟩, fun a => ⟨fun b => ⟨fun b => F (by omega), fun b => ⟨fun c => F (by omega), fun c => ⟨fun d => F (by omega), fun d => by simpa using N (by omega)⟩⟩⟩, fun b => by simpa using N (by omega)⟩⟩
  · have hv : (decide (s.length ≤ 32) && !s.isEmpty) = validS s := by
      cases n with
      | zero => exact h2
      | succ n => rw [vgo, if_neg h] at h2; exact h2
    have hi : ((s.length : Int) ≤ 32) ↔ s.length ≤ 32 := by omega
    refine ⟨fun q => ⟨trivial, (), trivial, ?_, trivial, trivial⟩, fun q => ⟨trivial, (), trivial, ?_, trivial, trivial⟩⟩
    · rw [← hv]
      have : s ≠ [] := by simpa using q
      cases s <;> simp_all
    · rw [← hv]
      have : s = [] := by simpa using q
      subst this; rfl

/-! ### Clone -/
def sClone : FnSpec where
  β := Nat × (Nat → List D)
  α := Unit
  args := fun x => [.sl 1 x.1 x.2 .any]
  st := fun _ => ⟨[], []⟩
  pre := fun x => x.1 ≤ 1000000
  post := fun _ _ => True
  res := fun x _ => .ret (.sl 1 x.1 x.2 .any)
  out := fun _ _ => ⟨[], []⟩
theorem clone_ok (x : sClone.β) (hx : sClone.pre x) : ACalls Try.prog 23 (sClone.args x) (sClone.st x) (SpecR sClone x) := by
  refine con_of (A := sClone) (x := x) (E := E0 con0 8 1 [2, 4]) ⟨tab_ok, con0_ok, mix, fun _ _ _ _ h => h.elim, fun _ h => nomatch h⟩ Try.func23 rfl rfl rfl (by simp [sClone, E0]) ?_
  refine vc_eq (T :=
      ∀ (r : Bool), (r = true → Prod.fst x = (0 : Nat)) → ifB r (True ∧ ∃ (y : Unit), True ∧ ((0 : Nat) = Prod.fst x ∧ (∀ (i : Nat), i < (0 : Nat) → eqOf (List D) [] (Prod.snd x i)) ∧ True) ∧ True ∧ True) (side (((0 :
      Nat) + Prod.fst x) * (16 : Nat) ≤ (140737488355328 : Nat) ∧ (0 : Nat) + Prod.fst x ≤ (9223372036854775807 : Nat)) (∀ (t : Nat), True ∧ ∃ (y : Unit), True ∧ ((0 : Nat) + Prod.fst x = Prod.fst x ∧ (∀ (i : Nat), i <
      (0 : Nat) + Prod.fst x → appF (0 : Nat) (fun (i : Nat) => []) (Prod.snd x) i = Prod.snd x i) ∧ True) ∧ True ∧ True))) (by kernel_rfl) ?_
  try simp only [side_and]
  try simp only [side_iff]
  intro r hr
  have hx : x.1 ≤ 1000000 := hx
  rw [ifB_iff]
  constructor
  · intro h
    have := hr h
    refine ⟨trivial, (), trivial, ⟨by omega, fun i hi => by omega, trivial⟩, trivial, trivial⟩
  · intro _
    refine ⟨by omega, by omega, fun t => ⟨trivial, (), trivial, ⟨by omega, fun i _ => by simp [appF], trivial⟩, trivial, trivial⟩⟩
theorem new_ok (a b kt : Nat) : ACalls Try.prog 7 ((sNew a b kt).args ()) ((sNew a b kt).st ()) (SpecR (sNew a b kt) ()) := by
  refine new_ok0.respec (by simp [sNew, weakL]) (by simp [sNew, posS, posO, posT]) fun y _ => ⟨y, trivial, ?_, ?_⟩
  · simp [sNew, weakEnd, weakD, chk_iff]
  · simp [sNew, posS, posO, posT, weakO, weakL, weakD, chk_iff, kEq, weakM]
def conA (k : Nat) (_ : List D) (S : St) : Option FnSpec :=
  match k with
  | 7 => some (sNew (nextTag S.objs + 1) (nextTag S.objs) (nextTok S.toks))
  | 20 => some sValid
  | 23 => some sClone
  | _ => none
theorem conA_ok : ConOk Try.prog conA := by
  intro k ds S A h
  unfold conA at h
  split at h
  · injection h with h; subst h; exact ConOk.plain (fun _ _ => new_ok _ _ _) rfl rfl
  · injection h with h; subst h; exact ConOk.plain (fun x _ => valid_ok x) rfl rfl
  · injection h with h; subst h; exact ConOk.plain (fun x hx => clone_ok x hx) rfl rfl
  · cases h

/-! ### Open -/
def sOpen (a b kt k x : Nat) : FnSpec where
  β := Unit
  α := Nat × Nat × Nat
  args := fun _ => [.ref k x 0]
  st := fun _ => ⟨[], []⟩
  pre := fun _ => True
  post := fun _ _ => True
  res := fun _ y => .ret (.ref a y.1 0)
  out := fun _ y => ⟨[(a, y.1, .cells [.ref k x 0, .map b y.2.1, .sl 1 0 (fun _ => []) (.tok kt y.2.2)]), (b, y.2.1, .amap .i64 [])], [(kt, y.2.2)]⟩
theorem open_ok0 (k x : Nat) : ACalls Try.prog 9 ((sOpen 1 0 0 k x).args ()) ((sOpen 1 0 0 k x).st ()) (SpecR (sOpen 1 0 0 k x) ()) := by
  refine con_of (A := sOpen 1 0 0 k x) (x := ()) (E := E0 conA 12 1 [2, 3, 5]) ⟨tab_ok, conA_ok, mix, fun _ _ _ _ h => h.elim, fun _ h => nomatch h⟩ Try.func9 rfl rfl rfl (by simp [sOpen, E0]) ?_
  refine vc_eq (T :=
      ∃ (x_1 : Unit), True ∧ (True ∧ True) ∧ True ∧ ∀ (y : Nat × Nat × Nat), True → Prod.fst y = Prod.fst y ∧ True ∧ ∃ (y_1 : Nat × Nat × Nat), True ∧ Prod.fst y = Prod.fst y_1 ∧ (Prod.fst y = Prod.fst y_1 ∧ (x = x ∧
      Prod.fst (Prod.snd y) = Prod.fst (Prod.snd y_1) ∧ ((0 : Nat) = (0 : Nat) ∧ (∀ (i : Nat), i < (0 : Nat) → eqOf (List D) [] []) ∧ Prod.snd (Prod.snd y) = Prod.snd (Prod.snd y_1)) ∧ True) ∧ Prod.fst (Prod.snd y) =
      Prod.fst (Prod.snd y_1) ∧ eqOf (List (List UInt8 × Int)) [] [] ∧ True) ∧ Prod.snd (Prod.snd y) = Prod.snd (Prod.snd y_1) ∧ True) (by kernel_rfl) ?_
  try simp only [side_and]
  try simp only [side_iff]
  refine ⟨(), trivial, ⟨trivial, trivial⟩, trivial, ?_⟩
  intro y _
  refine ⟨trivial, trivial, y, ?_⟩
  simp

/-! ### Define -/
def defE (es : List (List UInt8 × Int)) (nm : List UInt8) (c : Int) : Int :=
  if c < 1 ∨ 4 < c then 1 else if validS nm = false then 9 else match sget es nm with
    | some _ => 10
    | none => 0
def sDefine (k x : Nat) (nm : List UInt8) (c : Int) (o : D) (km m n : Nat) (f : Nat → List D) (kt t : Nat) (es : List (List UInt8 × Int)) : FnSpec where
  β := Unit
  α := Nat
  args := fun _ => [.ref k x 0, .str nm, .int .i64 c]
  st := fun _ => ⟨[(k, x, .cells [o, .map km m, .sl 1 n f (.tok kt t)]), (km, m, .amap .i64 es)], [(kt, t)]⟩
  pre := fun _ => n ≤ 1000
  post := fun _ _ => True
  res := fun _ _ => .ret (.int .i64 (defE es nm c))
  out := fun _ t' => ⟨[(k, x, .cells [o, .map km m, .sl 1 (if defE es nm c = 0 then n + 1 else n) (if defE es nm c = 0 then appF n f (fun _ => [.str nm]) else f) (.tok kt t')]), (km, m, .amap .i64 (if defE es nm c = 0 then sput es nm c else es))], [(kt, t')]⟩
theorem define_ok0 (x : Nat) (nm : List UInt8) (c : Int) (o : D) (m n : Nat) (f : Nat → List D) (t : Nat) (es : List (List UInt8 × Int)) (hn : n ≤ 1000) :
    ACalls Try.prog 11 ((sDefine 1 x nm c o 0 m n f 0 t es).args ()) ((sDefine 1 x nm c o 0 m n f 0 t es).st ()) (SpecR (sDefine 1 x nm c o 0 m n f 0 t es) ()) := by
  refine con_of (A := sDefine 1 x nm c o 0 m n f 0 t es) (x := ()) (E := E0 conA 59 3 [6, 7, 8, 9, 20, 33, 38]) ⟨tab_ok, conA_ok, mix, fun _ _ _ _ h => h.elim, fun _ h => nomatch h⟩ Try.func11 rfl rfl rfl (by simp [sDefine, E0]) ?_
  refine vc_eq (T :=
      ifB (decide (c < (1 : Int))) (True ∧ ∃ (y : Nat), True ∧ (1 : Int) = defE es nm c ∧ (x = x ∧ (weakD o o ∧ m = m ∧ ((n = if defE es nm c = (0 : Int) then n + (1 : Nat) else n) ∧ (∀ (i : Nat), i < n → f i = (if defE
      es nm c = (0 : Int) then appF n f fun (x : Nat) => [D.str nm] else f) i) ∧ t = y) ∧ True) ∧ m = m ∧ (es = if defE es nm c = (0 : Int) then sput es nm c else es) ∧ True) ∧ t = y ∧ True) (ifB (decide ((4 : Int) < c))
      (True ∧ ∃ (y : Nat), True ∧ (1 : Int) = defE es nm c ∧ (x = x ∧ (weakD o o ∧ m = m ∧ ((n = if defE es nm c = (0 : Int) then n + (1 : Nat) else n) ∧ (∀ (i : Nat), i < n → f i = (if defE es nm c = (0 : Int) then appF
      n f fun (x : Nat) => [D.str nm] else f) i) ∧ t = y) ∧ True) ∧ m = m ∧ (es = if defE es nm c = (0 : Int) then sput es nm c else es) ∧ True) ∧ t = y ∧ True) (∃ (x_1 : List UInt8), (nm = x_1 ∧ True) ∧ (True ∧ True) ∧
      True ∧ ∀ (y : Unit), True → ifB (!validS x_1) (True ∧ ∃ (y : Nat), True ∧ (9 : Int) = defE es nm c ∧ (x = x ∧ (weakD o o ∧ m = m ∧ ((n = if defE es nm c = (0 : Int) then n + (1 : Nat) else n) ∧ (∀ (i : Nat), i < n
      → f i = (if defE es nm c = (0 : Int) then appF n f fun (x : Nat) => [D.str nm] else f) i) ∧ t = y) ∧ True) ∧ m = m ∧ (es = if defE es nm c = (0 : Int) then sput es nm c else es) ∧ True) ∧ t = y ∧ True) (x = x ∧ m =
      m ∧ (∀ (n_1 : Int), sget es nm = some n_1 → True ∧ ∃ (y : Nat), True ∧ (10 : Int) = defE es nm c ∧ (x = x ∧ (weakD o o ∧ m = m ∧ ((n = if defE es nm c = (0 : Int) then n + (1 : Nat) else n) ∧ (∀ (i : Nat), i < n →
      f i = (if defE es nm c = (0 : Int) then appF n f fun (x : Nat) => [D.str nm] else f) i) ∧ t = y) ∧ True) ∧ m = m ∧ (es = if defE es nm c = (0 : Int) then sput es nm c else es) ∧ True) ∧ t = y ∧ True) ∧ (sget es nm
      = none → x = x ∧ x = x ∧ m = m ∧ x = x ∧ t = t ∧ side ((n + (1 : Nat)) * (16 : Nat) ≤ (140737488355328 : Nat) ∧ n + (1 : Nat) ≤ (9223372036854775807 : Nat)) (∀ (t : Nat), x = x ∧ True ∧ ∃ (y : Nat), True ∧ (0 :
      Int) = defE es nm c ∧ (x = x ∧ (weakD o o ∧ m = m ∧ ((n + (1 : Nat) = if defE es nm c = (0 : Int) then n + (1 : Nat) else n) ∧ (∀ (i : Nat), i < n + (1 : Nat) → appF n f (fun (i : Nat) => List.getD [[D.str nm]] i
      []) i = (if defE es nm c = (0 : Int) then appF n f fun (x : Nat) => [D.str nm] else f) i) ∧ t = y) ∧ True) ∧ m = m ∧ (sput es nm c = if defE es nm c = (0 : Int) then sput es nm c else es) ∧ True) ∧ t = y ∧
      True)))))) (by kernel_rfl) ?_
  try simp only [side_and]
  try simp only [side_iff]
  have hw := weakD_refl o
  unfold defE
  simp only [ifB_iff, decide_eq_true_eq, decide_eq_false_iff_not]
  refine ⟨fun h => ?_, fun h1 => ⟨fun h => ?_, fun h2 => ?_⟩⟩
  · refine ⟨trivial, t, ?_⟩
    simp [h, hw]
  · refine ⟨trivial, t, ?_⟩
    simp [h, hw]
  · have hc : ¬ (c < 1 ∨ 4 < c) := by omega
    refine ⟨nm, ⟨rfl, trivial⟩, ⟨trivial, trivial⟩, trivial, fun _ _ => ?_⟩
    refine ⟨fun h => ?_, fun h => ?_⟩
    · have hv : validS nm = false := by simpa using h
      refine ⟨trivial, t, ?_⟩
      simp [hc, hv, hw]
    · have hv : validS nm = true := by simpa using h
      refine ⟨trivial, trivial, fun n1 hg => ?_, fun hg => ?_⟩
      · refine ⟨trivial, t, ?_⟩
        simp [hc, hv, hw, hg]
      · refine ⟨trivial, trivial, trivial, trivial, trivial, by omega, by omega, fun t' => ⟨trivial, trivial, t', ?_⟩⟩
        simp [hc, hv, hw, hg]
        intro i hi
        by_cases hin : i < n
        · simp [appF, hin]
        · have : i - n = 0 := by omega
          simp [appF, hin, this]
theorem open_ok (a b kt k x : Nat) : ACalls Try.prog 9 ((sOpen a b kt k x).args ()) ((sOpen a b kt k x).st ()) (SpecR (sOpen a b kt k x) ()) := by
  refine (open_ok0 k x).respec (by simp [sOpen, weakL, weakD, chk_iff]) (by simp [sOpen, posS, posO, posT]) fun y _ => ⟨y, trivial, ?_, ?_⟩
  · simp [sOpen, weakEnd, weakD, chk_iff]
  · simp [sOpen, posS, posO, posT, weakO, weakL, weakD, chk_iff, kEq, weakM]
theorem define_ok (k x : Nat) (nm : List UInt8) (c : Int) (o : D) (km m n : Nat) (f : Nat → List D) (kt t : Nat) (es : List (List UInt8 × Int)) (hn : n ≤ 1000) :
    ACalls Try.prog 11 ((sDefine k x nm c o km m n f kt t es).args ()) ((sDefine k x nm c o km m n f kt t es).st ()) (SpecR (sDefine k x nm c o km m n f kt t es) ()) := by
  refine (define_ok0 x nm c o m n f t es hn).respec ?_ ?_ fun y _ => ⟨y, trivial, ?_, ?_⟩
  · simp [sDefine, weakL, weakD, chk_iff, kEq]
  · simp [sDefine, posS, posO, posT, weakO, weakL, weakD, weakD_refl, chk_iff, kEq, weakM]
  · simp [sDefine, weakEnd, weakD, chk_iff, kEq]
  · simp [sDefine, posS, posO, posT, weakO, weakL, weakD, weakD_refl, chk_iff, kEq, weakM]
    rfl
end Go.Proofs.Ytkmgikcdlbibdaa
namespace Go.Proofs.Ytkmgikcdlbibdaa
open Go Go.Ab

/-! ### Find, in one scope and in two -/
def find1 (es : List (List UInt8 × Int)) (nm : List UInt8) : Int × Bool := match sget es nm with
  | some c => (c, true)
  | none => (0, false)
def find2 (es es2 : List (List UInt8 × Int)) (nm : List UInt8) : Int × Bool := match sget es nm with
  | some c => (c, true)
  | none => find1 es2 nm
def sFind1 (k x : Nat) (nm : List UInt8) (km m : Nat) (d : D) (es : List (List UInt8 × Int)) : FnSpec where
  β := Unit
  α := Unit
  args := fun _ => [.ref k x 0, .str nm]
  st := fun _ => ⟨[(k, x, .cells [.nilp, .map km m, d]), (km, m, .amap .i64 es)], []⟩
  pre := fun _ => True
  post := fun _ _ => True
  res := fun _ _ => .ret (.tup [.int .i64 (find1 es nm).1, .bool (find1 es nm).2])
  out := fun _ _ => ⟨[(k, x, .cells [.nilp, .map km m, d]), (km, m, .amap .i64 es)], []⟩
def sFind2 (k x : Nat) (nm : List UInt8) (km m : Nat) (d : D) (es : List (List UInt8 × Int)) (k2 x2 km2 m2 : Nat) (d2 : D) (es2 : List (List UInt8 × Int)) : FnSpec where
  β := Unit
  α := Unit
  args := fun _ => [.ref k x 0, .str nm]
  st := fun _ => ⟨[(k, x, .cells [.ref k2 x2 0, .map km m, d]), (km, m, .amap .i64 es), (k2, x2, .cells [.nilp, .map km2 m2, d2]), (km2, m2, .amap .i64 es2)], []⟩
  pre := fun _ => True
  post := fun _ _ => True
  res := fun _ _ => .ret (.tup [.int .i64 (find2 es es2 nm).1, .bool (find2 es es2 nm).2])
  out := fun _ _ => ⟨[(k, x, .cells [.ref k2 x2 0, .map km m, d]), (km, m, .amap .i64 es), (k2, x2, .cells [.nilp, .map km2 m2, d2]), (km2, m2, .amap .i64 es2)], []⟩
noncomputable def E13 : Senv := { E0 con0 25 2 [4, 5, 6, 7, 9, 23] with unr := fun _ => 3 }
theorem find1_ok0 (x : Nat) (nm : List UInt8) (m : Nat) (d : D) (es : List (List UInt8 × Int)) :
    ACalls Try.prog 13 ((sFind1 1 x nm 0 m d es).args ()) ((sFind1 1 x nm 0 m d es).st ()) (SpecR (sFind1 1 x nm 0 m d es) ()) := by
  refine con_of (A := sFind1 1 x nm 0 m d es) (x := ()) (E := E13) ⟨tab_ok, con0_ok, mix, fun _ _ _ _ h => h.elim, fun _ h => nomatch h⟩ Try.func13 rfl rfl rfl (by simp [sFind1, E13, E0]) ?_
  refine vc_eq (T :=
      x = x ∧ m = m ∧ (∀ (n : Int), sget es nm = some n → True ∧ ∃ (y : Unit), True ∧ (n = Prod.fst (find1 es nm) ∧ true = Prod.snd (find1 es nm) ∧ True) ∧ (x = x ∧ (True ∧ m = m ∧ weakD d d ∧ True) ∧ m = m ∧ es = es ∧
      True) ∧ True) ∧ (sget es nm = none → x = x ∧ True ∧ ∃ (y : Unit), True ∧ ((0 : Int) = Prod.fst (find1 es nm) ∧ false = Prod.snd (find1 es nm) ∧ True) ∧ (x = x ∧ (True ∧ m = m ∧ weakD d d ∧ True) ∧ m = m ∧ es = es ∧
      True) ∧ True)) (by kernel_rfl) ?_
  try simp only [side_and]
  try simp only [side_iff]
  have hd := weakD_refl d
  refine ⟨trivial, trivial, fun n hg => ?_, fun hg => ?_⟩
  · simp [find1, hg, hd]
  · simp [find1, hg, hd]
theorem find2_ok0 (x : Nat) (nm : List UInt8) (m : Nat) (d : D) (es : List (List UInt8 × Int)) (x2 m2 : Nat) (d2 : D) (es2 : List (List UInt8 × Int)) :
    ACalls Try.prog 13 ((sFind2 1 x nm 0 m d es 3 x2 2 m2 d2 es2).args ()) ((sFind2 1 x nm 0 m d es 3 x2 2 m2 d2 es2).st ()) (SpecR (sFind2 1 x nm 0 m d es 3 x2 2 m2 d2 es2) ()) := by
  refine con_of (A := sFind2 1 x nm 0 m d es 3 x2 2 m2 d2 es2) (x := ()) (E := E13) ⟨tab_ok, con0_ok, mix, fun _ _ _ _ h => h.elim, fun _ h => nomatch h⟩ Try.func13 rfl rfl rfl (by simp [sFind2, E13, E0]) ?_
  refine vc_eq (T :=
      x = x ∧ m = m ∧ (∀ (n : Int), sget es nm = some n → True ∧ ∃ (y : Unit), True ∧ (n = Prod.fst (find2 es es2 nm) ∧ true = Prod.snd (find2 es es2 nm) ∧ True) ∧ (x = x ∧ (x2 = x2 ∧ m = m ∧ weakD d d ∧ True) ∧ m = m ∧
      es = es ∧ x2 = x2 ∧ (True ∧ m2 = m2 ∧ weakD d2 d2 ∧ True) ∧ m2 = m2 ∧ es2 = es2 ∧ True) ∧ True) ∧ (sget es nm = none → x = x ∧ x2 = x2 ∧ m2 = m2 ∧ (∀ (n : Int), sget es2 nm = some n → True ∧ ∃ (y : Unit), True ∧ (n
      = Prod.fst (find2 es es2 nm) ∧ true = Prod.snd (find2 es es2 nm) ∧ True) ∧ (x = x ∧ (x2 = x2 ∧ m = m ∧ weakD d d ∧ True) ∧ m = m ∧ es = es ∧ x2 = x2 ∧ (True ∧ m2 = m2 ∧ weakD d2 d2 ∧ True) ∧ m2 = m2 ∧ es2 = es2 ∧
      True) ∧ True) ∧ (sget es2 nm = none → x2 = x2 ∧ True ∧ ∃ (y : Unit), True ∧ ((0 : Int) = Prod.fst (find2 es es2 nm) ∧ false = Prod.snd (find2 es es2 nm) ∧ True) ∧ (x = x ∧ (x2 = x2 ∧ m = m ∧ weakD d d ∧ True) ∧ m =
      m ∧ es = es ∧ x2 = x2 ∧ (True ∧ m2 = m2 ∧ weakD d2 d2 ∧ True) ∧ m2 = m2 ∧ es2 = es2 ∧ True) ∧ True))) (by kernel_rfl) ?_
  try simp only [side_and]
  try simp only [side_iff]
  have hd := weakD_refl d
  have hd2 := weakD_refl d2
  refine ⟨trivial, trivial, fun n hg => ?_, fun hg => ⟨trivial, trivial, trivial, fun n hg2 => ?_, fun hg2 => ?_⟩⟩
  · simp [find2, hg, hd, hd2]
  · simp [find2, find1, hg, hg2, hd, hd2]
  · simp [find2, find1, hg, hg2, hd, hd2]

/-! ### Depth of an inner scope -/
def sDepth2 (k x : Nat) (a b : D) (k2 x2 : Nat) (a2 b2 : D) : FnSpec where
  β := Unit
  α := Unit
  args := fun _ => [.ref k x 0]
  st := fun _ => ⟨[(k, x, .cells [.ref k2 x2 0, a, b]), (k2, x2, .cells [.nilp, a2, b2])], []⟩
  pre := fun _ => True
  post := fun _ _ => True
  res := fun _ _ => .ret (.int .i64 1)
  out := fun _ _ => ⟨[(k, x, .cells [.ref k2 x2 0, a, b]), (k2, x2, .cells [.nilp, a2, b2])], []⟩
noncomputable def E15 : Senv := { E0 con0 20 1 [2, 3, 12] with unr := fun _ => 3 }
theorem depth2_ok0 (x : Nat) (a b : D) (x2 : Nat) (a2 b2 : D) :
    ACalls Try.prog 15 ((sDepth2 0 x a b 1 x2 a2 b2).args ()) ((sDepth2 0 x a b 1 x2 a2 b2).st ()) (SpecR (sDepth2 0 x a b 1 x2 a2 b2) ()) := by
  refine con_of (A := sDepth2 0 x a b 1 x2 a2 b2) (x := ()) (E := E15) ⟨tab_ok, con0_ok, mix, fun _ _ _ _ h => h.elim, fun _ h => nomatch h⟩ Try.func15 rfl rfl rfl (by simp [sDepth2, E15, E0]) ?_
  refine vc_eq (T :=
      x = x ∧ x = x ∧ x2 = x2 ∧ True ∧ ∃ (y : Unit), True ∧ (1 : Int) = (1 : Int) ∧ (x = x ∧ (x2 = x2 ∧ weakD a a ∧ weakD b b ∧ True) ∧ x2 = x2 ∧ (True ∧ weakD a2 a2 ∧ weakD b2 b2 ∧ True) ∧ True) ∧ True) (by kernel_rfl) ?_
  try simp only [side_and]
  try simp only [side_iff]
  simp [weakD_refl]

/-! ### Names of a scope -/
def sNames (k x : Nat) (o mp : D) (n : Nat) (f : Nat → List D) (kt t : Nat) : FnSpec where
  β := Unit
  α := Unit
  args := fun _ => [.ref k x 0]
  st := fun _ => ⟨[(k, x, .cells [o, mp, .sl 1 n f (.tok kt t)])], []⟩
  pre := fun _ => n ≤ 1000000
  post := fun _ _ => True
  res := fun _ _ => .ret (.sl 1 n f .any)
  out := fun _ _ => ⟨[(k, x, .cells [o, mp, .sl 1 n f (.tok kt t)])], []⟩
theorem names_ok0 (x : Nat) (o mp : D) (n : Nat) (f : Nat → List D) (kt t : Nat) (hn : n ≤ 1000000) :
    ACalls Try.prog 18 ((sNames 0 x o mp n f kt t).args ()) ((sNames 0 x o mp n f kt t).st ()) (SpecR (sNames 0 x o mp n f kt t) ()) := by
  refine con_of (A := sNames 0 x o mp n f kt t) (x := ()) (E := E0 conA 10 1 [2, 4]) ⟨tab_ok, conA_ok, mix, fun _ _ _ _ h => h.elim, fun _ h => nomatch h⟩ Try.func18 rfl rfl rfl (by simp [sNames, E0]) ?_
  refine vc_eq (T :=
      x = x ∧ ∃ (x_1 : Nat × (Nat → List D)), ((n = Prod.fst x_1 ∧ (∀ (i : Nat), i < n → f i = Prod.snd x_1 i) ∧ True) ∧ True) ∧ (True ∧ True) ∧ Prod.fst x_1 ≤ (1000000 : Nat) ∧ ∀ (y : Unit), True → True ∧ ∃ (y : Unit),
      True ∧ (Prod.fst x_1 = n ∧ (∀ (i : Nat), i < Prod.fst x_1 → Prod.snd x_1 i = f i) ∧ True) ∧ (x = x ∧ (weakD o o ∧ weakD mp mp ∧ (n = n ∧ (∀ (i : Nat), i < n → f i = f i) ∧ t = t) ∧ True) ∧ True) ∧ True) (by kernel_rfl) ?_
  try simp only [side_and]
  try simp only [side_iff]
  refine ⟨trivial, (n, f), ?_⟩
  have h1 := weakD_refl o
  have h2 := weakD_refl mp
  simp [h1, h2, hn]

/-! ### same -/
def strs (l : List (List UInt8)) : Nat → List D := fun i => [.str (l.getD i [])]
def sSame : FnSpec where
  β := List (List UInt8) × List (List UInt8)
  α := Unit
  args := fun x => [.sl 1 x.1.length (strs x.1) .any, .sl 1 x.2.length (strs x.2) .any]
  st := fun _ => ⟨[], []⟩
  pre := fun x => x.1.length ≤ 1000000
  post := fun _ _ => True
  res := fun x _ => .ret (.bool (decide (x.1 = x.2)))
  out := fun _ _ => ⟨[], []⟩
noncomputable def E17 (x : List (List UInt8) × List (List UInt8)) : Senv := { E0 con0 32 2 [4, 5, 15, 26] with
  ann := fun b _ _ => match b with
    | 0 => some { slots := [5], keep := [0, 1], α := Nat, st := fun i => ([.int .i64 i], ⟨[], []⟩), inv := fun i => i ≤ x.1.length ∧ i ≤ x.2.length ∧ x.1.take i = x.2.take i, mu := fun i => x.1.length - i }
    | _ => none
  ord := fun r => match r with
    | 4 => ([0, 1, 2, 3, 4, 5, 6, 7, 8], [])
    | _ => ([], []) }
theorem same_ok (x : sSame.β) (hx : sSame.pre x) : ACalls Try.prog 17 (sSame.args x) (sSame.st x) (SpecR sSame x) := by
  refine con_of (A := sSame) (x := x) (E := E17 x) ⟨tab_ok, con0_ok, mix, fun _ _ _ _ h => h.elim, fun _ h => nomatch h⟩ Try.func17 rfl rfl rfl (by simp [sSame, E17, E0]) ?_
  refine vc_eq (T :=
      (∃ (x_1 : Nat), (x_1 ≤ List.length (Prod.fst x) ∧ x_1 ≤ List.length (Prod.snd x) ∧ List.take x_1 (Prod.fst x) = List.take x_1 (Prod.snd x)) ∧ ((0 : Int) = (↑x_1 : Int) ∧ True) ∧ True ∧ True) ∧ ∀ (x_1 : Nat), x_1 ≤
      List.length (Prod.fst x) ∧ x_1 ≤ List.length (Prod.snd x) ∧ List.take x_1 (Prod.fst x) = List.take x_1 (Prod.snd x) → ifB (decide ((↑x_1 : Int) < (↑(List.length (Prod.fst x)) : Int))) (ifB (decide ((↑x_1 : Int) <
      (↑(List.length (Prod.snd x)) : Int))) (side ((0 : Int) ≤ (↑x_1 : Int) ∧ (↑x_1 : Int) < (↑(List.length (Prod.fst x)) : Int)) (side ((0 : Int) ≤ (↑x_1 : Int) ∧ (↑x_1 : Int) < (↑(List.length (Prod.snd x)) : Int)) (ifB
      (List.getD (Prod.fst x) (Int.toNat (↑x_1 : Int)) [] != List.getD (Prod.snd x) (Int.toNat (↑x_1 : Int)) []) (True ∧ ∃ (y : Unit), True ∧ false = decide (Prod.fst x = Prod.snd x) ∧ True ∧ True) ((D.sl (1 : Nat)
      (List.length (Prod.fst x)) (fun (i : Nat) => [D.str (List.getD (Prod.fst x) i [])]) Mode.any = D.sl (1 : Nat) (List.length (Prod.fst x)) (fun (i : Nat) => [D.str (List.getD (Prod.fst x) i [])]) Mode.any ∧ D.sl (1 :
      Nat) (List.length (Prod.snd x)) (fun (i : Nat) => [D.str (List.getD (Prod.snd x) i [])]) Mode.any = D.sl (1 : Nat) (List.length (Prod.snd x)) (fun (i : Nat) => [D.str (List.getD (Prod.snd x) i [])]) Mode.any ∧
      True) ∧ ∃ (y : Nat), (y ≤ List.length (Prod.fst x) ∧ y ≤ List.length (Prod.snd x) ∧ List.take y (Prod.fst x) = List.take y (Prod.snd x)) ∧ List.length (Prod.fst x) - y < List.length (Prod.fst x) - x_1 ∧
      (IntKind.wrap IntKind.i64 ((↑x_1 : Int) + (1 : Int)) = (↑y : Int) ∧ True) ∧ True ∧ True)))) (True ∧ ∃ (y : Unit), True ∧ ((↑(List.length (Prod.fst x)) : Int) == (↑(List.length (Prod.snd x)) : Int)) = decide
      (Prod.fst x = Prod.snd x) ∧ True ∧ True)) (True ∧ ∃ (y : Unit), True ∧ ((↑(List.length (Prod.fst x)) : Int) == (↑(List.length (Prod.snd x)) : Int)) = decide (Prod.fst x = Prod.snd x) ∧ True ∧ True)) (by kernel_rfl) ?_
  try simp only [side_and]
  try simp only [side_iff]
  obtain ⟨l, r⟩ := x
  have hx : l.length ≤ 1000000 := hx
  simp only
  refine ⟨⟨0, ⟨by omega, by omega, by simp⟩, by simp⟩, ?_⟩
  rintro i ⟨h1, h2, h3⟩
  have fin : (¬ i < l.length ∨ ¬ i < r.length) → (((l.length : Int) == (r.length : Int)) = decide (l = r)) := by
    intro h
    by_cases e : l.length = r.length
    · have e1 : l.take i = l := List.take_of_length_le (by omega)
      have e2 : r.take i = r := List.take_of_length_le (by omega)
      rw [e1, e2] at h3
      simp [h3]
    · have : l ≠ r := fun q => e (by rw [q])
      have e' : ¬ (l.length : Int) = (r.length : Int) := by omega
      simp [this, e']
  have c1 : ((i : Int) < (l.length : Int)) ↔ i < l.length := by omega
  have c2 : ((i : Int) < (r.length : Int)) ↔ i < r.length := by omega
  simp only [ifB_iff, decide_eq_true_eq, decide_eq_false_iff_not, c1, c2]
  refine ⟨fun a => ⟨fun b => ⟨by omega, a, by omega, b, fun q => ?_, fun q => ?_⟩, fun b => ⟨trivial, (), trivial, fin (.inr b), trivial, trivial⟩⟩, fun a => ⟨trivial, (), trivial, fin (.inl a), trivial, trivial⟩⟩
  · refine ⟨trivial, (), trivial, ?_, trivial, trivial⟩
    have hne : l.getD i [] ≠ r.getD i [] := by simpa using q
    have : l ≠ r := fun e => hne (by rw [e])
    simp [this]
  · have heq : l.getD i [] = r.getD i [] := by simpa using q
    refine ⟨⟨trivial, trivial, trivial⟩, i + 1, ⟨by omega, by omega, ?_⟩, by omega, ⟨?_, trivial⟩, trivial, trivial⟩
    · rw [List.take_add_one, List.take_add_one, h3]
      simp only [List.getD_eq_getElem?_getD, List.getElem?_eq_getElem a, List.getElem?_eq_getElem b, Option.getD_some] at heq
      simp [List.getElem?_eq_getElem a, List.getElem?_eq_getElem b, heq]
    · rw [IntKind.wrap_i64]; omega

/-! ### under any tags -/
theorem find1_ok (k x : Nat) (nm : List UInt8) (km m : Nat) (d : D) (es : List (List UInt8 × Int)) : ACalls Try.prog 13 ((sFind1 k x nm km m d es).args ()) ((sFind1 k x nm km m d es).st ()) (SpecR (sFind1 k x nm km m d es) ()) := by
  refine (find1_ok0 x nm m d es).respec ?_ ?_ fun y _ => ⟨y, trivial, ?_, ?_⟩
  all_goals simp [sFind1, posS, posO, posT, weakO, weakL, weakD, weakD_refl, weakEnd, chk_iff, kEq, weakM]
theorem find2_ok (k x : Nat) (nm : List UInt8) (km m : Nat) (d : D) (es : List (List UInt8 × Int)) (k2 x2 km2 m2 : Nat) (d2 : D) (es2 : List (List UInt8 × Int)) :
    ACalls Try.prog 13 ((sFind2 k x nm km m d es k2 x2 km2 m2 d2 es2).args ()) ((sFind2 k x nm km m d es k2 x2 km2 m2 d2 es2).st ()) (SpecR (sFind2 k x nm km m d es k2 x2 km2 m2 d2 es2) ()) := by
  refine (find2_ok0 x nm m d es x2 m2 d2 es2).respec ?_ ?_ fun y _ => ⟨y, trivial, ?_, ?_⟩
  all_goals simp [sFind2, posS, posO, posT, weakO, weakL, weakD, weakD_refl, weakEnd, chk_iff, kEq, weakM]
theorem depth2_ok (k x : Nat) (a b : D) (k2 x2 : Nat) (a2 b2 : D) : ACalls Try.prog 15 ((sDepth2 k x a b k2 x2 a2 b2).args ()) ((sDepth2 k x a b k2 x2 a2 b2).st ()) (SpecR (sDepth2 k x a b k2 x2 a2 b2) ()) := by
  refine (depth2_ok0 x a b x2 a2 b2).respec ?_ ?_ fun y _ => ⟨y, trivial, ?_, ?_⟩
  all_goals simp [sDepth2, posS, posO, posT, weakO, weakL, weakD, weakD_refl, weakEnd, chk_iff, kEq, weakM]
theorem names_ok (k x : Nat) (o mp : D) (n : Nat) (f : Nat → List D) (kt t : Nat) (hn : n ≤ 1000000) : ACalls Try.prog 18 ((sNames k x o mp n f kt t).args ()) ((sNames k x o mp n f kt t).st ()) (SpecR (sNames k x o mp n f kt t) ()) := by
  refine (names_ok0 x o mp n f kt t hn).respec ?_ ?_ fun y _ => ⟨y, trivial, ?_, ?_⟩
  all_goals simp [sNames, posS, posO, posT, weakO, weakL, weakD, weakD_refl, weakEnd, chk_iff, kEq, weakM]

/-- The contract for a call of Find, read off the state. -/
def conFind (k x : Nat) (nm : List UInt8) (S : St) : Option FnSpec :=
  match getO S.objs k with
  | some (x', .cells [.nilp, .map km m, d]) => match getO S.objs km, k == km with
    | some (m', .amap .i64 es), false => some ((sFind1 k x nm km m d es).fits () (x' = x ∧ m' = m))
    | _, _ => none
  | some (x', .cells [.ref k2 x2 0, .map km m, d]) => match getO S.objs km, getO S.objs k2 with
    | some (m', .amap .i64 es), some (x2', .cells [.nilp, .map km2 m2, d2]) => match getO S.objs km2, nodupB [k, km, k2, km2] with
      | some (m2', .amap .i64 es2), true => some ((sFind2 k x nm km m d es k2 x2 km2 m2 d2 es2).fits () (x' = x ∧ m' = m ∧ x2' = x2 ∧ m2' = m2))
      | _, _ => none
    | _, _ => none
  | _ => none
/-- How a call's contract is right. -/
abbrev OkAt (k : Nat) (ds : List D) (S : St) (A : FnSpec) : Prop :=
  (∀ y, A.pre y → ACalls Try.prog k (A.args y) (A.st y) (SpecR A y)) ∧ (∀ y, A.fit = some y → A.pre y → weakL ds (A.args y) ∧ leS (A.st y) S) ∧ (A.all = true → ∀ y, A.pre y → weakL ds (A.args y) ∧ A.st y = S)
theorem conFind_ok {k x : Nat} {nm : List UInt8} {S : St} {A : FnSpec} (h : conFind k x nm S = some A) : OkAt 13 [.ref k x 0, .str nm] S A := by
  unfold conFind at h
  split at h
  · split at h
    · injection h with h; subst h
      refine FnSpec.fits_ok (fun _ _ => find1_ok ..) ?_
      rintro ⟨rfl, rfl⟩
      simp_all [sFind1, leS, leO, leT, chk_iff, nodupB, weakL, weakD, weakO, weakD_refl, kEq]
    · cases h
  · split at h
    · split at h
      · injection h with h; subst h
        refine FnSpec.fits_ok (fun _ _ => find2_ok ..) ?_
        rintro ⟨rfl, rfl, rfl, rfl⟩
        simp_all [sFind2, leS, leO, leT, chk_iff, nodupB, weakL, weakD, weakO, weakD_refl, kEq]
      · cases h
    · cases h
  · cases h
def defN (es : List (List UInt8 × Int)) (nm : List UInt8) (c : Int) (n : Nat) : Nat := if defE es nm c = 0 then n + 1 else n
def defF (es : List (List UInt8 × Int)) (nm : List UInt8) (c : Int) (n : Nat) (f : Nat → List D) : Nat → List D := if defE es nm c = 0 then appF n f (fun _ => [.str nm]) else f
def defM (es : List (List UInt8 × Int)) (nm : List UInt8) (c : Int) : List (List UInt8 × Int) := if defE es nm c = 0 then sput es nm c else es
def sDef (k x : Nat) (nm : List UInt8) (c : Int) (o : D) (km m n : Nat) (f : Nat → List D) (kt t : Nat) (es : List (List UInt8 × Int)) : FnSpec where
  β := Unit
  α := Nat
  args := fun _ => [.ref k x 0, .str nm, .int .i64 c]
  st := fun _ => ⟨[(k, x, .cells [o, .map km m, .sl 1 n f (.tok kt t)]), (km, m, .amap .i64 es)], [(kt, t)]⟩
  pre := fun _ => n ≤ 1000
  post := fun _ _ => True
  res := fun _ _ => .ret (.int .i64 (defE es nm c))
  out := fun _ t' => ⟨[(k, x, .cells [o, .map km m, .sl 1 (defN es nm c n) (defF es nm c n f) (.tok kt t')]), (km, m, .amap .i64 (defM es nm c))], [(kt, t')]⟩
def conDefine (k x : Nat) (nm : List UInt8) (c : Int) (S : St) : Option FnSpec :=
  match getO S.objs k with
  | some (x', .cells [o, .map km m, .sl 1 n f (.tok kt t)]) => match getO S.objs km, getT S.toks kt, k == km with
    | some (m', .amap .i64 es), some t', false => some ((sDef k x nm c o km m n f kt t es).fits () (x' = x ∧ m' = m ∧ t' = t))
    | _, _, _ => none
  | _ => none
theorem conDefine_ok {k x : Nat} {nm : List UInt8} {c : Int} {S : St} {A : FnSpec} (h : conDefine k x nm c S = some A) : OkAt 11 [.ref k x 0, .str nm, .int .i64 c] S A := by
  unfold conDefine at h
  split at h
  · split at h
    · injection h with h; subst h
      refine FnSpec.fits_ok (fun _ hy => define_ok _ _ _ _ _ _ _ _ _ _ _ _ hy) ?_
      rintro ⟨rfl, rfl, rfl⟩
      simp_all [sDef, leS, leO, leT, chk_iff, nodupB, weakL, weakD, weakO, weakM, weakD_refl, kEq]
    · cases h
  · cases h
def conDepth (k x : Nat) (S : St) : Option FnSpec :=
  match getO S.objs k with
  | some (x', .cells [.ref k2 x2 0, a, b]) => match getO S.objs k2, k == k2 with
    | some (x2', .cells [.nilp, a2, b2]), false => some ((sDepth2 k x a b k2 x2 a2 b2).fits () (x' = x ∧ x2' = x2))
    | _, _ => none
  | _ => none
theorem conDepth_ok {k x : Nat} {S : St} {A : FnSpec} (h : conDepth k x S = some A) : OkAt 15 [.ref k x 0] S A := by
  unfold conDepth at h
  split at h
  · split at h
    · injection h with h; subst h
      refine FnSpec.fits_ok (fun _ _ => depth2_ok ..) ?_
      rintro ⟨rfl, rfl⟩
      simp_all [sDepth2, leS, leO, leT, chk_iff, nodupB, weakL, weakD, weakO, weakD_refl]
    · cases h
  · cases h
def conNames (k x : Nat) (S : St) : Option FnSpec :=
  match getO S.objs k with
  | some (x', .cells [o, mp, .sl 1 n f (.tok kt t)]) => some ((sNames k x o mp n f kt t).fits () (x' = x))
  | _ => none
theorem conNames_ok {k x : Nat} {S : St} {A : FnSpec} (h : conNames k x S = some A) : OkAt 18 [.ref k x 0] S A := by
  unfold conNames at h
  split at h
  · injection h with h; subst h
    refine FnSpec.fits_ok (fun _ hy => names_ok _ _ _ _ _ _ _ _ hy) ?_
    rintro rfl
    simp_all [sNames, leS, leO, leT, chk_iff, nodupB, weakL, weakD, weakO, weakM, weakD_refl]
  · cases h
def conB (k : Nat) (ds : List D) (S : St) : Option FnSpec :=
  match k with
  | 7 => match ds with
    | [] => some ((sNew (nextTag S.objs + 1) (nextTag S.objs) (nextTok S.toks)).fits () True)
    | _ => none
  | 9 => match ds with
    | [.ref k x 0] => some ((sOpen (nextTag S.objs + 1) (nextTag S.objs) (nextTok S.toks) k x).fits () True)
    | _ => none
  | 11 => match ds with
    | [.ref k x 0, .str nm, .int .i64 c] => conDefine k x nm c S
    | _ => none
  | 13 => match ds with
    | [.ref k x 0, .str nm] => conFind k x nm S
    | _ => none
  | 15 => match ds with
    | [.ref k x 0] => conDepth k x S
    | _ => none
  | 17 => some sSame
  | 18 => match ds with
    | [.ref k x 0] => conNames k x S
    | _ => none
  | _ => none
theorem conB_ok : ConOk Try.prog conB := by
  intro k ds S A h
  unfold conB at h
  split at h
  · split at h
    · injection h with h; subst h
      exact FnSpec.fits_ok (fun _ _ => new_ok _ _ _) fun _ => by simp [sNew, weakL, leS, leO, leT, nodupB, chk_iff]
    · cases h
  · split at h
    · injection h with h; subst h
      exact FnSpec.fits_ok (fun _ _ => open_ok _ _ _ _ _) fun _ => by simp [sOpen, weakL, weakD, leS, leO, leT, nodupB, chk_iff]
    · cases h
  · split at h
    · exact conDefine_ok h
    · cases h
  · split at h
    · exact conFind_ok h
    · cases h
  · split at h
    · exact conDepth_ok h
    · cases h
  · injection h with h; subst h; exact ConOk.plain (fun x hx => same_ok x hx) rfl rfl
  · split at h
    · exact conNames_ok h
    · cases h
  · cases h
end Go.Proofs.Ytkmgikcdlbibdaa
namespace Go.Proofs.Ytkmgikcdlbibdaa
open Go Go.Ab
def sAwake : FnSpec where
  β := Unit
  α := Unit
  args := fun _ => []
  st := fun _ => ⟨[], []⟩
  pre := fun _ => True
  post := fun _ _ => True
  res := fun _ _ => .ret (.bool true)
  out := fun _ _ => ⟨[], []⟩
theorem awake_ok : ACalls Try.prog 6 (sAwake.args ()) (sAwake.st ()) (SpecR sAwake ()) := by
  refine con_of (A := sAwake) (x := ()) (E := E0 conB 79 13 []) ⟨tab_ok, conB_ok, mix, fun _ _ _ _ h => h.elim, fun _ h => nomatch h⟩ Try.func6 rfl rfl rfl (by simp [sAwake, E0]) ?_
  refine vc_eq (T :=
      (True ∧ True) ∧ ∀ (y : Nat × Nat × Nat), True → ((Prod.fst y = Prod.fst y ∧ Prod.fst (Prod.snd y) = Prod.fst (Prod.snd y) ∧ Prod.snd (Prod.snd y) = Prod.snd (Prod.snd y)) ∧ (0 : Nat) ≤ (1000 : Nat)) ∧ ∀ (y_1 :
      Nat), True → (True ∧ True) ∧ ∀ (y_2 : Nat × Nat × Nat), True → ((Prod.fst y_2 = Prod.fst y_2 ∧ Prod.fst (Prod.snd y_2) = Prod.fst (Prod.snd y_2) ∧ Prod.fst y = Prod.fst y ∧ Prod.fst (Prod.snd y) = Prod.fst
      (Prod.snd y)) ∧ True) ∧ ∀ (y_3 : Unit), True → ((Prod.fst y_2 = Prod.fst y_2 ∧ Prod.fst (Prod.snd y_2) = Prod.fst (Prod.snd y_2) ∧ Prod.snd (Prod.snd y_2) = Prod.snd (Prod.snd y_2)) ∧ (0 : Nat) ≤ (1000 : Nat)) ∧ ∀
      (y_4 : Nat), True → ((Prod.fst y_2 = Prod.fst y_2 ∧ Prod.fst (Prod.snd y_2) = Prod.fst (Prod.snd y_2) ∧ Prod.fst y = Prod.fst y ∧ Prod.fst (Prod.snd y) = Prod.fst (Prod.snd y)) ∧ True) ∧ ∀ (y_5 : Unit), True →
      ((Prod.fst y = Prod.fst y ∧ Prod.fst (Prod.snd y) = Prod.fst (Prod.snd y)) ∧ True) ∧ ∀ (y_6 : Unit), True → ((Prod.fst y = Prod.fst y ∧ Prod.fst (Prod.snd y) = Prod.fst (Prod.snd y) ∧ y_1 = y_1) ∧ (1 : Nat) ≤ (1000
      : Nat)) ∧ ∀ (y_7 : Nat), True → ((Prod.fst y = Prod.fst y ∧ Prod.fst (Prod.snd y) = Prod.fst (Prod.snd y) ∧ y_7 = y_7) ∧ (1 : Nat) ≤ (1000 : Nat)) ∧ ∀ (y_8 : Nat), True → ((Prod.fst y_2 = Prod.fst y_2 ∧ Prod.fst y
      = Prod.fst y) ∧ True) ∧ ∀ (y : Unit), True → True ∧ ∃ (y : Unit), True ∧ true = true ∧ True ∧ True) (by kernel_rfl) ?_
  try simp only [side_and]
  try simp only [side_iff]
  simp
def conC (k : Nat) (ds : List D) (S : St) : Option FnSpec :=
  match k with
  | 6 => match ds with
    | [] => some (sAwake.fits () True)
    | _ => none
  | _ => conB k ds S
theorem conC_ok : ConOk Try.prog conC := by
  intro k ds S A h
  unfold conC at h
  split at h
  · split at h
    · injection h with h; subst h
      exact FnSpec.fits_ok (fun _ _ => awake_ok) fun _ => by simp [sAwake, weakL, leS, leO, leT, nodupB, chk_iff]
    · cases h
  · exact conB_ok _ _ _ _ h
theorem sget_sput (es : List (List UInt8 × Int)) (s t : List UInt8) (c : Int) : sget (sput es s c) t = if s = t then some c else sget es t := by
  induction es with
  | nil => simp [sput, sget]
  | cons p es ih =>
    simp only [sput]
    by_cases h : p.1 = s
    · subst h; by_cases h2 : p.1 = t <;> simp [sget, h2]
    · by_cases h2 : p.1 = t
      · subst h2; simp [sget, h, fun e => h (Eq.symm e)]; intro e; exact (h e.symm).elim
      · simp [sget, h, h2, ih]
theorem sget_defM (es : List (List UInt8 × Int)) (s t : List UInt8) (c : Int) : sget (defM es s c) t = if defE es s c = 0 ∧ s = t then some c else sget es t := by
  unfold defM
  split
  · rename_i h; rw [sget_sput]; simp [h]
  · rename_i h; simp [h]
theorem defE_zero {es : List (List UInt8 × Int)} {s : List UInt8} {c : Int} (h : defE es s c = 0) : 1 ≤ c ∧ c ≤ 4 ∧ validS s = true ∧ sget es s = none := by
  unfold defE at h
  split at h
  · cases h
  · rename_i h1
    split at h
    · cases h
    · rename_i h2
      split at h
      · cases h
      · rename_i h3
        refine ⟨by omega, by omega, by simpa using h2, h3⟩
theorem defE_dup {es : List (List UInt8 × Int)} {s : List UInt8} {c v : Int} (h1 : 1 ≤ c) (h2 : c ≤ 4) (h3 : validS s = true) (h4 : sget es s = some v) : defE es s c = 10 := by
  unfold defE
  rw [if_neg (by omega), if_neg (by simp [h3]), h4]
def sHides (nm ot : List UInt8) (c d : Int) : FnSpec where
  β := Unit
  α := Unit
  args := fun _ => [.str nm, .str ot, .int .i64 c, .int .i64 d]
  st := fun _ => ⟨[], []⟩
  pre := fun _ => True
  post := fun _ _ => True
  res := fun _ _ => .ret (.bool true)
  out := fun _ _ => ⟨[], []⟩
def cutH (id : Nat) (S : St) : Option LoopAnn := match id with
  | 12 => some { slots := [102], keep := [], α := Unit, st := fun _ => ([.bool false], ⟨[], []⟩), dry := true, inv := fun _ => True, mu := fun _ => 0 }
  | 14 => some { slots := [126], keep := [], α := Unit, st := fun _ => ([.bool false], ⟨[], []⟩), dry := true, inv := fun _ => True, mu := fun _ => 0 }
  | 16 => some { slots := [149], keep := [], α := Unit, st := fun _ => ([.bool false], ⟨[], []⟩), inv := fun _ => True, mu := fun _ => 0 }
  | 18 => some { slots := [8], keep := [], α := Unit, st := fun _ => ([.bool true], ⟨[], []⟩), inv := fun _ => True, mu := fun _ => 0 }
  | _ => none
noncomputable def E4 : Senv := { E0 conC 164 4 [8, 9, 10, 11, 12, 13, 14, 15, 16, 17, 18, 19, 20, 21, 22, 30, 102, 126, 149] with cut := fun id _ S => cutH id S }
theorem hides_ok (nm ot : List UInt8) (c d : Int) : ACalls Try.prog 4 ((sHides nm ot c d).args ()) ((sHides nm ot c d).st ()) (SpecR (sHides nm ot c d) ()) := by
  refine con_of (A := sHides nm ot c d) (x := ()) (E := E4) ⟨tab_ok, conC_ok, mix, fun _ _ _ _ h => h.elim, fun _ h => nomatch h⟩ Try.func4 rfl rfl rfl (by simp [sHides, E4, E0]) ?_
  refine vc_eq (T :=
      ifB (decide ((200 : Int) < (↑(List.length nm) : Int))) ((True ∧ True) ∧ ∀ (y : Unit), True → True ∧ ∃ (y : Unit), True ∧ true = true ∧ True ∧ True) (ifB (decide ((200 : Int) < (↑(List.length ot) : Int))) ((True ∧
      True) ∧ ∀ (y : Unit), True → True ∧ ∃ (y : Unit), True ∧ true = true ∧ True ∧ True) ((True ∧ True) ∧ ∀ (y : Nat × Nat × Nat), True → ((Prod.fst y = Prod.fst y ∧ Prod.fst (Prod.snd y) = Prod.fst (Prod.snd y) ∧
      Prod.snd (Prod.snd y) = Prod.snd (Prod.snd y)) ∧ (0 : Nat) ≤ (1000 : Nat)) ∧ ∀ (y_1 : Nat), True → (True ∧ True) ∧ ∀ (y_2 : Nat × Nat × Nat), True → (True ∧ True) ∧ ∀ (y_3 : Nat × Nat × Nat), True → ((Prod.fst y_2
      = Prod.fst y_2 ∧ Prod.fst (Prod.snd y_2) = Prod.fst (Prod.snd y_2) ∧ Prod.snd (Prod.snd y_2) = Prod.snd (Prod.snd y_2)) ∧ (0 : Nat) ≤ (1000 : Nat)) ∧ ∀ (y_4 : Nat), True → ((Prod.fst y_2 = Prod.fst y_2 ∧ Prod.fst
      (Prod.snd y_2) = Prod.fst (Prod.snd y_2) ∧ y_4 = y_4) ∧ defN [] nm d (0 : Nat) ≤ (1000 : Nat)) ∧ ∀ (y_5 : Nat), True → ((Prod.fst y = Prod.fst y ∧ Prod.fst (Prod.snd y) = Prod.fst (Prod.snd y)) ∧ True) ∧ ∀ (y_6 :
      Unit), True → ((Prod.fst y_2 = Prod.fst y_2 ∧ Prod.fst (Prod.snd y_2) = Prod.fst (Prod.snd y_2) ∧ Prod.fst y = Prod.fst y ∧ Prod.fst (Prod.snd y) = Prod.fst (Prod.snd y)) ∧ True) ∧ ∀ (y_7 : Unit), True → ((Prod.fst
      y_3 = Prod.fst y_3 ∧ Prod.fst (Prod.snd y_3) = Prod.fst (Prod.snd y_3) ∧ Prod.fst y = Prod.fst y ∧ Prod.fst (Prod.snd y) = Prod.fst (Prod.snd y)) ∧ True) ∧ ∀ (y_8 : Unit), True → ((Prod.fst y = Prod.fst y ∧
      Prod.fst (Prod.snd y) = Prod.fst (Prod.snd y)) ∧ True) ∧ ∀ (y : Unit), True → ifB (defE [] nm c == (0 : Int)) (ifB (Prod.fst (find1 (defM [] nm c) nm) != c) (∃ (x : Unit), True ∧ true = false ∧ True) (ifB
      (!Prod.snd (find1 (defM [] nm c) nm)) (∃ (x : Unit), True ∧ true = false ∧ True) (ifB (Prod.fst (find2 [] (defM [] nm c) nm) != c) (∃ (x : Unit), True ∧ true = false ∧ True) (ifB (!Prod.snd (find2 [] (defM [] nm c)
      nm)) (∃ (x : Unit), True ∧ true = false ∧ True) (ifB (defE [] nm c != (0 : Int)) (ifB (Prod.snd (find1 (defM [] nm c) nm)) (∃ (x : Unit), True ∧ true = false ∧ True) (∃ (x : Unit), True ∧ Prod.snd (find2 [] (defM
      [] nm c) nm) = false ∧ True)) (∃ (x : Unit), True ∧ false = false ∧ True)))))) (ifB (defE [] nm c != (0 : Int)) (ifB (Prod.snd (find1 (defM [] nm c) nm)) (∃ (x : Unit), True ∧ true = false ∧ True) (∃ (x : Unit),
      True ∧ Prod.snd (find2 [] (defM [] nm c) nm) = false ∧ True)) (∃ (x : Unit), True ∧ false = false ∧ True)) ∧ ∀ (x : Unit), True → ifB (defE [] nm d == (0 : Int)) (ifB (Prod.fst (find2 (defM (defM [] nm d) ot d)
      (defM [] nm c) nm) != d) (∃ (x : Unit), True ∧ true = false ∧ True) (ifB (!Prod.snd (find2 (defM (defM [] nm d) ot d) (defM [] nm c) nm)) (∃ (x : Unit), True ∧ true = false ∧ True) (ifB (defE [] nm d != (0 : Int))
      (ifB (defE [] nm c == (0 : Int)) (∃ (x : Unit), True ∧ (Prod.fst (find2 (defM (defM [] nm d) ot d) (defM [] nm c) nm) != c) = false ∧ True) (∃ (x : Unit), True ∧ false = false ∧ True)) (∃ (x : Unit), True ∧ false =
      false ∧ True)))) (ifB (defE [] nm d != (0 : Int)) (ifB (defE [] nm c == (0 : Int)) (∃ (x : Unit), True ∧ (Prod.fst (find2 (defM (defM [] nm d) ot d) (defM [] nm c) nm) != c) = false ∧ True) (∃ (x : Unit), True ∧
      false = false ∧ True)) (∃ (x : Unit), True ∧ false = false ∧ True)) ∧ ∀ (x : Unit), True → ifB (defE [] nm d == (0 : Int)) (ifB (defE (defM [] nm d) ot d == (0 : Int)) (ifB (ot != nm) (ifB (Prod.snd (find1 (defM []
      nm c) ot)) (∃ (x : Unit), True ∧ (true = false ∧ True) ∧ True ∧ True) ((Prod.fst y_2 = Prod.fst y_2 ∧ defN (defM [] nm d) ot d (defN [] nm d (0 : Nat)) ≤ (1000000 : Nat)) ∧ ∀ (y : Unit), True → ∃ (x : List (List
      UInt8) × List (List UInt8)), ((defN (defM [] nm d) ot d (defN [] nm d (0 : Nat)) = List.length (Prod.fst x) ∧ (∀ (i : Nat), i < defN (defM [] nm d) ot d (defN [] nm d (0 : Nat)) → defF (defM [] nm d) ot d (defN []
      nm d (0 : Nat)) (defF [] nm d (0 : Nat) fun (x : Nat) => []) i = [D.str (List.getD (Prod.fst x) i [])]) ∧ True) ∧ ((2 : Nat) = List.length (Prod.snd x) ∧ (∀ (i : Nat), i < (2 : Nat) → List.getD [[D.str nm], [D.str
      ot]] i [] = [D.str (List.getD (Prod.snd x) i [])]) ∧ True) ∧ True) ∧ (True ∧ True) ∧ List.length (Prod.fst x) ≤ (1000000 : Nat) ∧ ∀ (y : Unit), True → ∃ (x_1 : Unit), True ∧ ((!decide (Prod.fst x = Prod.snd x)) =
      false ∧ True) ∧ True ∧ True)) (∃ (x : Unit), True ∧ (false = false ∧ True) ∧ True ∧ True)) (∃ (x : Unit), True ∧ (false = false ∧ True) ∧ True ∧ True)) (∃ (x : Unit), True ∧ (false = false ∧ True) ∧ True ∧ True) ∧
      ∀ (x : Unit), True → ifB (defE [] nm d != (0 : Int)) ((True ∧ True) ∧ ∀ (y : Unit), True → ∃ (x : Unit), True ∧ (true = true ∧ True) ∧ True ∧ True) (ifB (ot != nm) ((True ∧ True) ∧ ∀ (y : Unit), True → ∃ (x :
      Unit), True ∧ (true = true ∧ True) ∧ True ∧ True) (ifB (defE (defM [] nm d) ot d == (10 : Int)) ((True ∧ True) ∧ ∀ (y : Unit), True → ∃ (x : Unit), True ∧ (true = true ∧ True) ∧ True ∧ True) (∃ (x : Unit), True ∧
      (false = true ∧ True) ∧ True ∧ True))) ∧ ∀ (x : Unit), True → True ∧ ∃ (y : Unit), True ∧ true = true ∧ True ∧ True))) (by kernel_rfl) ?_
  try simp only [side_and]
  try simp only [side_iff]
  have hN : ∀ es s (c : Int) n, defN es s c n ≤ n + 1 := by intro es s c n; unfold defN; split <;> omega
  have hn1 := hN [] nm d 0
  have hn2 := hN (defM [] nm d) ot d (defN [] nm d 0)
  have e1 : find1 (defM [] nm c) nm = if defE [] nm c = 0 then (c, true) else (0, false) := by
    unfold find1; rw [sget_defM]; by_cases h : defE [] nm c = 0 <;> simp [h, sget]
  have e2 : find2 [] (defM [] nm c) nm = find1 (defM [] nm c) nm := by simp [find2, sget]
  have e3 : ot ≠ nm → find1 (defM [] nm c) ot = (0, false) := by
    intro h; unfold find1; rw [sget_defM]; simp [sget, h.symm]
  have e4 : defE [] nm d = 0 → ot = nm → defE (defM [] nm d) ot d = 10 := by
    intro h e; subst e
    obtain ⟨h1, h2, h3, _⟩ := defE_zero h
    exact defE_dup (v := d) h1 h2 h3 (by rw [sget_defM]; simp [h])
  have e5 : defE [] nm d = 0 → find2 (defM (defM [] nm d) ot d) (defM [] nm c) nm = (d, true) := by
    intro h
    unfold find2
    rw [sget_defM, sget_defM]
    simp only [h, true_and, if_true, and_self]
    split
    · rename_i q; split at q <;> simp_all
    · rename_i q; split at q <;> simp_all
  have e6 : defE [] nm d ≠ 0 → defE [] nm c = 0 → find2 (defM (defM [] nm d) ot d) (defM [] nm c) nm = (c, true) := by
    intro h k
    have hm : defM [] nm d = [] := by simp [defM, h]
    unfold find2
    rw [hm, sget_defM, e1, if_pos k]
    by_cases ho : ot = nm
    · subst ho; simp [h, sget]
    · simp [ho, sget]
  have e7 : defE [] nm d = 0 → defE (defM [] nm d) ot d = 0 → defN (defM [] nm d) ot d (defN [] nm d 0) = 2 ∧ ∀ i, i < 2 → defF (defM [] nm d) ot d (defN [] nm d 0) (defF [] nm d 0 fun _ => []) i = [D.str ([nm, ot].getD i [])] := by
    intro h k
    simp only [defN, defF, h, k, if_true]
    refine ⟨trivial, fun i hi => ?_⟩
    have : i = 0 ∨ i = 1 := by omega
    rcases this with rfl | rfl <;> simp [appF]
  have b1 : defN [] nm d 0 ≤ 1000 := by omega
  have b2 : defN (defM [] nm d) ot d (defN [] nm d 0) ≤ 1000000 := by omega
  rw [e2, e1]
  by_cases ho : ot = nm
  · subst ho
    by_cases k : defE [] ot c = 0 <;> by_cases h : defE [] ot d = 0
    · simp [ifB_iff, k, h, b1, e4 h rfl, e5 h]
    · simp [ifB_iff, k, h, b1, e6 h k]
    · simp [ifB_iff, k, h, b1, e4 h rfl, e5 h]
    · simp [ifB_iff, k, h, b1]
  · have fin : defE [] nm d = 0 → defE (defM [] nm d) ot d = 0 → ∃ a : List (List UInt8), ((defN (defM [] nm d) ot d (defN [] nm d 0) = a.length ∧ ∀ (i : Nat), i < defN (defM [] nm d) ot d (defN [] nm d 0) → defF (defM [] nm d) ot d (defN [] nm d 0) (defF [] nm d 0 fun _ => []) i = [D.str (a[i]?.getD [])]) ∧
        2 = a.length ∧ ∀ (i : Nat), i < 2 → [[D.str nm], [D.str ot]][i]?.getD [] = [D.str (a[i]?.getD [])]) ∧ a.length ≤ 1000000 := by
      intro h g
      obtain ⟨q1, q2⟩ := e7 h g
      refine ⟨[nm, ot], ⟨⟨by simp [q1], fun i hi => ?_⟩, rfl, fun i hi => ?_⟩, by simp⟩
      · rw [q1] at hi; simpa using q2 i hi
      · have : i = 0 ∨ i = 1 := by omega
        rcases this with rfl | rfl <;> simp
    by_cases k : defE [] nm c = 0 <;> by_cases h : defE [] nm d = 0
    · simp [ifB_iff, k, h, ho, b1, b2, e3 ho, e5 h]
      exact fun _ _ g => fin h g
    · simp [ifB_iff, k, h, ho, b1, b2, e3 ho, e6 h k]
    · simp [ifB_iff, k, h, ho, b1, b2, e3 ho, e5 h]
      exact fun _ _ g => fin h g
    · simp [ifB_iff, k, h, ho, b1, b2, e3 ho]
end Go.Proofs.Ytkmgikcdlbibdaa
namespace Go.Proofs.Ytkmgikcdlbibdaa
open Go Go.Ab

/-! ### the reference: New, Open -/
def sRNew (a kt ku : Nat) (o : D) (ds : List D) : FnSpec where
  β := Unit
  α := Nat × Nat × Nat
  args := fun _ => ds
  st := fun _ => ⟨[], []⟩
  pre := fun _ => True
  post := fun _ _ => True
  res := fun _ y => .ret (.ref a y.1 0)
  out := fun _ y => ⟨[(a, y.1, .cells [o, .sl 1 0 (fun _ => []) (.tok kt y.2.1), .sl 1 0 (fun _ => []) (.tok ku y.2.2)])], [(ku, y.2.2), (kt, y.2.1)]⟩
noncomputable def E8 : Senv := { E0 con0 3 1 [] with gr := [.cell 0 1, .cell 0 2] }
theorem rnew_ok : ACalls Try.prog 8 ((sRNew 0 0 1 .nilp []).args ()) ((sRNew 0 0 1 .nilp []).st ()) (SpecR (sRNew 0 0 1 .nilp []) ()) := by
  refine con_of (A := sRNew 0 0 1 .nilp []) (x := ()) (E := E8) ⟨tab_ok, con0_ok, mix, fun _ _ _ _ h => h.elim, fun _ h => nomatch h⟩ Try.func8 rfl rfl rfl (by decide) ?_
  refine vc_eq (T :=
      ∀ (x : Nat), True → ∀ (t t_1 : Nat), True ∧ ∃ (y : Nat × Nat × Nat), True ∧ x = Prod.fst y ∧ (x = Prod.fst y ∧ (True ∧ ((0 : Nat) = (0 : Nat) ∧ (∀ (i : Nat), i < (0 : Nat) → eqOf (List D) [] []) ∧ t = Prod.fst
      (Prod.snd y)) ∧ ((0 : Nat) = (0 : Nat) ∧ (∀ (i : Nat), i < (0 : Nat) → eqOf (List D) [] []) ∧ t_1 = Prod.snd (Prod.snd y)) ∧ True) ∧ True) ∧ t_1 = Prod.snd (Prod.snd y) ∧ t = Prod.fst (Prod.snd y) ∧ True) (by kernel_rfl) ?_
  intro x _ t u
  exact ⟨trivial, (x, t, u), by simp⟩
noncomputable def E10 : Senv := { E0 con0 8 1 [2, 4] with gr := [.cell 0 1, .cell 0 2] }
theorem ropen_ok (k x : Nat) : ACalls Try.prog 10 ((sRNew 0 0 1 (.ref k x 0) [.ref k x 0]).args ()) ((sRNew 0 0 1 (.ref k x 0) [.ref k x 0]).st ()) (SpecR (sRNew 0 0 1 (.ref k x 0) [.ref k x 0]) ()) := by
  refine con_of (A := sRNew 0 0 1 (.ref k x 0) [.ref k x 0]) (x := ()) (E := E10) ⟨tab_ok, con0_ok, mix, fun _ _ _ _ h => h.elim, fun _ h => nomatch h⟩ Try.func10 rfl rfl rfl (by simp [sRNew, E10, E0]) ?_
  refine vc_eq (T :=
      ∀ (x_1 : Nat), True → ∀ (t t_1 : Nat), True ∧ ∃ (y : Nat × Nat × Nat), True ∧ x_1 = Prod.fst y ∧ (x_1 = Prod.fst y ∧ (x = x ∧ ((0 : Nat) = (0 : Nat) ∧ (∀ (i : Nat), i < (0 : Nat) → eqOf (List D) [] []) ∧ t =
      Prod.fst (Prod.snd y)) ∧ ((0 : Nat) = (0 : Nat) ∧ (∀ (i : Nat), i < (0 : Nat) → eqOf (List D) [] []) ∧ t_1 = Prod.snd (Prod.snd y)) ∧ True) ∧ True) ∧ t_1 = Prod.snd (Prod.snd y) ∧ t = Prod.fst (Prod.snd y) ∧ True) (by kernel_rfl) ?_
  intro y _ t u
  exact ⟨trivial, (y, t, u), by simp⟩

/-! ### the reference: Valid -/
def letB (b : UInt8) : Bool := decide (97 ≤ (b.toNat : Int)) && decide ((b.toNat : Int) ≤ 122)
def digB (b : UInt8) : Bool := decide (48 ≤ (b.toNat : Int)) && decide ((b.toNat : Int) ≤ 57)
def badAt (s : List UInt8) (i : Nat) : Bool := !letB (s.getD i 0) && (decide (i = 0) || !digB (s.getD i 0))
def validR (s : List UInt8) : Bool := !s.isEmpty && decide (s.length ≤ 32) && (List.range s.length).all fun i => !badAt s i
def sRValid : FnSpec where
  β := List UInt8
  α := Unit
  args := fun s => [.str s]
  st := fun _ => ⟨[], []⟩
  pre := fun _ => True
  post := fun _ _ => True
  res := fun s _ => .ret (.bool (validR s))
  out := fun _ _ => ⟨[], []⟩
noncomputable def E21 (s : List UInt8) : Senv := { E0 con0 50 1 [2, 3, 4, 5, 13, 17, 49] with
  ann := fun b _ _ => match b with
    | 0 => some { slots := [3], keep := [0], α := Nat, st := fun i => ([.int .i64 i], ⟨[], []⟩), inv := fun i => i ≤ s.length ∧ ∀ j, j < i → badAt s j = false, mu := fun i => s.length - i }
    | _ => none
  cut := fun id _ _ => match id with
    | 6 => some { slots := [4], keep := [], α := Nat, st := fun i => ([.bool (letB (s.getD i 0))], ⟨[], []⟩), inv := fun i => i = i, mu := fun _ => 0 }
    | _ => none }
theorem rvalid_ok (s : List UInt8) : ACalls Try.prog 21 (sRValid.args s) (sRValid.st s) (SpecR sRValid s) := by
  refine con_of (A := sRValid) (x := s) (E := { E21 s with cut := fun _ _ _ => none }) ⟨tab_ok, con0_ok, mix, fun _ _ _ _ h => h.elim, fun _ h => nomatch h⟩ Try.func21 rfl rfl rfl (by simp [sRValid, E21, E0]) ?_
  refine vc_eq (T :=
      ifB ((↑(List.length s) : Int) == (0 : Int)) (True ∧ ∃ (y : Unit), True ∧ false = validR s ∧ True ∧ True) (ifB (decide ((32 : Int) < (↑(List.length s) : Int))) (True ∧ ∃ (y : Unit), True ∧ false = validR s ∧ True ∧
      True) ((∃ (x : Nat), (x ≤ List.length s ∧ ∀ (j : Nat), j < x → badAt s j = false) ∧ ((0 : Int) = (↑x : Int) ∧ True) ∧ True ∧ True) ∧ ∀ (x : Nat), (x ≤ List.length s ∧ ∀ (j : Nat), j < x → badAt s j = false) → ifB
      (decide ((↑x : Int) < (↑(List.length s) : Int))) (side ((0 : Int) ≤ (↑x : Int) ∧ (↑x : Int) < (↑(List.length s) : Int)) (ifB (decide ((97 : Int) ≤ (↑(UInt8.toNat (List.getD s (Int.toNat (↑x : Int)) (0 : UInt8))) :
      Int))) (side ((0 : Int) ≤ (↑x : Int) ∧ (↑x : Int) < (↑(List.length s) : Int)) (side ((0 : Int) ≤ (↑x : Int) ∧ (↑x : Int) < (↑(List.length s) : Int)) (ifB (decide ((48 : Int) ≤ (↑(UInt8.toNat (List.getD s (Int.toNat
      (↑x : Int)) (0 : UInt8))) : Int))) (side ((0 : Int) ≤ (↑x : Int) ∧ (↑x : Int) < (↑(List.length s) : Int)) (ifB (!decide ((↑(UInt8.toNat (List.getD s (Int.toNat (↑x : Int)) (0 : UInt8))) : Int) ≤ (122 : Int))) (ifB
      ((↑x : Int) == (0 : Int)) (True ∧ ∃ (y : Unit), True ∧ false = validR s ∧ True ∧ True) (ifB (!decide ((↑(UInt8.toNat (List.getD s (Int.toNat (↑x : Int)) (0 : UInt8))) : Int) ≤ (57 : Int))) (True ∧ ∃ (y : Unit),
      True ∧ false = validR s ∧ True ∧ True) ((D.str s = D.str s ∧ True) ∧ ∃ (y : Nat), (y ≤ List.length s ∧ ∀ (j : Nat), j < y → badAt s j = false) ∧ List.length s - y < List.length s - x ∧ (IntKind.wrap IntKind.i64
      ((↑x : Int) + (1 : Int)) = (↑y : Int) ∧ True) ∧ True ∧ True))) ((D.str s = D.str s ∧ True) ∧ ∃ (y : Nat), (y ≤ List.length s ∧ ∀ (j : Nat), j < y → badAt s j = false) ∧ List.length s - y < List.length s - x ∧
      (IntKind.wrap IntKind.i64 ((↑x : Int) + (1 : Int)) = (↑y : Int) ∧ True) ∧ True ∧ True))) (ifB (!decide ((↑(UInt8.toNat (List.getD s (Int.toNat (↑x : Int)) (0 : UInt8))) : Int) ≤ (122 : Int))) (ifB ((↑x : Int) == (0
      : Int)) (True ∧ ∃ (y : Unit), True ∧ false = validR s ∧ True ∧ True) (True ∧ ∃ (y : Unit), True ∧ false = validR s ∧ True ∧ True)) ((D.str s = D.str s ∧ True) ∧ ∃ (y : Nat), (y ≤ List.length s ∧ ∀ (j : Nat), j < y
      → badAt s j = false) ∧ List.length s - y < List.length s - x ∧ (IntKind.wrap IntKind.i64 ((↑x : Int) + (1 : Int)) = (↑y : Int) ∧ True) ∧ True ∧ True))))) (side ((0 : Int) ≤ (↑x : Int) ∧ (↑x : Int) < (↑(List.length
      s) : Int)) (ifB (decide ((48 : Int) ≤ (↑(UInt8.toNat (List.getD s (Int.toNat (↑x : Int)) (0 : UInt8))) : Int))) (side ((0 : Int) ≤ (↑x : Int) ∧ (↑x : Int) < (↑(List.length s) : Int)) (ifB ((↑x : Int) == (0 : Int))
      (True ∧ ∃ (y : Unit), True ∧ false = validR s ∧ True ∧ True) (ifB (!decide ((↑(UInt8.toNat (List.getD s (Int.toNat (↑x : Int)) (0 : UInt8))) : Int) ≤ (57 : Int))) (True ∧ ∃ (y : Unit), True ∧ false = validR s ∧
      True ∧ True) ((D.str s = D.str s ∧ True) ∧ ∃ (y : Nat), (y ≤ List.length s ∧ ∀ (j : Nat), j < y → badAt s j = false) ∧ List.length s - y < List.length s - x ∧ (IntKind.wrap IntKind.i64 ((↑x : Int) + (1 : Int)) =
      (↑y : Int) ∧ True) ∧ True ∧ True)))) (ifB ((↑x : Int) == (0 : Int)) (True ∧ ∃ (y : Unit), True ∧ false = validR s ∧ True ∧ True) (True ∧ ∃ (y : Unit), True ∧ false = validR s ∧ True ∧ True)))))) (True ∧ ∃ (y :
      Unit), True ∧ true = validR s ∧ True ∧ True)))) (by kernel_rfl) ?_
  try simp only [side_and]
  try simp only [side_iff]
  have T : ∀ X Y : Prop, ifB true X Y = X := fun _ _ => rfl
  have F : ∀ X Y : Prop, ifB false X Y = Y := fun _ _ => rfl
  have hbad : ∀ x, x < s.length → badAt s x = true → validR s = false := by
    intro x hx hb
    cases hv : validR s with
    | false => rfl
    | true =>
      simp only [validR, Bool.and_eq_true] at hv
      have := List.all_eq_true.1 hv.2 x (List.mem_range.2 hx)
      rw [hb] at this; cases this
  cases e1 : ((s.length : Int) == 0) with
  | true =>
    have : s = [] := List.eq_nil_of_length_eq_zero (by have := eq_of_beq e1; omega)
    rw [T]; exact ⟨trivial, (), trivial, by simp [validR, this], trivial, trivial⟩
  | false =>
  rw [F]
  have hne : s.isEmpty = false := by
    cases s with
    | nil => simp at e1
    | cons _ _ => rfl
  cases e2 : decide (32 < (s.length : Int)) with
  | true =>
    have : ¬ s.length ≤ 32 := by have := of_decide_eq_true e2; omega
    rw [T]; exact ⟨trivial, (), trivial, by simp [validR, this], trivial, trivial⟩
  | false =>
  rw [F]
  have hl : s.length ≤ 32 := by have := of_decide_eq_false e2; omega
  refine ⟨⟨0, ⟨by omega, fun j hj => by omega⟩, ⟨rfl, trivial⟩, trivial, trivial⟩, ?_⟩
  rintro x ⟨h1, h2⟩
  cases e3 : decide ((x : Int) < (s.length : Int)) with
  | false =>
    have hx : x = s.length := by have := of_decide_eq_false e3; omega
    rw [F]
    refine ⟨trivial, (), trivial, ?_, trivial, trivial⟩
    simp only [validR, hne, Bool.not_false, Bool.true_and, decide_eq_true hl]
    exact (List.all_eq_true.2 fun i hi => by rw [h2 i (by have := List.mem_range.1 hi; omega)]; rfl).symm
  | true =>
  have hx : x < s.length := by have := of_decide_eq_true e3; omega
  rw [T]
  have bad : badAt s x = true → (True ∧ ∃ (_ : Unit), True ∧ false = validR s ∧ True ∧ True) := fun hb => ⟨trivial, (), trivial, (hbad x hx hb).symm, trivial, trivial⟩
  have good : badAt s x = false → ((True ∧ True) ∧ ∃ y : Nat, (y ≤ s.length ∧ ∀ (j : Nat), j < y → badAt s j = false) ∧ s.length - y < s.length - x ∧ (IntKind.wrap .i64 ((x : Int) + 1) = (y : Int) ∧ True) ∧ True ∧ True) := by
    intro hb
    refine ⟨⟨trivial, trivial⟩, x + 1, ⟨by omega, fun j hj => ?_⟩, by omega, ⟨by rw [IntKind.wrap_i64] <;> omega, trivial⟩, trivial, trivial⟩
    by_cases e : j < x
    · exact h2 j e
    · have : j = x := by omega
      subst this; exact hb
  have i0 : (0 : Int) ≤ (x : Int) := by omega
  have i1 : (x : Int) < (s.length : Int) := by omega
  simp only [Int.toNat_natCast]
  have hz : ((x : Int) == 0) = decide (x = 0) := by by_cases h : x = 0 <;> simp [h]
  rw [hz]
  have hB : badAt s x = (!(decide (97 ≤ ((s.getD x 0).toNat : Int)) && decide (((s.getD x 0).toNat : Int) ≤ 122)) && (decide (x = 0) || !(decide (48 ≤ ((s.getD x 0).toNat : Int)) && decide (((s.getD x 0).toNat : Int) ≤ 57)))) := rfl
  rw [hB] at bad good
  clear hB hbad
  revert bad good
  cases decide (97 ≤ ((s.getD x 0).toNat : Int)) <;> cases decide (((s.getD x 0).toNat : Int) ≤ 122) <;> cases decide (x = 0) <;> cases decide (48 ≤ ((s.getD x 0).toNat : Int)) <;> cases decide (((s.getD x 0).toNat : Int) ≤ 57) <;>
    (intro bad good; simp only [T, F, Bool.not_true, Bool.not_false]; (repeat (refine ⟨i0, i1, ?_⟩)); first | exact good rfl | exact bad rfl)

/-! ### the reference: at -/
def AtIs (l : List (List UInt8 × Int)) (nm : List UInt8) (r : Int) : Prop :=
  (r = -1 ∧ ∀ j, j < l.length → (l.getD j ([], 0)).1 ≠ nm) ∨ ∃ i : Nat, r = (i : Int) ∧ i < l.length ∧ (l.getD i ([], 0)).1 = nm ∧ ∀ j, j < i → (l.getD j ([], 0)).1 ≠ nm
def nmsF (l : List (List UInt8 × Int)) : Nat → List D := fun i => [.str (l.getD i ([], 0)).1]
def clsF (l : List (List UInt8 × Int)) : Nat → List D := fun i => [.int .i64 (l.getD i ([], 0)).2]
def sAt (k x : Nat) (nm : List UInt8) (o : D) (l : List (List UInt8 × Int)) (m : Ab.Mode) (d : D) : FnSpec where
  β := Unit
  α := Int
  args := fun _ => [.ref k x 0, .str nm]
  st := fun _ => ⟨[(k, x, .cells [o, .sl 1 l.length (nmsF l) m, d])], []⟩
  pre := fun _ => l.length ≤ 1000
  post := fun _ r => AtIs l nm r
  res := fun _ r => .ret (.int .i64 r)
  out := fun _ _ => ⟨[(k, x, .cells [o, .sl 1 l.length (nmsF l) m, d])], []⟩
noncomputable def E22 (nm : List UInt8) (l : List (List UInt8 × Int)) : Senv := { E0 con0 25 2 [4, 5, 12, 23] with
  ann := fun b _ S => match b with
    | 0 => some { slots := [5], keep := [0, 1], α := Nat, st := fun i => ([.int .i64 i], S), inv := fun i => i ≤ l.length ∧ ∀ j, j < i → (l.getD j ([], 0)).1 ≠ nm, mu := fun i => l.length - i }
    | _ => none }
theorem at_ok0 (x : Nat) (nm : List UInt8) (o : D) (l : List (List UInt8 × Int)) (m : Ab.Mode) (d : D) (hl : l.length ≤ 1000) : ACalls Try.prog 22 ((sAt 0 x nm o l m d).args ()) ((sAt 0 x nm o l m d).st ()) (SpecR (sAt 0 x nm o l m d) ()) := by
  refine con_of (A := sAt 0 x nm o l m d) (x := ()) (E := E22 nm l) ⟨tab_ok, con0_ok, mix, fun _ _ _ _ h => h.elim, fun _ h => nomatch h⟩ Try.func22 rfl rfl rfl (by simp [sAt, E22, E0]) ?_
  refine vc_eq (T :=
      (∃ (x_1 : Nat), (x_1 ≤ List.length l ∧ ∀ (j : Nat), j < x_1 → Prod.fst (List.getD l j ([], (0 : Int))) ≠ nm) ∧ ((0 : Int) = (↑x_1 : Int) ∧ True) ∧ (x = x ∧ (weakD o o ∧ (List.length l = List.length l ∧ (∀ (i :
      Nat), i < List.length l → [D.str (Prod.fst (List.getD l i ([], (0 : Int))))] = [D.str (Prod.fst (List.getD l i ([], (0 : Int))))]) ∧ weakM m m) ∧ weakD d d ∧ True) ∧ True) ∧ True) ∧ ∀ (x_1 : Nat), (x_1 ≤
      List.length l ∧ ∀ (j : Nat), j < x_1 → Prod.fst (List.getD l j ([], (0 : Int))) ≠ nm) → x = x ∧ ifB (decide ((↑x_1 : Int) < (↑(List.length l) : Int))) (x = x ∧ side ((0 : Int) ≤ (↑x_1 : Int) ∧ (↑x_1 : Int) <
      (↑(List.length l) : Int)) (ifB (Prod.fst (List.getD l (Int.toNat (↑x_1 : Int)) ([], (0 : Int))) == nm) (True ∧ ∃ (y : Int), AtIs l nm y ∧ (↑x_1 : Int) = y ∧ (x = x ∧ (weakD o o ∧ (List.length l = List.length l ∧ (∀
      (i : Nat), i < List.length l → [D.str (Prod.fst (List.getD l i ([], (0 : Int))))] = [D.str (Prod.fst (List.getD l i ([], (0 : Int))))]) ∧ weakM m m) ∧ weakD d d ∧ True) ∧ True) ∧ True) ((D.ref (0 : Nat) x (0 : Nat)
      = D.ref (0 : Nat) x (0 : Nat) ∧ D.str nm = D.str nm ∧ True) ∧ ∃ (y : Nat), (y ≤ List.length l ∧ ∀ (j : Nat), j < y → Prod.fst (List.getD l j ([], (0 : Int))) ≠ nm) ∧ List.length l - y < List.length l - x_1 ∧
      (IntKind.wrap IntKind.i64 ((↑x_1 : Int) + (1 : Int)) = (↑y : Int) ∧ True) ∧ (x = x ∧ (weakD o o ∧ (List.length l = List.length l ∧ (∀ (i : Nat), i < List.length l → [D.str (Prod.fst (List.getD l i ([], (0 :
      Int))))] = [D.str (Prod.fst (List.getD l i ([], (0 : Int))))]) ∧ weakM m m) ∧ weakD d d ∧ True) ∧ True) ∧ True))) (True ∧ ∃ (y : Int), AtIs l nm y ∧ (-1 : Int) = y ∧ (x = x ∧ (weakD o o ∧ (List.length l =
      List.length l ∧ (∀ (i : Nat), i < List.length l → [D.str (Prod.fst (List.getD l i ([], (0 : Int))))] = [D.str (Prod.fst (List.getD l i ([], (0 : Int))))]) ∧ weakM m m) ∧ weakD d d ∧ True) ∧ True) ∧ True)) (by kernel_rfl) ?_
  try simp only [side_and]
  try simp only [side_iff]
  have wo := weakD_refl o
  have wm := weakM_refl m
  have wd := weakD_refl d
  refine ⟨⟨0, ⟨by omega, fun j hj => by omega⟩, ⟨rfl, trivial⟩, ⟨trivial, ⟨wo, ⟨trivial, fun _ _ => trivial, wm⟩, wd, trivial⟩, trivial⟩, trivial⟩, ?_⟩
  rintro i ⟨h1, h2⟩
  refine ⟨trivial, ?_⟩
  rw [ifB_iff]
  simp only [Int.toNat_natCast]
  refine ⟨fun q => ?_, fun q => ?_⟩
  · have hi : i < l.length := by have := of_decide_eq_true q; omega
    refine ⟨trivial, by omega, by omega, ?_⟩
    rw [ifB_iff]
    refine ⟨fun e => ⟨trivial, (i : Int), .inr ⟨i, rfl, hi, eq_of_beq e, h2⟩, rfl, ⟨trivial, ⟨wo, ⟨trivial, fun _ _ => trivial, wm⟩, wd, trivial⟩, trivial⟩, trivial⟩, fun e => ⟨⟨trivial, trivial, trivial⟩, i + 1, ⟨by omega, fun j hj => ?_⟩, by omega, ⟨by rw [IntKind.wrap_i64] <;> omega, trivial⟩, ⟨trivial, ⟨wo, ⟨trivial, fun _ _ => trivial, wm⟩, wd, trivial⟩, trivial⟩, trivial⟩⟩
    by_cases hj' : j < i
    · exact h2 j hj'
    · have : j = i := by omega
      subst this
      intro h; rw [h, beq_self_eq_true] at e; cases e
  · have hi : i = l.length := by have := of_decide_eq_false q; omega
    refine ⟨trivial, -1, .inl ⟨rfl, fun j hj => h2 j (by omega)⟩, rfl, ⟨trivial, ⟨wo, ⟨trivial, fun _ _ => trivial, wm⟩, wd, trivial⟩, trivial⟩, trivial⟩
theorem at_ok (k x : Nat) (nm : List UInt8) (o : D) (l : List (List UInt8 × Int)) (m : Ab.Mode) (d : D) (hl : l.length ≤ 1000) : ACalls Try.prog 22 ((sAt k x nm o l m d).args ()) ((sAt k x nm o l m d).st ()) (SpecR (sAt k x nm o l m d) ()) := by
  refine (at_ok0 x nm o l m d hl).respec ?_ ?_ fun y hy => ⟨y, hy, ?_, ?_⟩
  · simp [sAt, weakL, weakD, chk_iff]
  · simp [sAt, posS, posO, posT, weakO, weakL, weakD, weakD_refl, weakM_refl, chk_iff]
  · simp [sAt, weakEnd, weakD, chk_iff, kEq]; rfl
  · simp [sAt, posS, posO, posT, weakO, weakL, weakD, weakD_refl, weakM_refl, chk_iff]
end Go.Proofs.Ytkmgikcdlbibdaa
namespace Go.Proofs.Ytkmgikcdlbibdaa
open Go Go.Ab

/-! ### the reference: Define, Names -/
def defR (l : List (List UInt8 × Int)) (nm : List UInt8) (c : Int) : Int :=
  if c < 1 ∨ 4 < c then 1 else if validR nm = false then 9 else match sget l nm with
    | some _ => 10
    | none => 0
def addR (l : List (List UInt8 × Int)) (nm : List UInt8) (c : Int) : List (List UInt8 × Int) := if defR l nm c = 0 then l ++ [(nm, c)] else l
def sRDef (k x : Nat) (nm : List UInt8) (c : Int) (o : D) (l : List (List UInt8 × Int)) (a u b v : Nat) : FnSpec where
  β := Unit
  α := Nat × Nat
  args := fun _ => [.ref k x 0, .str nm, .int .i64 c]
  st := fun _ => ⟨[(k, x, .cells [o, .sl 1 l.length (nmsF l) (.tok a u), .sl 1 l.length (clsF l) (.tok b v)])], [(a, u), (b, v)]⟩
  pre := fun _ => l.length ≤ 1000
  post := fun _ _ => True
  res := fun _ _ => .ret (.int .i64 (defR l nm c))
  out := fun _ y => ⟨[(k, x, .cells [o, .sl 1 (addR l nm c).length (nmsF (addR l nm c)) (.tok a y.1), .sl 1 (addR l nm c).length (clsF (addR l nm c)) (.tok b y.2)])], [(a, y.1), (b, y.2)]⟩
def conR (l : List (List UInt8 × Int)) (k : Nat) (ds : List D) (S : St) : Option FnSpec :=
  match k with
  | 21 => some sRValid
  | 22 => match ds with
    | [.ref k x 0, .str nm] => match getO S.objs k with
      | some (x', .cells [o, .sl 1 n f m, d]) => some ((sAt k x nm o l m d).fits () (x' = x ∧ n = l.length ∧ ∀ i, i < n → f i = nmsF l i))
      | _ => none
    | _ => none
  | _ => none
theorem conR_ok (l : List (List UInt8 × Int)) : ConOk Try.prog (conR l) := by
  intro k ds S A h
  unfold conR at h
  split at h
  · injection h with h; subst h; exact ConOk.plain (fun x _ => rvalid_ok x) rfl rfl
  · split at h
    · split at h
      · injection h with h; subst h
        refine FnSpec.fits_ok (fun _ hy => at_ok _ _ _ _ _ _ _ hy) ?_
        rintro ⟨rfl, rfl, hf⟩
        simp_all [sAt, leS, leO, leT, chk_iff, nodupB, weakL, weakD, weakO, weakD_refl, weakM_refl]
      · cases h
    · cases h
  · cases h
theorem sget_none {l : List (List UInt8 × Int)} {nm : List UInt8} : sget l nm = none ↔ ∀ j, j < l.length → (l.getD j ([], 0)).1 ≠ nm := by
  induction l with
  | nil => simp [sget]
  | cons p l ih =>
    simp only [sget]
    by_cases h : p.1 = nm
    · rw [if_pos h]
      refine ⟨fun q => (by cases q), fun q => (q 0 (by simp) (by simpa using h)).elim⟩
    · rw [if_neg h, ih]
      refine ⟨fun q j hj => ?_, fun q j hj => ?_⟩
      · cases j with
        | zero => simpa using h
        | succ j => simpa using q j (by simpa using hj)
      · have := q (j + 1) (by simpa using hj); simpa using this
theorem sget_at {l : List (List UInt8 × Int)} {nm : List UInt8} {r : Int} (h : AtIs l nm r) : (r < 0 ↔ sget l nm = none) := by
  rw [sget_none]
  rcases h with ⟨rfl, h⟩ | ⟨i, rfl, h1, h2, _⟩
  · exact ⟨fun _ => h, fun _ => by omega⟩
  · exact ⟨fun h => by omega, fun h => (h i h1 h2).elim⟩
theorem nms_app (l : List (List UInt8 × Int)) (nm : List UInt8) (c : Int) (i : Nat) (hi : i < l.length + 1) (g : Nat → List D) (hg : g 0 = [.str nm]) : appF l.length (nmsF l) g i = nmsF (l ++ [(nm, c)]) i := by
  unfold appF nmsF
  by_cases h : i < l.length
  · simp [h, List.getElem?_append_left h]
  · have : i = l.length := by omega
    subst this; simp [hg]
theorem cls_app (l : List (List UInt8 × Int)) (nm : List UInt8) (c : Int) (i : Nat) (hi : i < l.length + 1) (g : Nat → List D) (hg : g 0 = [.int .i64 c]) : appF l.length (clsF l) g i = clsF (l ++ [(nm, c)]) i := by
  unfold appF clsF
  by_cases h : i < l.length
  · simp [h, List.getElem?_append_left h]
  · have : i = l.length := by omega
    subst this; simp [hg]
theorem rdefine_ok0 (x : Nat) (nm : List UInt8) (c : Int) (o : D) (l : List (List UInt8 × Int)) (u v : Nat) (hl : l.length ≤ 1000) :
    ACalls Try.prog 12 ((sRDef 0 x nm c o l 0 u 1 v).args ()) ((sRDef 0 x nm c o l 0 u 1 v).st ()) (SpecR (sRDef 0 x nm c o l 0 u 1 v) ()) := by
  refine con_of (A := sRDef 0 x nm c o l 0 u 1 v) (x := ()) (E := E0 (conR l) 44 3 [6, 16, 19, 23]) ⟨tab_ok, conR_ok l, mix, fun _ _ _ _ h => h.elim, fun _ h => nomatch h⟩ Try.func12 rfl rfl rfl (by simp [sRDef, E0]) ?_
  refine vc_eq (T :=
      ifB (decide (c < (1 : Int))) (True ∧ ∃ (y : Nat × Nat), True ∧ (1 : Int) = defR l nm c ∧ (x = x ∧ (weakD o o ∧ (List.length l = List.length (addR l nm c) ∧ (∀ (i : Nat), i < List.length l → [D.str (Prod.fst
      (List.getD l i ([], (0 : Int))))] = [D.str (Prod.fst (List.getD (addR l nm c) i ([], (0 : Int))))]) ∧ u = Prod.fst y) ∧ (List.length l = List.length (addR l nm c) ∧ (∀ (i : Nat), i < List.length l → [D.int
      IntKind.i64 (Prod.snd (List.getD l i ([], (0 : Int))))] = [D.int IntKind.i64 (Prod.snd (List.getD (addR l nm c) i ([], (0 : Int))))]) ∧ v = Prod.snd y) ∧ True) ∧ True) ∧ u = Prod.fst y ∧ v = Prod.snd y ∧ True) (ifB
      (decide ((4 : Int) < c)) (True ∧ ∃ (y : Nat × Nat), True ∧ (1 : Int) = defR l nm c ∧ (x = x ∧ (weakD o o ∧ (List.length l = List.length (addR l nm c) ∧ (∀ (i : Nat), i < List.length l → [D.str (Prod.fst (List.getD
      l i ([], (0 : Int))))] = [D.str (Prod.fst (List.getD (addR l nm c) i ([], (0 : Int))))]) ∧ u = Prod.fst y) ∧ (List.length l = List.length (addR l nm c) ∧ (∀ (i : Nat), i < List.length l → [D.int IntKind.i64
      (Prod.snd (List.getD l i ([], (0 : Int))))] = [D.int IntKind.i64 (Prod.snd (List.getD (addR l nm c) i ([], (0 : Int))))]) ∧ v = Prod.snd y) ∧ True) ∧ True) ∧ u = Prod.fst y ∧ v = Prod.snd y ∧ True) (∃ (x_1 : List
      UInt8), (nm = x_1 ∧ True) ∧ (True ∧ True) ∧ True ∧ ∀ (y : Unit), True → ifB (!validR x_1) (True ∧ ∃ (y : Nat × Nat), True ∧ (9 : Int) = defR l nm c ∧ (x = x ∧ (weakD o o ∧ (List.length l = List.length (addR l nm c)
      ∧ (∀ (i : Nat), i < List.length l → [D.str (Prod.fst (List.getD l i ([], (0 : Int))))] = [D.str (Prod.fst (List.getD (addR l nm c) i ([], (0 : Int))))]) ∧ u = Prod.fst y) ∧ (List.length l = List.length (addR l nm
      c) ∧ (∀ (i : Nat), i < List.length l → [D.int IntKind.i64 (Prod.snd (List.getD l i ([], (0 : Int))))] = [D.int IntKind.i64 (Prod.snd (List.getD (addR l nm c) i ([], (0 : Int))))]) ∧ v = Prod.snd y) ∧ True) ∧ True)
      ∧ u = Prod.fst y ∧ v = Prod.snd y ∧ True) (((x = x ∧ List.length l = List.length l ∧ ∀ (i : Nat), i < List.length l → [D.str (Prod.fst (List.getD l i ([], (0 : Int))))] = [D.str (Prod.fst (List.getD l i ([], (0 :
      Int))))]) ∧ List.length l ≤ (1000 : Nat)) ∧ ∀ (y : Int), AtIs l nm y → ifB (decide ((0 : Int) ≤ y)) (True ∧ ∃ (y : Nat × Nat), True ∧ (10 : Int) = defR l nm c ∧ (x = x ∧ (weakD o o ∧ (List.length l = List.length
      (addR l nm c) ∧ (∀ (i : Nat), i < List.length l → [D.str (Prod.fst (List.getD l i ([], (0 : Int))))] = [D.str (Prod.fst (List.getD (addR l nm c) i ([], (0 : Int))))]) ∧ u = Prod.fst y) ∧ (List.length l =
      List.length (addR l nm c) ∧ (∀ (i : Nat), i < List.length l → [D.int IntKind.i64 (Prod.snd (List.getD l i ([], (0 : Int))))] = [D.int IntKind.i64 (Prod.snd (List.getD (addR l nm c) i ([], (0 : Int))))]) ∧ v =
      Prod.snd y) ∧ True) ∧ True) ∧ u = Prod.fst y ∧ v = Prod.snd y ∧ True) (x = x ∧ u = u ∧ side ((List.length l + (1 : Nat)) * (16 : Nat) ≤ (140737488355328 : Nat) ∧ List.length l + (1 : Nat) ≤ (9223372036854775807 :
      Nat)) (∀ (t : Nat), x = x ∧ x = x ∧ v = v ∧ side ((List.length l + (1 : Nat)) * (8 : Nat) ≤ (140737488355328 : Nat) ∧ List.length l + (1 : Nat) ≤ (9223372036854775807 : Nat)) (∀ (t_1 : Nat), x = x ∧ True ∧ ∃ (y :
      Nat × Nat), True ∧ (0 : Int) = defR l nm c ∧ (x = x ∧ (weakD o o ∧ (List.length l + (1 : Nat) = List.length (addR l nm c) ∧ (∀ (i : Nat), i < List.length l + (1 : Nat) → appF (List.length l) (fun (i : Nat) =>
      [D.str (Prod.fst (List.getD l i ([], (0 : Int))))]) (fun (i : Nat) => List.getD [[D.str nm]] i []) i = [D.str (Prod.fst (List.getD (addR l nm c) i ([], (0 : Int))))]) ∧ t = Prod.fst y) ∧ (List.length l + (1 : Nat)
      = List.length (addR l nm c) ∧ (∀ (i : Nat), i < List.length l + (1 : Nat) → appF (List.length l) (fun (i : Nat) => [D.int IntKind.i64 (Prod.snd (List.getD l i ([], (0 : Int))))]) (fun (i : Nat) => List.getD [[D.int
      IntKind.i64 c]] i []) i = [D.int IntKind.i64 (Prod.snd (List.getD (addR l nm c) i ([], (0 : Int))))]) ∧ t_1 = Prod.snd y) ∧ True) ∧ True) ∧ t = Prod.fst y ∧ t_1 = Prod.snd y ∧ True))))))) (by kernel_rfl) ?_
  try simp only [side_and]
  try simp only [side_iff]
  have wo := weakD_refl o
  have same : ∀ r : Int, r ≠ 0 → defR l nm c = r → ∀ (u v : Nat), (True ∧ ∃ (y : Nat × Nat), True ∧ r = defR l nm c ∧ (True ∧ (weakD o o ∧ (l.length = (addR l nm c).length ∧ (∀ (i : Nat), i < l.length → [D.str (l.getD i ([], 0)).fst] = [D.str ((addR l nm c).getD i ([], 0)).fst]) ∧ u = y.fst) ∧
      (l.length = (addR l nm c).length ∧ (∀ (i : Nat), i < l.length → [D.int IntKind.i64 (l.getD i ([], 0)).snd] = [D.int IntKind.i64 ((addR l nm c).getD i ([], 0)).snd]) ∧ v = y.snd) ∧ True) ∧ True) ∧ u = y.fst ∧ v = y.snd ∧ True) := by
    intro r hr hd u v
    have ha : addR l nm c = l := by unfold addR; rw [hd, if_neg hr]
    rw [ha]
    exact ⟨trivial, (u, v), trivial, hd.symm, ⟨trivial, ⟨wo, ⟨rfl, fun _ _ => rfl, rfl⟩, ⟨rfl, fun _ _ => rfl, rfl⟩, trivial⟩, trivial⟩, rfl, rfl, trivial⟩
  rw [ifB_iff, ifB_iff]
  refine ⟨fun h => same 1 (by decide) ?_ u v, fun h => ⟨fun h' => same 1 (by decide) ?_ u v, fun h' => ?_⟩⟩
  · unfold defR; rw [if_pos (.inl (of_decide_eq_true h))]
  · unfold defR; rw [if_pos (.inr (of_decide_eq_true h'))]
  · have hc : ¬ (c < 1 ∨ 4 < c) := fun q => q.elim (of_decide_eq_false h) (of_decide_eq_false h')
    refine ⟨nm, ⟨rfl, trivial⟩, ⟨trivial, trivial⟩, trivial, fun _ _ => ?_⟩
    rw [ifB_iff]
    refine ⟨fun hv => same 9 (by decide) ?_ u v, fun hv => ?_⟩
    · have hv : validR nm = false := by simpa using hv
      unfold defR; rw [if_neg hc, if_pos hv]
    · have hv : validR nm = true := by simpa using hv
      have hv' : ¬ validR nm = false := by rw [hv]; decide
      refine ⟨⟨⟨trivial, trivial, fun _ _ => trivial⟩, hl⟩, fun y hy => ?_⟩
      rw [ifB_iff]
      refine ⟨fun q => same 10 (by decide) ?_ u v, fun q => ⟨trivial, trivial, by omega, by omega, fun t => ⟨trivial, trivial, trivial, by omega, by omega, fun t' => ⟨trivial, trivial, (t, t'), trivial, ?_, ⟨trivial, ⟨wo, ⟨?_, ?_, rfl⟩, ⟨?_, ?_, rfl⟩, trivial⟩, trivial⟩, rfl, rfl, trivial⟩⟩⟩⟩
      · have q := of_decide_eq_true q
        have hn : sget l nm ≠ none := fun e => by have := (sget_at hy).2 e; omega
        unfold defR; rw [if_neg hc, if_neg hv']
        cases e : sget l nm with
        | none => exact (hn e).elim
        | some _ => rfl
      all_goals
        have q := of_decide_eq_false q
        have hn : sget l nm = none := (sget_at hy).1 (by omega)
        have hd : defR l nm c = 0 := by unfold defR; rw [if_neg hc, if_neg hv', hn]
        have ha : addR l nm c = l ++ [(nm, c)] := by unfold addR; rw [if_pos hd]
      · exact hd.symm
      · rw [ha]; simp
      · rw [ha]; exact fun i hi => nms_app l nm c i hi _ rfl
      · rw [ha]; simp
      · rw [ha]; exact fun i hi => cls_app l nm c i hi _ rfl
theorem rdefine_ok (k x : Nat) (nm : List UInt8) (c : Int) (o : D) (l : List (List UInt8 × Int)) (a u b v : Nat) (hl : l.length ≤ 1000) :
    ACalls Try.prog 12 ((sRDef k x nm c o l a u b v).args ()) ((sRDef k x nm c o l a u b v).st ()) (SpecR (sRDef k x nm c o l a u b v) ()) := by
  refine (rdefine_ok0 x nm c o l u v hl).respec ?_ ?_ fun y _ => ⟨y, trivial, ?_, ?_⟩
  · simp [sRDef, weakL, weakD, chk_iff, kEq]
  · simp [sRDef, posS, posO, posT, weakO, weakL, weakD, weakD_refl, chk_iff, kEq, weakM]
  · simp [sRDef, weakEnd, weakD, chk_iff, kEq]
  · simp [sRDef, posS, posO, posT, weakO, weakL, weakD, weakD_refl, chk_iff, kEq, weakM]

end Go.Proofs.Ytkmgikcdlbibdaa
namespace Go.Proofs.Ytkmgikcdlbibdaa
open Go Go.Ab

/-! ### chains of scopes -/
section
variable {ρ : Type} (sc : D → ρ → St) (rf : ρ → D)
def hdG : List ρ → D
  | [] => .nilp
  | s :: _ => rf s
def chG : List ρ → St
  | [] => ⟨[], []⟩
  | s :: r => (sc (hdG rf r) s).add (chG r)
def exG : List ρ → Nat → St
  | [], _ => ⟨[], []⟩
  | s :: r, 0 => chG sc rf r
  | s :: r, i + 1 => (sc (hdG rf r) s).add (exG r i)
theorem perm_mid {α : Type} {a b c d : List α} (h : List.Perm (b ++ c) d) : List.Perm (b ++ (a ++ c)) (a ++ d) :=
  (List.perm_append_comm_assoc b a c).trans (h.append_left a)
theorem ch_perm [Inhabited ρ] : ∀ (l : List ρ) (i : Nat), i < l.length → List.Perm ((sc (hdG rf (l.drop (i + 1))) (l.getD i default)).objs.map (·.2) ++ (exG sc rf l i).objs.map (·.2)) ((chG sc rf l).objs.map (·.2)) ∧
    List.Perm ((sc (hdG rf (l.drop (i + 1))) (l.getD i default)).toks.map (·.2) ++ (exG sc rf l i).toks.map (·.2)) ((chG sc rf l).toks.map (·.2))
  | [], i, h => by cases h
  | s :: r, 0, _ => by simp [exG, chG, St.add]
  | s :: r, i + 1, h => by
    obtain ⟨h1, h2⟩ := ch_perm r i (by simpa using h)
    simp only [exG, chG, St.add, List.map_append, List.drop_succ_cons, List.getD_cons_succ]
    exact ⟨perm_mid h1, perm_mid h2⟩
theorem ch_to [Inhabited ρ] (l : List ρ) (i : Nat) (h : i < l.length) : StTo (chG sc rf l) ((sc (hdG rf (l.drop (i + 1))) (l.getD i default)).add (exG sc rf l i)) ∧ StTo ((sc (hdG rf (l.drop (i + 1))) (l.getD i default)).add (exG sc rf l i)) (chG sc rf l) := by
  obtain ⟨h1, h2⟩ := ch_perm sc rf l i h
  exact ⟨StTo.perm (r1 := []) (r2 := []) (by simpa [St.add] using h1) (by simpa [St.add] using h2), StTo.perm (r1 := []) (r2 := []) (by simpa [St.add] using h1.symm) (by simpa [St.add] using h2.symm)⟩
end
structure Sc where
  x : Nat
  m : Nat
  t : Nat
  l : List (List UInt8 × Int)
  deriving Inhabited
structure Rc where
  x : Nat
  u : Nat
  v : Nat
  l : List (List UInt8 × Int)
  deriving Inhabited
def iSt (o : D) (s : Sc) : St := ⟨[(0, s.x, .cells [o, .map 1 s.m, .sl 1 s.l.length (nmsF s.l) (.tok 0 s.t)]), (1, s.m, .amap .i64 s.l)], [(0, s.t)]⟩
def rSt (o : D) (s : Rc) : St := ⟨[(0, s.x, .cells [o, .sl 1 s.l.length (nmsF s.l) (.tok 0 s.u), .sl 1 s.l.length (clsF s.l) (.tok 1 s.v)])], [(0, s.u), (1, s.v)]⟩
abbrev iRef (s : Sc) : D := .ref 0 s.x 0
abbrev rRef (s : Rc) : D := .ref 0 s.x 0
def findL : List (List (List UInt8 × Int)) → List UInt8 → Int × Bool
  | [], _ => (0, false)
  | l :: r, nm => match sget l nm with
    | some c => (c, true)
    | none => findL r nm
def findR (L : List (List (List UInt8 × Int))) (nm : List UInt8) (T : St) : AEnd → St → Prop := fun r S' => r = .ret (.tup [.int .i64 (findL L nm).1, .bool (findL L nm).2]) ∧ StTo S' T
noncomputable def E13c (nm : List UInt8) (L : List Sc) : Senv := { E0 con0 25 2 [4, 5, 6, 7, 9, 23] with
  ann2 := fun _ _ _ => some
    ({ slots := [0], keep := [1], α := Nat, st := fun i => ([.ref 0 (L.getD i default).x 0], iSt (hdG iRef (L.drop (i + 1))) (L.getD i default)), inv := fun i => i < L.length ∧ findL ((L.drop i).map (·.l)) nm = findL (L.map (·.l)) nm, mu := fun i => L.length - i, fr := fun i => exG iSt iRef L i },
     { slots := [0], keep := [1], α := Unit, st := fun _ => ([.nilp], ⟨[], []⟩), inv := fun _ => findL (L.map (·.l)) nm = (0, false), mu := fun _ => 0, fr := fun _ => chG iSt iRef L }) }
theorem find_ch (L : List Sc) (nm : List UInt8) : ACalls Try.prog 13 [hdG iRef L, .str nm] (chG iSt iRef L) (findR (L.map (·.l)) nm (chG iSt iRef L)) := by
  refine call_of (E := E13c nm L) ⟨tab_ok, con0_ok, mix, fun _ _ _ _ h => h.elim, fun _ h => nomatch h⟩ Try.func13 rfl rfl rfl (by simp [E13c, E0]) ?_
  refine vc_eq (T :=
      ((∃ (x : Nat), (x < List.length L ∧ findL (List.map (fun (x : Sc) => Sc.l x) (List.drop x L)) nm = findL (List.map (fun (x : Sc) => Sc.l x) L) nm) ∧ True ∧ (weakD (hdG (fun (s : Sc) => D.ref (0 : Nat) (Sc.x s) (0 :
      Nat)) L) (D.ref (0 : Nat) (Sc.x (List.getD L x (Sc.mk (0 : Nat) (0 : Nat) (0 : Nat) []))) (0 : Nat)) ∧ True) ∧ StTo (chG (fun (o : D) (s : Sc) => St.mk [((0 : Nat), Sc.x s, AObj.cells [o, D.map (1 : Nat) (Sc.m s),
      D.sl (1 : Nat) (List.length (Sc.l s)) (fun (i : Nat) => [D.str (Prod.fst (List.getD (Sc.l s) i ([], (0 : Int))))]) (Mode.tok (0 : Nat) (Sc.t s))]), ((1 : Nat), Sc.m s, AObj.amap IntKind.i64 (Sc.l s))] [((0 : Nat),
      Sc.t s)]) (fun (s : Sc) => D.ref (0 : Nat) (Sc.x s) (0 : Nat)) L) (St.mk (((0 : Nat), Sc.x (List.getD L x (Sc.mk (0 : Nat) (0 : Nat) (0 : Nat) [])), AObj.cells [hdG (fun (s : Sc) => D.ref (0 : Nat) (Sc.x s) (0 :
      Nat)) (List.drop (x + (1 : Nat)) L), D.map (1 : Nat) (Sc.m (List.getD L x (Sc.mk (0 : Nat) (0 : Nat) (0 : Nat) []))), D.sl (1 : Nat) (List.length (Sc.l (List.getD L x (Sc.mk (0 : Nat) (0 : Nat) (0 : Nat) []))))
      (fun (i : Nat) => [D.str (Prod.fst (List.getD (Sc.l (List.getD L x (Sc.mk (0 : Nat) (0 : Nat) (0 : Nat) []))) i ([], (0 : Int))))]) (Mode.tok (0 : Nat) (Sc.t (List.getD L x (Sc.mk (0 : Nat) (0 : Nat) (0 : Nat)
      []))))]) :: ((1 : Nat), Sc.m (List.getD L x (Sc.mk (0 : Nat) (0 : Nat) (0 : Nat) [])), AObj.amap IntKind.i64 (Sc.l (List.getD L x (Sc.mk (0 : Nat) (0 : Nat) (0 : Nat) [])))) :: List.append [] (St.objs (exG (fun (o
      : D) (s : Sc) => St.mk [((0 : Nat), Sc.x s, AObj.cells [o, D.map (1 : Nat) (Sc.m s), D.sl (1 : Nat) (List.length (Sc.l s)) (fun (i : Nat) => [D.str (Prod.fst (List.getD (Sc.l s) i ([], (0 : Int))))]) (Mode.tok (0 :
      Nat) (Sc.t s))]), ((1 : Nat), Sc.m s, AObj.amap IntKind.i64 (Sc.l s))] [((0 : Nat), Sc.t s)]) (fun (s : Sc) => D.ref (0 : Nat) (Sc.x s) (0 : Nat)) L x))) (((0 : Nat), Sc.t (List.getD L x (Sc.mk (0 : Nat) (0 : Nat)
      (0 : Nat) []))) :: List.append [] (St.toks (exG (fun (o : D) (s : Sc) => St.mk [((0 : Nat), Sc.x s, AObj.cells [o, D.map (1 : Nat) (Sc.m s), D.sl (1 : Nat) (List.length (Sc.l s)) (fun (i : Nat) => [D.str (Prod.fst
      (List.getD (Sc.l s) i ([], (0 : Int))))]) (Mode.tok (0 : Nat) (Sc.t s))]), ((1 : Nat), Sc.m s, AObj.amap IntKind.i64 (Sc.l s))] [((0 : Nat), Sc.t s)]) (fun (s : Sc) => D.ref (0 : Nat) (Sc.x s) (0 : Nat)) L x))))) ∨
      ∃ (x : Unit), findL (List.map (fun (x : Sc) => Sc.l x) L) nm = ((0 : Int), false) ∧ True ∧ (weakD (hdG (fun (s : Sc) => D.ref (0 : Nat) (Sc.x s) (0 : Nat)) L) D.nilp ∧ True) ∧ StTo (chG (fun (o : D) (s : Sc) =>
      St.mk [((0 : Nat), Sc.x s, AObj.cells [o, D.map (1 : Nat) (Sc.m s), D.sl (1 : Nat) (List.length (Sc.l s)) (fun (i : Nat) => [D.str (Prod.fst (List.getD (Sc.l s) i ([], (0 : Int))))]) (Mode.tok (0 : Nat) (Sc.t
      s))]), ((1 : Nat), Sc.m s, AObj.amap IntKind.i64 (Sc.l s))] [((0 : Nat), Sc.t s)]) (fun (s : Sc) => D.ref (0 : Nat) (Sc.x s) (0 : Nat)) L) (St.mk ([] ++ St.objs (chG (fun (o : D) (s : Sc) => St.mk [((0 : Nat), Sc.x
      s, AObj.cells [o, D.map (1 : Nat) (Sc.m s), D.sl (1 : Nat) (List.length (Sc.l s)) (fun (i : Nat) => [D.str (Prod.fst (List.getD (Sc.l s) i ([], (0 : Int))))]) (Mode.tok (0 : Nat) (Sc.t s))]), ((1 : Nat), Sc.m s,
      AObj.amap IntKind.i64 (Sc.l s))] [((0 : Nat), Sc.t s)]) (fun (s : Sc) => D.ref (0 : Nat) (Sc.x s) (0 : Nat)) L)) ([] ++ St.toks (chG (fun (o : D) (s : Sc) => St.mk [((0 : Nat), Sc.x s, AObj.cells [o, D.map (1 :
      Nat) (Sc.m s), D.sl (1 : Nat) (List.length (Sc.l s)) (fun (i : Nat) => [D.str (Prod.fst (List.getD (Sc.l s) i ([], (0 : Int))))]) (Mode.tok (0 : Nat) (Sc.t s))]), ((1 : Nat), Sc.m s, AObj.amap IntKind.i64 (Sc.l
      s))] [((0 : Nat), Sc.t s)]) (fun (s : Sc) => D.ref (0 : Nat) (Sc.x s) (0 : Nat)) L)))) ∧ (∀ (x : Nat), x < List.length L ∧ findL (List.map (fun (x : Sc) => Sc.l x) (List.drop x L)) nm = findL (List.map (fun (x :
      Sc) => Sc.l x) L) nm → Sc.x (List.getD L x (Sc.mk (0 : Nat) (0 : Nat) (0 : Nat) [])) = Sc.x (List.getD L x (Sc.mk (0 : Nat) (0 : Nat) (0 : Nat) [])) ∧ Sc.m (List.getD L x (Sc.mk (0 : Nat) (0 : Nat) (0 : Nat) [])) =
      Sc.m (List.getD L x (Sc.mk (0 : Nat) (0 : Nat) (0 : Nat) [])) ∧ (∀ (n : Int), sget (Sc.l (List.getD L x (Sc.mk (0 : Nat) (0 : Nat) (0 : Nat) []))) nm = some n → True ∧ findR (List.map (fun (x : Sc) => Sc.l x) L) nm
      (chG (fun (o : D) (s : Sc) => St.mk [((0 : Nat), Sc.x s, AObj.cells [o, D.map (1 : Nat) (Sc.m s), D.sl (1 : Nat) (List.length (Sc.l s)) (fun (i : Nat) => [D.str (Prod.fst (List.getD (Sc.l s) i ([], (0 : Int))))])
      (Mode.tok (0 : Nat) (Sc.t s))]), ((1 : Nat), Sc.m s, AObj.amap IntKind.i64 (Sc.l s))] [((0 : Nat), Sc.t s)]) (fun (s : Sc) => D.ref (0 : Nat) (Sc.x s) (0 : Nat)) L) (AEnd.ret (D.tup [D.int IntKind.i64 n, D.bool
      true])) (St.mk (((0 : Nat), Sc.x (List.getD L x (Sc.mk (0 : Nat) (0 : Nat) (0 : Nat) [])), AObj.cells [hdG (fun (s : Sc) => D.ref (0 : Nat) (Sc.x s) (0 : Nat)) (List.drop (x + (1 : Nat)) L), D.map (1 : Nat) (Sc.m
      (List.getD L x (Sc.mk (0 : Nat) (0 : Nat) (0 : Nat) []))), D.sl (1 : Nat) (List.length (Sc.l (List.getD L x (Sc.mk (0 : Nat) (0 : Nat) (0 : Nat) [])))) (fun (i : Nat) => [D.str (Prod.fst (List.getD (Sc.l (List.getD
      L x (Sc.mk (0 : Nat) (0 : Nat) (0 : Nat) []))) i ([], (0 : Int))))]) (Mode.tok (0 : Nat) (Sc.t (List.getD L x (Sc.mk (0 : Nat) (0 : Nat) (0 : Nat) []))))]) :: ((1 : Nat), Sc.m (List.getD L x (Sc.mk (0 : Nat) (0 :
      Nat) (0 : Nat) [])), AObj.amap IntKind.i64 (Sc.l (List.getD L x (Sc.mk (0 : Nat) (0 : Nat) (0 : Nat) [])))) :: List.append [] (St.objs (exG (fun (o : D) (s : Sc) => St.mk [((0 : Nat), Sc.x s, AObj.cells [o, D.map
      (1 : Nat) (Sc.m s), D.sl (1 : Nat) (List.length (Sc.l s)) (fun (i : Nat) => [D.str (Prod.fst (List.getD (Sc.l s) i ([], (0 : Int))))]) (Mode.tok (0 : Nat) (Sc.t s))]), ((1 : Nat), Sc.m s, AObj.amap IntKind.i64
      (Sc.l s))] [((0 : Nat), Sc.t s)]) (fun (s : Sc) => D.ref (0 : Nat) (Sc.x s) (0 : Nat)) L x))) (((0 : Nat), Sc.t (List.getD L x (Sc.mk (0 : Nat) (0 : Nat) (0 : Nat) []))) :: List.append [] (St.toks (exG (fun (o : D)
      (s : Sc) => St.mk [((0 : Nat), Sc.x s, AObj.cells [o, D.map (1 : Nat) (Sc.m s), D.sl (1 : Nat) (List.length (Sc.l s)) (fun (i : Nat) => [D.str (Prod.fst (List.getD (Sc.l s) i ([], (0 : Int))))]) (Mode.tok (0 : Nat)
      (Sc.t s))]), ((1 : Nat), Sc.m s, AObj.amap IntKind.i64 (Sc.l s))] [((0 : Nat), Sc.t s)]) (fun (s : Sc) => D.ref (0 : Nat) (Sc.x s) (0 : Nat)) L x))))) ∧ (sget (Sc.l (List.getD L x (Sc.mk (0 : Nat) (0 : Nat) (0 :
      Nat) []))) nm = none → Sc.x (List.getD L x (Sc.mk (0 : Nat) (0 : Nat) (0 : Nat) [])) = Sc.x (List.getD L x (Sc.mk (0 : Nat) (0 : Nat) (0 : Nat) [])) ∧ (D.str nm = D.str nm ∧ True) ∧ ((∃ (x_1 : Nat), (x_1 <
      List.length L ∧ findL (List.map (fun (x : Sc) => Sc.l x) (List.drop x_1 L)) nm = findL (List.map (fun (x : Sc) => Sc.l x) L) nm) ∧ List.length L - x_1 < List.length L - x ∧ (weakD (List.getD [hdG (fun (s : Sc) =>
      D.ref (0 : Nat) (Sc.x s) (0 : Nat)) (List.drop (x + (1 : Nat)) L), D.map (1 : Nat) (Sc.m (List.getD L x (Sc.mk (0 : Nat) (0 : Nat) (0 : Nat) []))), D.sl (1 : Nat) (List.length (Sc.l (List.getD L x (Sc.mk (0 : Nat)
      (0 : Nat) (0 : Nat) [])))) (fun (i : Nat) => [D.str (Prod.fst (List.getD (Sc.l (List.getD L x (Sc.mk (0 : Nat) (0 : Nat) (0 : Nat) []))) i ([], (0 : Int))))]) (Mode.tok (0 : Nat) (Sc.t (List.getD L x (Sc.mk (0 :
      Nat) (0 : Nat) (0 : Nat) []))))] (0 : Nat) D.unk) (D.ref (0 : Nat) (Sc.x (List.getD L x_1 (Sc.mk (0 : Nat) (0 : Nat) (0 : Nat) []))) (0 : Nat)) ∧ True) ∧ StTo (St.mk (((0 : Nat), Sc.x (List.getD L x (Sc.mk (0 :
      Nat) (0 : Nat) (0 : Nat) [])), AObj.cells [hdG (fun (s : Sc) => D.ref (0 : Nat) (Sc.x s) (0 : Nat)) (List.drop (x + (1 : Nat)) L), D.map (1 : Nat) (Sc.m (List.getD L x (Sc.mk (0 : Nat) (0 : Nat) (0 : Nat) []))),
      D.sl (1 : Nat) (List.length (Sc.l (List.getD L x (Sc.mk (0 : Nat) (0 : Nat) (0 : Nat) [])))) (fun (i : Nat) => [D.str (Prod.fst (List.getD (Sc.l (List.getD L x (Sc.mk (0 : Nat) (0 : Nat) (0 : Nat) []))) i ([], (0 :
      Int))))]) (Mode.tok (0 : Nat) (Sc.t (List.getD L x (Sc.mk (0 : Nat) (0 : Nat) (0 : Nat) []))))]) :: ((1 : Nat), Sc.m (List.getD L x (Sc.mk (0 : Nat) (0 : Nat) (0 : Nat) [])), AObj.amap IntKind.i64 (Sc.l (List.getD
      L x (Sc.mk (0 : Nat) (0 : Nat) (0 : Nat) [])))) :: List.append [] (St.objs (exG (fun (o : D) (s : Sc) => St.mk [((0 : Nat), Sc.x s, AObj.cells [o, D.map (1 : Nat) (Sc.m s), D.sl (1 : Nat) (List.length (Sc.l s))
      (fun (i : Nat) => [D.str (Prod.fst (List.getD (Sc.l s) i ([], (0 : Int))))]) (Mode.tok (0 : Nat) (Sc.t s))]), ((1 : Nat), Sc.m s, AObj.amap IntKind.i64 (Sc.l s))] [((0 : Nat), Sc.t s)]) (fun (s : Sc) => D.ref (0 :
      Nat) (Sc.x s) (0 : Nat)) L x))) (((0 : Nat), Sc.t (List.getD L x (Sc.mk (0 : Nat) (0 : Nat) (0 : Nat) []))) :: List.append [] (St.toks (exG (fun (o : D) (s : Sc) => St.mk [((0 : Nat), Sc.x s, AObj.cells [o, D.map
      (1 : Nat) (Sc.m s), D.sl (1 : Nat) (List.length (Sc.l s)) (fun (i : Nat) => [D.str (Prod.fst (List.getD (Sc.l s) i ([], (0 : Int))))]) (Mode.tok (0 : Nat) (Sc.t s))]), ((1 : Nat), Sc.m s, AObj.amap IntKind.i64
      (Sc.l s))] [((0 : Nat), Sc.t s)]) (fun (s : Sc) => D.ref (0 : Nat) (Sc.x s) (0 : Nat)) L x)))) (St.mk (((0 : Nat), Sc.x (List.getD L x_1 (Sc.mk (0 : Nat) (0 : Nat) (0 : Nat) [])), AObj.cells [hdG (fun (s : Sc) =>
      D.ref (0 : Nat) (Sc.x s) (0 : Nat)) (List.drop (x_1 + (1 : Nat)) L), D.map (1 : Nat) (Sc.m (List.getD L x_1 (Sc.mk (0 : Nat) (0 : Nat) (0 : Nat) []))), D.sl (1 : Nat) (List.length (Sc.l (List.getD L x_1 (Sc.mk (0 :
      Nat) (0 : Nat) (0 : Nat) [])))) (fun (i : Nat) => [D.str (Prod.fst (List.getD (Sc.l (List.getD L x_1 (Sc.mk (0 : Nat) (0 : Nat) (0 : Nat) []))) i ([], (0 : Int))))]) (Mode.tok (0 : Nat) (Sc.t (List.getD L x_1
      (Sc.mk (0 : Nat) (0 : Nat) (0 : Nat) []))))]) :: ((1 : Nat), Sc.m (List.getD L x_1 (Sc.mk (0 : Nat) (0 : Nat) (0 : Nat) [])), AObj.amap IntKind.i64 (Sc.l (List.getD L x_1 (Sc.mk (0 : Nat) (0 : Nat) (0 : Nat) []))))
      :: List.append [] (St.objs (exG (fun (o : D) (s : Sc) => St.mk [((0 : Nat), Sc.x s, AObj.cells [o, D.map (1 : Nat) (Sc.m s), D.sl (1 : Nat) (List.length (Sc.l s)) (fun (i : Nat) => [D.str (Prod.fst (List.getD (Sc.l
      s) i ([], (0 : Int))))]) (Mode.tok (0 : Nat) (Sc.t s))]), ((1 : Nat), Sc.m s, AObj.amap IntKind.i64 (Sc.l s))] [((0 : Nat), Sc.t s)]) (fun (s : Sc) => D.ref (0 : Nat) (Sc.x s) (0 : Nat)) L x_1))) (((0 : Nat), Sc.t
      (List.getD L x_1 (Sc.mk (0 : Nat) (0 : Nat) (0 : Nat) []))) :: List.append [] (St.toks (exG (fun (o : D) (s : Sc) => St.mk [((0 : Nat), Sc.x s, AObj.cells [o, D.map (1 : Nat) (Sc.m s), D.sl (1 : Nat) (List.length
      (Sc.l s)) (fun (i : Nat) => [D.str (Prod.fst (List.getD (Sc.l s) i ([], (0 : Int))))]) (Mode.tok (0 : Nat) (Sc.t s))]), ((1 : Nat), Sc.m s, AObj.amap IntKind.i64 (Sc.l s))] [((0 : Nat), Sc.t s)]) (fun (s : Sc) =>
      D.ref (0 : Nat) (Sc.x s) (0 : Nat)) L x_1))))) ∨ ∃ (x_1 : Unit), findL (List.map (fun (x : Sc) => Sc.l x) L) nm = ((0 : Int), false) ∧ (0 : Nat) < List.length L - x ∧ (weakD (List.getD [hdG (fun (s : Sc) => D.ref
      (0 : Nat) (Sc.x s) (0 : Nat)) (List.drop (x + (1 : Nat)) L), D.map (1 : Nat) (Sc.m (List.getD L x (Sc.mk (0 : Nat) (0 : Nat) (0 : Nat) []))), D.sl (1 : Nat) (List.length (Sc.l (List.getD L x (Sc.mk (0 : Nat) (0 :
      Nat) (0 : Nat) [])))) (fun (i : Nat) => [D.str (Prod.fst (List.getD (Sc.l (List.getD L x (Sc.mk (0 : Nat) (0 : Nat) (0 : Nat) []))) i ([], (0 : Int))))]) (Mode.tok (0 : Nat) (Sc.t (List.getD L x (Sc.mk (0 : Nat) (0
      : Nat) (0 : Nat) []))))] (0 : Nat) D.unk) D.nilp ∧ True) ∧ StTo (St.mk (((0 : Nat), Sc.x (List.getD L x (Sc.mk (0 : Nat) (0 : Nat) (0 : Nat) [])), AObj.cells [hdG (fun (s : Sc) => D.ref (0 : Nat) (Sc.x s) (0 :
      Nat)) (List.drop (x + (1 : Nat)) L), D.map (1 : Nat) (Sc.m (List.getD L x (Sc.mk (0 : Nat) (0 : Nat) (0 : Nat) []))), D.sl (1 : Nat) (List.length (Sc.l (List.getD L x (Sc.mk (0 : Nat) (0 : Nat) (0 : Nat) []))))
      (fun (i : Nat) => [D.str (Prod.fst (List.getD (Sc.l (List.getD L x (Sc.mk (0 : Nat) (0 : Nat) (0 : Nat) []))) i ([], (0 : Int))))]) (Mode.tok (0 : Nat) (Sc.t (List.getD L x (Sc.mk (0 : Nat) (0 : Nat) (0 : Nat)
      []))))]) :: ((1 : Nat), Sc.m (List.getD L x (Sc.mk (0 : Nat) (0 : Nat) (0 : Nat) [])), AObj.amap IntKind.i64 (Sc.l (List.getD L x (Sc.mk (0 : Nat) (0 : Nat) (0 : Nat) [])))) :: List.append [] (St.objs (exG (fun (o
      : D) (s : Sc) => St.mk [((0 : Nat), Sc.x s, AObj.cells [o, D.map (1 : Nat) (Sc.m s), D.sl (1 : Nat) (List.length (Sc.l s)) (fun (i : Nat) => [D.str (Prod.fst (List.getD (Sc.l s) i ([], (0 : Int))))]) (Mode.tok (0 :
      Nat) (Sc.t s))]), ((1 : Nat), Sc.m s, AObj.amap IntKind.i64 (Sc.l s))] [((0 : Nat), Sc.t s)]) (fun (s : Sc) => D.ref (0 : Nat) (Sc.x s) (0 : Nat)) L x))) (((0 : Nat), Sc.t (List.getD L x (Sc.mk (0 : Nat) (0 : Nat)
      (0 : Nat) []))) :: List.append [] (St.toks (exG (fun (o : D) (s : Sc) => St.mk [((0 : Nat), Sc.x s, AObj.cells [o, D.map (1 : Nat) (Sc.m s), D.sl (1 : Nat) (List.length (Sc.l s)) (fun (i : Nat) => [D.str (Prod.fst
      (List.getD (Sc.l s) i ([], (0 : Int))))]) (Mode.tok (0 : Nat) (Sc.t s))]), ((1 : Nat), Sc.m s, AObj.amap IntKind.i64 (Sc.l s))] [((0 : Nat), Sc.t s)]) (fun (s : Sc) => D.ref (0 : Nat) (Sc.x s) (0 : Nat)) L x))))
      (St.mk ([] ++ St.objs (chG (fun (o : D) (s : Sc) => St.mk [((0 : Nat), Sc.x s, AObj.cells [o, D.map (1 : Nat) (Sc.m s), D.sl (1 : Nat) (List.length (Sc.l s)) (fun (i : Nat) => [D.str (Prod.fst (List.getD (Sc.l s) i
      ([], (0 : Int))))]) (Mode.tok (0 : Nat) (Sc.t s))]), ((1 : Nat), Sc.m s, AObj.amap IntKind.i64 (Sc.l s))] [((0 : Nat), Sc.t s)]) (fun (s : Sc) => D.ref (0 : Nat) (Sc.x s) (0 : Nat)) L)) ([] ++ St.toks (chG (fun (o
      : D) (s : Sc) => St.mk [((0 : Nat), Sc.x s, AObj.cells [o, D.map (1 : Nat) (Sc.m s), D.sl (1 : Nat) (List.length (Sc.l s)) (fun (i : Nat) => [D.str (Prod.fst (List.getD (Sc.l s) i ([], (0 : Int))))]) (Mode.tok (0 :
      Nat) (Sc.t s))]), ((1 : Nat), Sc.m s, AObj.amap IntKind.i64 (Sc.l s))] [((0 : Nat), Sc.t s)]) (fun (s : Sc) => D.ref (0 : Nat) (Sc.x s) (0 : Nat)) L)))))) ∧ ∀ (x : Unit), findL (List.map (fun (x : Sc) => Sc.l x) L)
      nm = ((0 : Int), false) → True ∧ findR (List.map (fun (x : Sc) => Sc.l x) L) nm (chG (fun (o : D) (s : Sc) => St.mk [((0 : Nat), Sc.x s, AObj.cells [o, D.map (1 : Nat) (Sc.m s), D.sl (1 : Nat) (List.length (Sc.l
      s)) (fun (i : Nat) => [D.str (Prod.fst (List.getD (Sc.l s) i ([], (0 : Int))))]) (Mode.tok (0 : Nat) (Sc.t s))]), ((1 : Nat), Sc.m s, AObj.amap IntKind.i64 (Sc.l s))] [((0 : Nat), Sc.t s)]) (fun (s : Sc) => D.ref
      (0 : Nat) (Sc.x s) (0 : Nat)) L) (AEnd.ret (D.tup [D.int IntKind.i64 (0 : Int), D.bool false])) (St.mk ([] ++ St.objs (chG (fun (o : D) (s : Sc) => St.mk [((0 : Nat), Sc.x s, AObj.cells [o, D.map (1 : Nat) (Sc.m
      s), D.sl (1 : Nat) (List.length (Sc.l s)) (fun (i : Nat) => [D.str (Prod.fst (List.getD (Sc.l s) i ([], (0 : Int))))]) (Mode.tok (0 : Nat) (Sc.t s))]), ((1 : Nat), Sc.m s, AObj.amap IntKind.i64 (Sc.l s))] [((0 :
      Nat), Sc.t s)]) (fun (s : Sc) => D.ref (0 : Nat) (Sc.x s) (0 : Nat)) L)) ([] ++ St.toks (chG (fun (o : D) (s : Sc) => St.mk [((0 : Nat), Sc.x s, AObj.cells [o, D.map (1 : Nat) (Sc.m s), D.sl (1 : Nat) (List.length
      (Sc.l s)) (fun (i : Nat) => [D.str (Prod.fst (List.getD (Sc.l s) i ([], (0 : Int))))]) (Mode.tok (0 : Nat) (Sc.t s))]), ((1 : Nat), Sc.m s, AObj.amap IntKind.i64 (Sc.l s))] [((0 : Nat), Sc.t s)]) (fun (s : Sc) =>
      D.ref (0 : Nat) (Sc.x s) (0 : Nat)) L)))) (by kernel_rfl) ?_
  try simp only [side_and]
  try simp only [side_iff]
  have hd1 : ∀ i, i < L.length → hdG iRef (L.drop i) = iRef (L.getD i default) := by
    intro i hi
    rw [List.drop_eq_getElem_cons hi]
    simp [hdG, List.getElem?_eq_getElem hi]
  have hd2 : ∀ i, L.length ≤ i → hdG iRef (L.drop i) = .nilp := by
    intro i hi; rw [List.drop_eq_nil_of_le hi]; rfl
  have fd1 : ∀ i, i < L.length → findL ((L.drop i).map (·.l)) nm = match sget (L.getD i default).l nm with
      | some c => (c, true)
      | none => findL ((L.drop (i + 1)).map (·.l)) nm := by
    intro i hi
    rw [List.drop_eq_getElem_cons hi]
    simp only [List.map_cons, findL, List.getD_eq_getElem?_getD, List.getElem?_eq_getElem hi, Option.getD_some]
  have fd2 : ∀ i, L.length ≤ i → findL ((L.drop i).map (·.l)) nm = (0, false) := by
    intro i hi; rw [List.drop_eq_nil_of_le hi]; rfl
  refine ⟨?_, ?_, ?_⟩
  · by_cases h0 : 0 < L.length
    · refine .inl ⟨0, ⟨h0, rfl⟩, trivial, ⟨?_, trivial⟩, (ch_to iSt iRef L 0 h0).1⟩
      have := hd1 0 h0
      rw [List.drop_zero] at this
      show weakD (hdG iRef L) _
      rw [this]; exact weakD_refl _
    · have : L = [] := List.eq_nil_of_length_eq_zero (by omega)
      subst this
      exact .inr ⟨(), rfl, trivial, ⟨trivial, trivial⟩, StTo.refl _⟩
  · rintro i ⟨hi, hf⟩
    refine ⟨trivial, trivial, fun n hg => ⟨trivial, ?_, (ch_to iSt iRef L i hi).2⟩, fun hg => ⟨trivial, ⟨trivial, trivial⟩, ?_⟩⟩
    · have := fd1 i hi
      rw [hf] at this
      have hg' : sget (L.getD i default).l nm = some n := hg
      rw [hg'] at this
      rw [this]
    · have hs := fd1 i hi
      have hg' : sget (L.getD i default).l nm = none := hg
      rw [hf, hg'] at hs
      by_cases hn : i + 1 < L.length
      · refine .inl ⟨i + 1, ⟨hn, hs.symm⟩, by omega, ⟨?_, trivial⟩, (ch_to iSt iRef L i hi).2.trans (ch_to iSt iRef L (i + 1) hn).1⟩
        show weakD (hdG iRef (L.drop (i + 1))) _
        rw [hd1 _ hn]; exact weakD_refl _
      · refine .inr ⟨(), by rw [hs]; exact fd2 _ (by omega), by omega, ⟨?_, trivial⟩, (ch_to iSt iRef L i hi).2⟩
        show weakD (hdG iRef (L.drop (i + 1))) _
        rw [hd2 _ (by omega)]; trivial
  · intro _ hf
    exact ⟨trivial, by rw [hf], StTo.refl _⟩
end Go.Proofs.Ytkmgikcdlbibdaa
namespace Go.Proofs.Ytkmgikcdlbibdaa
open Go Go.Ab
/-! ### the reference's Find, and Depth of both, over chains -/
def depthR (n : Nat) (T : St) : AEnd → St → Prop := fun r S' => r = .ret (.int .i64 ((n - 1 : Nat) : Int)) ∧ StTo S' T
def sAtL (k x : Nat) (nm : List UInt8) (o : D) (m : Ab.Mode) (d : D) : FnSpec where
  β := List (List UInt8 × Int)
  α := Int
  args := fun _ => [.ref k x 0, .str nm]
  st := fun l => ⟨[(k, x, .cells [o, .sl 1 l.length (nmsF l) m, d])], []⟩
  pre := fun l => l.length ≤ 1000
  post := fun l r => AtIs l nm r
  res := fun _ r => .ret (.int .i64 r)
  out := fun l _ => ⟨[(k, x, .cells [o, .sl 1 l.length (nmsF l) m, d])], []⟩
def conT (k : Nat) (ds : List D) (S : St) : Option FnSpec :=
  match k with
  | 22 => match ds with
    | [.ref k x 0, .str nm] => match getO S.objs k with
      | some (x', .cells [o, .sl 1 n f m, d]) => some ((sAtL k x nm o m d).over S (fun l => x' = x ∧ n = l.length ∧ ∀ i, i < n → f i = nmsF l i))
      | _ => none
    | _ => none
  | _ => none
theorem conT_ok : ConOk Try.prog conT := by
  intro k ds S A h
  unfold conT at h
  split at h
  · split at h
    · split at h
      · rename_i k' x nm x' o n f m d hg
        injection h with h; subst h
        refine FnSpec.over_ok (fun l hl => ?_) ?_
        · exact at_ok _ _ _ _ l _ _ hl
        · rintro l ⟨rfl, rfl, hf⟩
          simp_all [sAtL, leS, leO, leT, chk_iff, nodupB, weakL, weakD, weakO, weakD_refl, weakM_refl]
      · cases h
    · cases h
  · cases h
noncomputable def E14c (nm : List UInt8) (L : List Rc) : Senv := { E0 conT 25 2 [4, 5, 6, 8, 13] with
  ann2 := fun _ _ _ => some
    ({ slots := [0], keep := [1], α := Nat, st := fun i => ([.ref 0 (L.getD i default).x 0], rSt (hdG rRef (L.drop (i + 1))) (L.getD i default)), inv := fun i => i < L.length ∧ findL ((L.drop i).map (·.l)) nm = findL (L.map (·.l)) nm, mu := fun i => L.length - i, fr := fun i => exG rSt rRef L i },
     { slots := [0], keep := [1], α := Unit, st := fun _ => ([.nilp], ⟨[], []⟩), inv := fun _ => findL (L.map (·.l)) nm = (0, false), mu := fun _ => 0, fr := fun _ => chG rSt rRef L }) }
theorem sget_val {l : List (List UInt8 × Int)} {nm : List UInt8} {r : Int} (h : AtIs l nm r) (h0 : 0 ≤ r) : r < l.length ∧ sget l nm = some (l.getD r.toNat ([], 0)).2 := by
  rcases h with ⟨rfl, h⟩ | ⟨i, rfl, h1, h2, h3⟩
  · omega
  · refine ⟨by omega, ?_⟩
    rw [Int.toNat_natCast]
    clear h0
    induction l generalizing i with
    | nil => simp at h1
    | cons p l ih =>
      cases i with
      | zero => simp [sget] at h2 ⊢; simp [h2]
      | succ i =>
        have hp : p.1 ≠ nm := by have := h3 0 (by omega); simpa using this
        simp only [sget, if_neg hp]
        have := ih i (by simpa using h1) (by simpa using h2) (fun j hj => by have := h3 (j + 1) (by omega); simpa using this)
        rw [this]; simp
theorem rfind_ch (L : List Rc) (nm : List UInt8) (hl : ∀ s ∈ L, s.l.length ≤ 1000) : ACalls Try.prog 14 [hdG rRef L, .str nm] (chG rSt rRef L) (findR (L.map (·.l)) nm (chG rSt rRef L)) := by
  refine call_of (E := E14c nm L) ⟨tab_ok, conT_ok, mix, fun _ _ _ _ h => h.elim, fun _ h => nomatch h⟩ Try.func14 rfl rfl rfl (by simp [E14c, E0]) ?_
  refine vc_eq (T :=
      ((∃ (x : Nat), (x < List.length L ∧ findL (List.map (fun (x : Rc) => Rc.l x) (List.drop x L)) nm = findL (List.map (fun (x : Rc) => Rc.l x) L) nm) ∧ True ∧ (weakD (hdG (fun (s : Rc) => D.ref (0 : Nat) (Rc.x s) (0 :
      Nat)) L) (D.ref (0 : Nat) (Rc.x (List.getD L x (Rc.mk (0 : Nat) (0 : Nat) (0 : Nat) []))) (0 : Nat)) ∧ True) ∧ StTo (chG (fun (o : D) (s : Rc) => St.mk [((0 : Nat), Rc.x s, AObj.cells [o, D.sl (1 : Nat)
      (List.length (Rc.l s)) (fun (i : Nat) => [D.str (Prod.fst (List.getD (Rc.l s) i ([], (0 : Int))))]) (Mode.tok (0 : Nat) (Rc.u s)), D.sl (1 : Nat) (List.length (Rc.l s)) (fun (i : Nat) => [D.int IntKind.i64
      (Prod.snd (List.getD (Rc.l s) i ([], (0 : Int))))]) (Mode.tok (1 : Nat) (Rc.v s))])] [((0 : Nat), Rc.u s), ((1 : Nat), Rc.v s)]) (fun (s : Rc) => D.ref (0 : Nat) (Rc.x s) (0 : Nat)) L) (St.mk (((0 : Nat), Rc.x
      (List.getD L x (Rc.mk (0 : Nat) (0 : Nat) (0 : Nat) [])), AObj.cells [hdG (fun (s : Rc) => D.ref (0 : Nat) (Rc.x s) (0 : Nat)) (List.drop (x + (1 : Nat)) L), D.sl (1 : Nat) (List.length (Rc.l (List.getD L x (Rc.mk
      (0 : Nat) (0 : Nat) (0 : Nat) [])))) (fun (i : Nat) => [D.str (Prod.fst (List.getD (Rc.l (List.getD L x (Rc.mk (0 : Nat) (0 : Nat) (0 : Nat) []))) i ([], (0 : Int))))]) (Mode.tok (0 : Nat) (Rc.u (List.getD L x
      (Rc.mk (0 : Nat) (0 : Nat) (0 : Nat) [])))), D.sl (1 : Nat) (List.length (Rc.l (List.getD L x (Rc.mk (0 : Nat) (0 : Nat) (0 : Nat) [])))) (fun (i : Nat) => [D.int IntKind.i64 (Prod.snd (List.getD (Rc.l (List.getD L
      x (Rc.mk (0 : Nat) (0 : Nat) (0 : Nat) []))) i ([], (0 : Int))))]) (Mode.tok (1 : Nat) (Rc.v (List.getD L x (Rc.mk (0 : Nat) (0 : Nat) (0 : Nat) []))))]) :: List.append [] (St.objs (exG (fun (o : D) (s : Rc) =>
      St.mk [((0 : Nat), Rc.x s, AObj.cells [o, D.sl (1 : Nat) (List.length (Rc.l s)) (fun (i : Nat) => [D.str (Prod.fst (List.getD (Rc.l s) i ([], (0 : Int))))]) (Mode.tok (0 : Nat) (Rc.u s)), D.sl (1 : Nat)
      (List.length (Rc.l s)) (fun (i : Nat) => [D.int IntKind.i64 (Prod.snd (List.getD (Rc.l s) i ([], (0 : Int))))]) (Mode.tok (1 : Nat) (Rc.v s))])] [((0 : Nat), Rc.u s), ((1 : Nat), Rc.v s)]) (fun (s : Rc) => D.ref (0
      : Nat) (Rc.x s) (0 : Nat)) L x))) (((0 : Nat), Rc.u (List.getD L x (Rc.mk (0 : Nat) (0 : Nat) (0 : Nat) []))) :: ((1 : Nat), Rc.v (List.getD L x (Rc.mk (0 : Nat) (0 : Nat) (0 : Nat) []))) :: List.append [] (St.toks
      (exG (fun (o : D) (s : Rc) => St.mk [((0 : Nat), Rc.x s, AObj.cells [o, D.sl (1 : Nat) (List.length (Rc.l s)) (fun (i : Nat) => [D.str (Prod.fst (List.getD (Rc.l s) i ([], (0 : Int))))]) (Mode.tok (0 : Nat) (Rc.u
      s)), D.sl (1 : Nat) (List.length (Rc.l s)) (fun (i : Nat) => [D.int IntKind.i64 (Prod.snd (List.getD (Rc.l s) i ([], (0 : Int))))]) (Mode.tok (1 : Nat) (Rc.v s))])] [((0 : Nat), Rc.u s), ((1 : Nat), Rc.v s)]) (fun
      (s : Rc) => D.ref (0 : Nat) (Rc.x s) (0 : Nat)) L x))))) ∨ ∃ (x : Unit), findL (List.map (fun (x : Rc) => Rc.l x) L) nm = ((0 : Int), false) ∧ True ∧ (weakD (hdG (fun (s : Rc) => D.ref (0 : Nat) (Rc.x s) (0 : Nat))
      L) D.nilp ∧ True) ∧ StTo (chG (fun (o : D) (s : Rc) => St.mk [((0 : Nat), Rc.x s, AObj.cells [o, D.sl (1 : Nat) (List.length (Rc.l s)) (fun (i : Nat) => [D.str (Prod.fst (List.getD (Rc.l s) i ([], (0 : Int))))])
      (Mode.tok (0 : Nat) (Rc.u s)), D.sl (1 : Nat) (List.length (Rc.l s)) (fun (i : Nat) => [D.int IntKind.i64 (Prod.snd (List.getD (Rc.l s) i ([], (0 : Int))))]) (Mode.tok (1 : Nat) (Rc.v s))])] [((0 : Nat), Rc.u s),
      ((1 : Nat), Rc.v s)]) (fun (s : Rc) => D.ref (0 : Nat) (Rc.x s) (0 : Nat)) L) (St.mk ([] ++ St.objs (chG (fun (o : D) (s : Rc) => St.mk [((0 : Nat), Rc.x s, AObj.cells [o, D.sl (1 : Nat) (List.length (Rc.l s)) (fun
      (i : Nat) => [D.str (Prod.fst (List.getD (Rc.l s) i ([], (0 : Int))))]) (Mode.tok (0 : Nat) (Rc.u s)), D.sl (1 : Nat) (List.length (Rc.l s)) (fun (i : Nat) => [D.int IntKind.i64 (Prod.snd (List.getD (Rc.l s) i ([],
      (0 : Int))))]) (Mode.tok (1 : Nat) (Rc.v s))])] [((0 : Nat), Rc.u s), ((1 : Nat), Rc.v s)]) (fun (s : Rc) => D.ref (0 : Nat) (Rc.x s) (0 : Nat)) L)) ([] ++ St.toks (chG (fun (o : D) (s : Rc) => St.mk [((0 : Nat),
      Rc.x s, AObj.cells [o, D.sl (1 : Nat) (List.length (Rc.l s)) (fun (i : Nat) => [D.str (Prod.fst (List.getD (Rc.l s) i ([], (0 : Int))))]) (Mode.tok (0 : Nat) (Rc.u s)), D.sl (1 : Nat) (List.length (Rc.l s)) (fun (i
      : Nat) => [D.int IntKind.i64 (Prod.snd (List.getD (Rc.l s) i ([], (0 : Int))))]) (Mode.tok (1 : Nat) (Rc.v s))])] [((0 : Nat), Rc.u s), ((1 : Nat), Rc.v s)]) (fun (s : Rc) => D.ref (0 : Nat) (Rc.x s) (0 : Nat))
      L)))) ∧ (∀ (x : Nat), x < List.length L ∧ findL (List.map (fun (x : Rc) => Rc.l x) (List.drop x L)) nm = findL (List.map (fun (x : Rc) => Rc.l x) L) nm → ∃ (x_1 : List (List UInt8 × Int)), ((Rc.x (List.getD L x
      (Rc.mk (0 : Nat) (0 : Nat) (0 : Nat) [])) = Rc.x (List.getD L x (Rc.mk (0 : Nat) (0 : Nat) (0 : Nat) [])) ∧ List.length (Rc.l (List.getD L x (Rc.mk (0 : Nat) (0 : Nat) (0 : Nat) []))) = List.length x_1 ∧ ∀ (i :
      Nat), i < List.length (Rc.l (List.getD L x (Rc.mk (0 : Nat) (0 : Nat) (0 : Nat) []))) → [D.str (Prod.fst (List.getD (Rc.l (List.getD L x (Rc.mk (0 : Nat) (0 : Nat) (0 : Nat) []))) i ([], (0 : Int))))] = [D.str
      (Prod.fst (List.getD x_1 i ([], (0 : Int))))]) ∧ List.length x_1 ≤ (1000 : Nat)) ∧ ∀ (y : Int), AtIs x_1 nm y → ifB (decide ((0 : Int) ≤ y)) (Rc.x (List.getD L x (Rc.mk (0 : Nat) (0 : Nat) (0 : Nat) [])) = Rc.x
      (List.getD L x (Rc.mk (0 : Nat) (0 : Nat) (0 : Nat) [])) ∧ side ((0 : Int) ≤ y ∧ y < (↑(List.length (Rc.l (List.getD L x (Rc.mk (0 : Nat) (0 : Nat) (0 : Nat) [])))) : Int)) (True ∧ findR (List.map (fun (x : Rc) =>
      Rc.l x) L) nm (chG (fun (o : D) (s : Rc) => St.mk [((0 : Nat), Rc.x s, AObj.cells [o, D.sl (1 : Nat) (List.length (Rc.l s)) (fun (i : Nat) => [D.str (Prod.fst (List.getD (Rc.l s) i ([], (0 : Int))))]) (Mode.tok (0
      : Nat) (Rc.u s)), D.sl (1 : Nat) (List.length (Rc.l s)) (fun (i : Nat) => [D.int IntKind.i64 (Prod.snd (List.getD (Rc.l s) i ([], (0 : Int))))]) (Mode.tok (1 : Nat) (Rc.v s))])] [((0 : Nat), Rc.u s), ((1 : Nat),
      Rc.v s)]) (fun (s : Rc) => D.ref (0 : Nat) (Rc.x s) (0 : Nat)) L) (AEnd.ret (D.tup [D.int IntKind.i64 (Prod.snd (List.getD (Rc.l (List.getD L x (Rc.mk (0 : Nat) (0 : Nat) (0 : Nat) []))) (Int.toNat y) ([], (0 :
      Int)))), D.bool true])) (St.mk (((0 : Nat), Rc.x (List.getD L x (Rc.mk (0 : Nat) (0 : Nat) (0 : Nat) [])), AObj.cells [hdG (fun (s : Rc) => D.ref (0 : Nat) (Rc.x s) (0 : Nat)) (List.drop (x + (1 : Nat)) L), D.sl (1
      : Nat) (List.length x_1) (fun (i : Nat) => [D.str (Prod.fst (List.getD x_1 i ([], (0 : Int))))]) (Mode.tok (0 : Nat) (Rc.u (List.getD L x (Rc.mk (0 : Nat) (0 : Nat) (0 : Nat) [])))), D.sl (1 : Nat) (List.length
      (Rc.l (List.getD L x (Rc.mk (0 : Nat) (0 : Nat) (0 : Nat) [])))) (fun (i : Nat) => [D.int IntKind.i64 (Prod.snd (List.getD (Rc.l (List.getD L x (Rc.mk (0 : Nat) (0 : Nat) (0 : Nat) []))) i ([], (0 : Int))))])
      (Mode.tok (1 : Nat) (Rc.v (List.getD L x (Rc.mk (0 : Nat) (0 : Nat) (0 : Nat) []))))]) :: List.append [] (St.objs (exG (fun (o : D) (s : Rc) => St.mk [((0 : Nat), Rc.x s, AObj.cells [o, D.sl (1 : Nat) (List.length
      (Rc.l s)) (fun (i : Nat) => [D.str (Prod.fst (List.getD (Rc.l s) i ([], (0 : Int))))]) (Mode.tok (0 : Nat) (Rc.u s)), D.sl (1 : Nat) (List.length (Rc.l s)) (fun (i : Nat) => [D.int IntKind.i64 (Prod.snd (List.getD
      (Rc.l s) i ([], (0 : Int))))]) (Mode.tok (1 : Nat) (Rc.v s))])] [((0 : Nat), Rc.u s), ((1 : Nat), Rc.v s)]) (fun (s : Rc) => D.ref (0 : Nat) (Rc.x s) (0 : Nat)) L x))) (((0 : Nat), Rc.u (List.getD L x (Rc.mk (0 :
      Nat) (0 : Nat) (0 : Nat) []))) :: ((1 : Nat), Rc.v (List.getD L x (Rc.mk (0 : Nat) (0 : Nat) (0 : Nat) []))) :: List.append [] (St.toks (exG (fun (o : D) (s : Rc) => St.mk [((0 : Nat), Rc.x s, AObj.cells [o, D.sl
      (1 : Nat) (List.length (Rc.l s)) (fun (i : Nat) => [D.str (Prod.fst (List.getD (Rc.l s) i ([], (0 : Int))))]) (Mode.tok (0 : Nat) (Rc.u s)), D.sl (1 : Nat) (List.length (Rc.l s)) (fun (i : Nat) => [D.int
      IntKind.i64 (Prod.snd (List.getD (Rc.l s) i ([], (0 : Int))))]) (Mode.tok (1 : Nat) (Rc.v s))])] [((0 : Nat), Rc.u s), ((1 : Nat), Rc.v s)]) (fun (s : Rc) => D.ref (0 : Nat) (Rc.x s) (0 : Nat)) L x)))))) (Rc.x
      (List.getD L x (Rc.mk (0 : Nat) (0 : Nat) (0 : Nat) [])) = Rc.x (List.getD L x (Rc.mk (0 : Nat) (0 : Nat) (0 : Nat) [])) ∧ (D.str nm = D.str nm ∧ True) ∧ ((∃ (x_2 : Nat), (x_2 < List.length L ∧ findL (List.map (fun
      (x : Rc) => Rc.l x) (List.drop x_2 L)) nm = findL (List.map (fun (x : Rc) => Rc.l x) L) nm) ∧ List.length L - x_2 < List.length L - x ∧ (weakD (List.getD [hdG (fun (s : Rc) => D.ref (0 : Nat) (Rc.x s) (0 : Nat))
      (List.drop (x + (1 : Nat)) L), D.sl (1 : Nat) (List.length x_1) (fun (i : Nat) => [D.str (Prod.fst (List.getD x_1 i ([], (0 : Int))))]) (Mode.tok (0 : Nat) (Rc.u (List.getD L x (Rc.mk (0 : Nat) (0 : Nat) (0 : Nat)
      [])))), D.sl (1 : Nat) (List.length (Rc.l (List.getD L x (Rc.mk (0 : Nat) (0 : Nat) (0 : Nat) [])))) (fun (i : Nat) => [D.int IntKind.i64 (Prod.snd (List.getD (Rc.l (List.getD L x (Rc.mk (0 : Nat) (0 : Nat) (0 :
      Nat) []))) i ([], (0 : Int))))]) (Mode.tok (1 : Nat) (Rc.v (List.getD L x (Rc.mk (0 : Nat) (0 : Nat) (0 : Nat) []))))] (0 : Nat) D.unk) (D.ref (0 : Nat) (Rc.x (List.getD L x_2 (Rc.mk (0 : Nat) (0 : Nat) (0 : Nat)
      []))) (0 : Nat)) ∧ True) ∧ StTo (St.mk (((0 : Nat), Rc.x (List.getD L x (Rc.mk (0 : Nat) (0 : Nat) (0 : Nat) [])), AObj.cells [hdG (fun (s : Rc) => D.ref (0 : Nat) (Rc.x s) (0 : Nat)) (List.drop (x + (1 : Nat)) L),
      D.sl (1 : Nat) (List.length x_1) (fun (i : Nat) => [D.str (Prod.fst (List.getD x_1 i ([], (0 : Int))))]) (Mode.tok (0 : Nat) (Rc.u (List.getD L x (Rc.mk (0 : Nat) (0 : Nat) (0 : Nat) [])))), D.sl (1 : Nat)
      (List.length (Rc.l (List.getD L x (Rc.mk (0 : Nat) (0 : Nat) (0 : Nat) [])))) (fun (i : Nat) => [D.int IntKind.i64 (Prod.snd (List.getD (Rc.l (List.getD L x (Rc.mk (0 : Nat) (0 : Nat) (0 : Nat) []))) i ([], (0 :
      Int))))]) (Mode.tok (1 : Nat) (Rc.v (List.getD L x (Rc.mk (0 : Nat) (0 : Nat) (0 : Nat) []))))]) :: List.append [] (St.objs (exG (fun (o : D) (s : Rc) => St.mk [((0 : Nat), Rc.x s, AObj.cells [o, D.sl (1 : Nat)
      (List.length (Rc.l s)) (fun (i : Nat) => [D.str (Prod.fst (List.getD (Rc.l s) i ([], (0 : Int))))]) (Mode.tok (0 : Nat) (Rc.u s)), D.sl (1 : Nat) (List.length (Rc.l s)) (fun (i : Nat) => [D.int IntKind.i64
      (Prod.snd (List.getD (Rc.l s) i ([], (0 : Int))))]) (Mode.tok (1 : Nat) (Rc.v s))])] [((0 : Nat), Rc.u s), ((1 : Nat), Rc.v s)]) (fun (s : Rc) => D.ref (0 : Nat) (Rc.x s) (0 : Nat)) L x))) (((0 : Nat), Rc.u
      (List.getD L x (Rc.mk (0 : Nat) (0 : Nat) (0 : Nat) []))) :: ((1 : Nat), Rc.v (List.getD L x (Rc.mk (0 : Nat) (0 : Nat) (0 : Nat) []))) :: List.append [] (St.toks (exG (fun (o : D) (s : Rc) => St.mk [((0 : Nat),
      Rc.x s, AObj.cells [o, D.sl (1 : Nat) (List.length (Rc.l s)) (fun (i : Nat) => [D.str (Prod.fst (List.getD (Rc.l s) i ([], (0 : Int))))]) (Mode.tok (0 : Nat) (Rc.u s)), D.sl (1 : Nat) (List.length (Rc.l s)) (fun (i
      : Nat) => [D.int IntKind.i64 (Prod.snd (List.getD (Rc.l s) i ([], (0 : Int))))]) (Mode.tok (1 : Nat) (Rc.v s))])] [((0 : Nat), Rc.u s), ((1 : Nat), Rc.v s)]) (fun (s : Rc) => D.ref (0 : Nat) (Rc.x s) (0 : Nat)) L
      x)))) (St.mk (((0 : Nat), Rc.x (List.getD L x_2 (Rc.mk (0 : Nat) (0 : Nat) (0 : Nat) [])), AObj.cells [hdG (fun (s : Rc) => D.ref (0 : Nat) (Rc.x s) (0 : Nat)) (List.drop (x_2 + (1 : Nat)) L), D.sl (1 : Nat)
      (List.length (Rc.l (List.getD L x_2 (Rc.mk (0 : Nat) (0 : Nat) (0 : Nat) [])))) (fun (i : Nat) => [D.str (Prod.fst (List.getD (Rc.l (List.getD L x_2 (Rc.mk (0 : Nat) (0 : Nat) (0 : Nat) []))) i ([], (0 : Int))))])
      (Mode.tok (0 : Nat) (Rc.u (List.getD L x_2 (Rc.mk (0 : Nat) (0 : Nat) (0 : Nat) [])))), D.sl (1 : Nat) (List.length (Rc.l (List.getD L x_2 (Rc.mk (0 : Nat) (0 : Nat) (0 : Nat) [])))) (fun (i : Nat) => [D.int
      IntKind.i64 (Prod.snd (List.getD (Rc.l (List.getD L x_2 (Rc.mk (0 : Nat) (0 : Nat) (0 : Nat) []))) i ([], (0 : Int))))]) (Mode.tok (1 : Nat) (Rc.v (List.getD L x_2 (Rc.mk (0 : Nat) (0 : Nat) (0 : Nat) []))))]) ::
      List.append [] (St.objs (exG (fun (o : D) (s : Rc) => St.mk [((0 : Nat), Rc.x s, AObj.cells [o, D.sl (1 : Nat) (List.length (Rc.l s)) (fun (i : Nat) => [D.str (Prod.fst (List.getD (Rc.l s) i ([], (0 : Int))))])
      (Mode.tok (0 : Nat) (Rc.u s)), D.sl (1 : Nat) (List.length (Rc.l s)) (fun (i : Nat) => [D.int IntKind.i64 (Prod.snd (List.getD (Rc.l s) i ([], (0 : Int))))]) (Mode.tok (1 : Nat) (Rc.v s))])] [((0 : Nat), Rc.u s),
      ((1 : Nat), Rc.v s)]) (fun (s : Rc) => D.ref (0 : Nat) (Rc.x s) (0 : Nat)) L x_2))) (((0 : Nat), Rc.u (List.getD L x_2 (Rc.mk (0 : Nat) (0 : Nat) (0 : Nat) []))) :: ((1 : Nat), Rc.v (List.getD L x_2 (Rc.mk (0 :
      Nat) (0 : Nat) (0 : Nat) []))) :: List.append [] (St.toks (exG (fun (o : D) (s : Rc) => St.mk [((0 : Nat), Rc.x s, AObj.cells [o, D.sl (1 : Nat) (List.length (Rc.l s)) (fun (i : Nat) => [D.str (Prod.fst (List.getD
      (Rc.l s) i ([], (0 : Int))))]) (Mode.tok (0 : Nat) (Rc.u s)), D.sl (1 : Nat) (List.length (Rc.l s)) (fun (i : Nat) => [D.int IntKind.i64 (Prod.snd (List.getD (Rc.l s) i ([], (0 : Int))))]) (Mode.tok (1 : Nat) (Rc.v
      s))])] [((0 : Nat), Rc.u s), ((1 : Nat), Rc.v s)]) (fun (s : Rc) => D.ref (0 : Nat) (Rc.x s) (0 : Nat)) L x_2))))) ∨ ∃ (x_2 : Unit), findL (List.map (fun (x : Rc) => Rc.l x) L) nm = ((0 : Int), false) ∧ (0 : Nat) <
      List.length L - x ∧ (weakD (List.getD [hdG (fun (s : Rc) => D.ref (0 : Nat) (Rc.x s) (0 : Nat)) (List.drop (x + (1 : Nat)) L), D.sl (1 : Nat) (List.length x_1) (fun (i : Nat) => [D.str (Prod.fst (List.getD x_1 i
      ([], (0 : Int))))]) (Mode.tok (0 : Nat) (Rc.u (List.getD L x (Rc.mk (0 : Nat) (0 : Nat) (0 : Nat) [])))), D.sl (1 : Nat) (List.length (Rc.l (List.getD L x (Rc.mk (0 : Nat) (0 : Nat) (0 : Nat) [])))) (fun (i : Nat)
      => [D.int IntKind.i64 (Prod.snd (List.getD (Rc.l (List.getD L x (Rc.mk (0 : Nat) (0 : Nat) (0 : Nat) []))) i ([], (0 : Int))))]) (Mode.tok (1 : Nat) (Rc.v (List.getD L x (Rc.mk (0 : Nat) (0 : Nat) (0 : Nat) []))))]
      (0 : Nat) D.unk) D.nilp ∧ True) ∧ StTo (St.mk (((0 : Nat), Rc.x (List.getD L x (Rc.mk (0 : Nat) (0 : Nat) (0 : Nat) [])), AObj.cells [hdG (fun (s : Rc) => D.ref (0 : Nat) (Rc.x s) (0 : Nat)) (List.drop (x + (1 :
      Nat)) L), D.sl (1 : Nat) (List.length x_1) (fun (i : Nat) => [D.str (Prod.fst (List.getD x_1 i ([], (0 : Int))))]) (Mode.tok (0 : Nat) (Rc.u (List.getD L x (Rc.mk (0 : Nat) (0 : Nat) (0 : Nat) [])))), D.sl (1 :
      Nat) (List.length (Rc.l (List.getD L x (Rc.mk (0 : Nat) (0 : Nat) (0 : Nat) [])))) (fun (i : Nat) => [D.int IntKind.i64 (Prod.snd (List.getD (Rc.l (List.getD L x (Rc.mk (0 : Nat) (0 : Nat) (0 : Nat) []))) i ([], (0
      : Int))))]) (Mode.tok (1 : Nat) (Rc.v (List.getD L x (Rc.mk (0 : Nat) (0 : Nat) (0 : Nat) []))))]) :: List.append [] (St.objs (exG (fun (o : D) (s : Rc) => St.mk [((0 : Nat), Rc.x s, AObj.cells [o, D.sl (1 : Nat)
      (List.length (Rc.l s)) (fun (i : Nat) => [D.str (Prod.fst (List.getD (Rc.l s) i ([], (0 : Int))))]) (Mode.tok (0 : Nat) (Rc.u s)), D.sl (1 : Nat) (List.length (Rc.l s)) (fun (i : Nat) => [D.int IntKind.i64
      (Prod.snd (List.getD (Rc.l s) i ([], (0 : Int))))]) (Mode.tok (1 : Nat) (Rc.v s))])] [((0 : Nat), Rc.u s), ((1 : Nat), Rc.v s)]) (fun (s : Rc) => D.ref (0 : Nat) (Rc.x s) (0 : Nat)) L x))) (((0 : Nat), Rc.u
      (List.getD L x (Rc.mk (0 : Nat) (0 : Nat) (0 : Nat) []))) :: ((1 : Nat), Rc.v (List.getD L x (Rc.mk (0 : Nat) (0 : Nat) (0 : Nat) []))) :: List.append [] (St.toks (exG (fun (o : D) (s : Rc) => St.mk [((0 : Nat),
      Rc.x s, AObj.cells [o, D.sl (1 : Nat) (List.length (Rc.l s)) (fun (i : Nat) => [D.str (Prod.fst (List.getD (Rc.l s) i ([], (0 : Int))))]) (Mode.tok (0 : Nat) (Rc.u s)), D.sl (1 : Nat) (List.length (Rc.l s)) (fun (i
      : Nat) => [D.int IntKind.i64 (Prod.snd (List.getD (Rc.l s) i ([], (0 : Int))))]) (Mode.tok (1 : Nat) (Rc.v s))])] [((0 : Nat), Rc.u s), ((1 : Nat), Rc.v s)]) (fun (s : Rc) => D.ref (0 : Nat) (Rc.x s) (0 : Nat)) L
      x)))) (St.mk ([] ++ St.objs (chG (fun (o : D) (s : Rc) => St.mk [((0 : Nat), Rc.x s, AObj.cells [o, D.sl (1 : Nat) (List.length (Rc.l s)) (fun (i : Nat) => [D.str (Prod.fst (List.getD (Rc.l s) i ([], (0 : Int))))])
      (Mode.tok (0 : Nat) (Rc.u s)), D.sl (1 : Nat) (List.length (Rc.l s)) (fun (i : Nat) => [D.int IntKind.i64 (Prod.snd (List.getD (Rc.l s) i ([], (0 : Int))))]) (Mode.tok (1 : Nat) (Rc.v s))])] [((0 : Nat), Rc.u s),
      ((1 : Nat), Rc.v s)]) (fun (s : Rc) => D.ref (0 : Nat) (Rc.x s) (0 : Nat)) L)) ([] ++ St.toks (chG (fun (o : D) (s : Rc) => St.mk [((0 : Nat), Rc.x s, AObj.cells [o, D.sl (1 : Nat) (List.length (Rc.l s)) (fun (i :
      Nat) => [D.str (Prod.fst (List.getD (Rc.l s) i ([], (0 : Int))))]) (Mode.tok (0 : Nat) (Rc.u s)), D.sl (1 : Nat) (List.length (Rc.l s)) (fun (i : Nat) => [D.int IntKind.i64 (Prod.snd (List.getD (Rc.l s) i ([], (0 :
      Int))))]) (Mode.tok (1 : Nat) (Rc.v s))])] [((0 : Nat), Rc.u s), ((1 : Nat), Rc.v s)]) (fun (s : Rc) => D.ref (0 : Nat) (Rc.x s) (0 : Nat)) L)))))) ∧ ∀ (x : Unit), findL (List.map (fun (x : Rc) => Rc.l x) L) nm =
      ((0 : Int), false) → True ∧ findR (List.map (fun (x : Rc) => Rc.l x) L) nm (chG (fun (o : D) (s : Rc) => St.mk [((0 : Nat), Rc.x s, AObj.cells [o, D.sl (1 : Nat) (List.length (Rc.l s)) (fun (i : Nat) => [D.str
      (Prod.fst (List.getD (Rc.l s) i ([], (0 : Int))))]) (Mode.tok (0 : Nat) (Rc.u s)), D.sl (1 : Nat) (List.length (Rc.l s)) (fun (i : Nat) => [D.int IntKind.i64 (Prod.snd (List.getD (Rc.l s) i ([], (0 : Int))))])
      (Mode.tok (1 : Nat) (Rc.v s))])] [((0 : Nat), Rc.u s), ((1 : Nat), Rc.v s)]) (fun (s : Rc) => D.ref (0 : Nat) (Rc.x s) (0 : Nat)) L) (AEnd.ret (D.tup [D.int IntKind.i64 (0 : Int), D.bool false])) (St.mk ([] ++
      St.objs (chG (fun (o : D) (s : Rc) => St.mk [((0 : Nat), Rc.x s, AObj.cells [o, D.sl (1 : Nat) (List.length (Rc.l s)) (fun (i : Nat) => [D.str (Prod.fst (List.getD (Rc.l s) i ([], (0 : Int))))]) (Mode.tok (0 : Nat)
      (Rc.u s)), D.sl (1 : Nat) (List.length (Rc.l s)) (fun (i : Nat) => [D.int IntKind.i64 (Prod.snd (List.getD (Rc.l s) i ([], (0 : Int))))]) (Mode.tok (1 : Nat) (Rc.v s))])] [((0 : Nat), Rc.u s), ((1 : Nat), Rc.v s)])
      (fun (s : Rc) => D.ref (0 : Nat) (Rc.x s) (0 : Nat)) L)) ([] ++ St.toks (chG (fun (o : D) (s : Rc) => St.mk [((0 : Nat), Rc.x s, AObj.cells [o, D.sl (1 : Nat) (List.length (Rc.l s)) (fun (i : Nat) => [D.str
      (Prod.fst (List.getD (Rc.l s) i ([], (0 : Int))))]) (Mode.tok (0 : Nat) (Rc.u s)), D.sl (1 : Nat) (List.length (Rc.l s)) (fun (i : Nat) => [D.int IntKind.i64 (Prod.snd (List.getD (Rc.l s) i ([], (0 : Int))))])
      (Mode.tok (1 : Nat) (Rc.v s))])] [((0 : Nat), Rc.u s), ((1 : Nat), Rc.v s)]) (fun (s : Rc) => D.ref (0 : Nat) (Rc.x s) (0 : Nat)) L)))) (by kernel_rfl) ?_
  try simp only [side_and]
  try simp only [side_iff]
  have hd1 : ∀ i, i < L.length → hdG rRef (L.drop i) = rRef (L.getD i default) := by
    intro i hi
    rw [List.drop_eq_getElem_cons hi]
    simp [hdG, List.getElem?_eq_getElem hi]
  have hd2 : ∀ i, L.length ≤ i → hdG rRef (L.drop i) = .nilp := by
    intro i hi; rw [List.drop_eq_nil_of_le hi]; rfl
  have fd1 : ∀ i, i < L.length → findL ((L.drop i).map (·.l)) nm = match sget (L.getD i default).l nm with
      | some c => (c, true)
      | none => findL ((L.drop (i + 1)).map (·.l)) nm := by
    intro i hi
    rw [List.drop_eq_getElem_cons hi]
    simp only [List.map_cons, findL, List.getD_eq_getElem?_getD, List.getElem?_eq_getElem hi, Option.getD_some]
    try rfl
  have fd2 : ∀ i, L.length ≤ i → findL ((L.drop i).map (·.l)) nm = (0, false) := by
    intro i hi; rw [List.drop_eq_nil_of_le hi]; rfl
  refine ⟨?_, ?_, ?_⟩
  · by_cases h0 : 0 < L.length
    · refine .inl ⟨0, ⟨h0, rfl⟩, trivial, ⟨?_, trivial⟩, (ch_to rSt rRef L 0 h0).1⟩
      have := hd1 0 h0
      rw [List.drop_zero] at this
      show weakD (hdG rRef L) _
      rw [this]; exact weakD_refl _
    · have : L = [] := List.eq_nil_of_length_eq_zero (by omega)
      subst this
      exact .inr ⟨(), rfl, trivial, ⟨trivial, trivial⟩, StTo.refl _⟩
  · rintro i ⟨hi, hf⟩
    have hle : (L.getD i default).l.length ≤ 1000 := by
      have : L.getD i default = L[i] := by simp [List.getElem?_eq_getElem hi]
      rw [this]; exact hl _ (List.getElem_mem hi)
    refine ⟨(L.getD i default).l, ⟨⟨trivial, rfl, fun _ _ => rfl⟩, hle⟩, fun y hy => ?_⟩
    rw [ifB_iff]
    refine ⟨fun q => ?_, fun q => ?_⟩
    · have q := of_decide_eq_true q
      obtain ⟨v1, v2⟩ := sget_val hy q
      refine ⟨trivial, q, v1, trivial, ?_, (ch_to rSt rRef L i hi).2⟩
      have := fd1 i hi
      rw [hf, v2] at this
      rw [this]; rfl
    · have hg' : sget (L.getD i default).l nm = none := (sget_at hy).1 (by have := of_decide_eq_false q; omega)
      have hs := fd1 i hi
      rw [hf, hg'] at hs
      refine ⟨trivial, ⟨trivial, trivial⟩, ?_⟩
      by_cases hn : i + 1 < L.length
      · refine .inl ⟨i + 1, ⟨hn, hs.symm⟩, by omega, ⟨?_, trivial⟩, (ch_to rSt rRef L i hi).2.trans (ch_to rSt rRef L (i + 1) hn).1⟩
        show weakD (hdG rRef (L.drop (i + 1))) _
        rw [hd1 _ hn]; exact weakD_refl _
      · refine .inr ⟨(), by rw [hs]; exact fd2 _ (by omega), by omega, ⟨?_, trivial⟩, (ch_to rSt rRef L i hi).2⟩
        show weakD (hdG rRef (L.drop (i + 1))) _
        rw [hd2 _ (by omega)]; trivial
  · intro _ hf
    exact ⟨trivial, by rw [hf], StTo.refl _⟩
end Go.Proofs.Ytkmgikcdlbibdaa
namespace Go.Proofs.Ytkmgikcdlbibdaa
open Go Go.Ab
/-! ### Depth of both, over chains -/
noncomputable def E15c (L : List Sc) : Senv := { E0 con0 20 1 [2, 3, 12] with
  ann2 := fun _ _ _ => some
    ({ slots := [0, 3], keep := [], α := Nat, st := fun i => ([.ref 0 (L.getD i default).x 0, .int .i64 i], iSt (.ref 0 (L.getD (i + 1) default).x 0) (L.getD i default)), inv := fun i => i + 1 < L.length, mu := fun i => L.length - i, fr := fun i => exG iSt iRef L i },
     { slots := [0, 3], keep := [], α := Unit, st := fun _ => ([.ref 0 (L.getD (L.length - 1) default).x 0, .int .i64 ((L.length - 1 : Nat) : Int)], iSt .nilp (L.getD (L.length - 1) default)), inv := fun _ => True, mu := fun _ => 0, fr := fun _ => exG iSt iRef L (L.length - 1) }) }
noncomputable def E16c (L : List Rc) : Senv := { E0 con0 20 1 [2, 3, 12] with
  ann2 := fun _ _ _ => some
    ({ slots := [0, 3], keep := [], α := Nat, st := fun i => ([.ref 0 (L.getD i default).x 0, .int .i64 i], rSt (.ref 0 (L.getD (i + 1) default).x 0) (L.getD i default)), inv := fun i => i + 1 < L.length, mu := fun i => L.length - i, fr := fun i => exG rSt rRef L i },
     { slots := [0, 3], keep := [], α := Unit, st := fun _ => ([.ref 0 (L.getD (L.length - 1) default).x 0, .int .i64 ((L.length - 1 : Nat) : Int)], rSt .nilp (L.getD (L.length - 1) default)), inv := fun _ => True, mu := fun _ => 0, fr := fun _ => exG rSt rRef L (L.length - 1) }) }
theorem depth_ch (L : List Sc) (h0 : 0 < L.length) (hm : L.length ≤ 1000) : ACalls Try.prog 15 [.ref 0 (L.getD 0 default).x 0] (chG iSt iRef L) (depthR L.length (chG iSt iRef L)) := by
  refine call_of (E := E15c L) ⟨tab_ok, con0_ok, mix, fun _ _ _ _ h => h.elim, fun _ h => nomatch h⟩ Try.func15 rfl rfl rfl (by simp [E15c, E0]) ?_
  refine vc_eq (T :=
      ((∃ (x : Nat), x + (1 : Nat) < List.length L ∧ True ∧ (Sc.x (List.getD L (0 : Nat) (Sc.mk (0 : Nat) (0 : Nat) (0 : Nat) [])) = Sc.x (List.getD L x (Sc.mk (0 : Nat) (0 : Nat) (0 : Nat) [])) ∧ (0 : Int) = (↑x : Int)
      ∧ True) ∧ StTo (chG (fun (o : D) (s : Sc) => St.mk [((0 : Nat), Sc.x s, AObj.cells [o, D.map (1 : Nat) (Sc.m s), D.sl (1 : Nat) (List.length (Sc.l s)) (fun (i : Nat) => [D.str (Prod.fst (List.getD (Sc.l s) i ([],
      (0 : Int))))]) (Mode.tok (0 : Nat) (Sc.t s))]), ((1 : Nat), Sc.m s, AObj.amap IntKind.i64 (Sc.l s))] [((0 : Nat), Sc.t s)]) (fun (s : Sc) => D.ref (0 : Nat) (Sc.x s) (0 : Nat)) L) (St.mk (((0 : Nat), Sc.x
      (List.getD L x (Sc.mk (0 : Nat) (0 : Nat) (0 : Nat) [])), AObj.cells [D.ref (0 : Nat) (Sc.x (List.getD L (x + (1 : Nat)) (Sc.mk (0 : Nat) (0 : Nat) (0 : Nat) []))) (0 : Nat), D.map (1 : Nat) (Sc.m (List.getD L x
      (Sc.mk (0 : Nat) (0 : Nat) (0 : Nat) []))), D.sl (1 : Nat) (List.length (Sc.l (List.getD L x (Sc.mk (0 : Nat) (0 : Nat) (0 : Nat) [])))) (fun (i : Nat) => [D.str (Prod.fst (List.getD (Sc.l (List.getD L x (Sc.mk (0
      : Nat) (0 : Nat) (0 : Nat) []))) i ([], (0 : Int))))]) (Mode.tok (0 : Nat) (Sc.t (List.getD L x (Sc.mk (0 : Nat) (0 : Nat) (0 : Nat) []))))]) :: ((1 : Nat), Sc.m (List.getD L x (Sc.mk (0 : Nat) (0 : Nat) (0 : Nat)
      [])), AObj.amap IntKind.i64 (Sc.l (List.getD L x (Sc.mk (0 : Nat) (0 : Nat) (0 : Nat) [])))) :: List.append [] (St.objs (exG (fun (o : D) (s : Sc) => St.mk [((0 : Nat), Sc.x s, AObj.cells [o, D.map (1 : Nat) (Sc.m
      s), D.sl (1 : Nat) (List.length (Sc.l s)) (fun (i : Nat) => [D.str (Prod.fst (List.getD (Sc.l s) i ([], (0 : Int))))]) (Mode.tok (0 : Nat) (Sc.t s))]), ((1 : Nat), Sc.m s, AObj.amap IntKind.i64 (Sc.l s))] [((0 :
      Nat), Sc.t s)]) (fun (s : Sc) => D.ref (0 : Nat) (Sc.x s) (0 : Nat)) L x))) (((0 : Nat), Sc.t (List.getD L x (Sc.mk (0 : Nat) (0 : Nat) (0 : Nat) []))) :: List.append [] (St.toks (exG (fun (o : D) (s : Sc) => St.mk
      [((0 : Nat), Sc.x s, AObj.cells [o, D.map (1 : Nat) (Sc.m s), D.sl (1 : Nat) (List.length (Sc.l s)) (fun (i : Nat) => [D.str (Prod.fst (List.getD (Sc.l s) i ([], (0 : Int))))]) (Mode.tok (0 : Nat) (Sc.t s))]), ((1
      : Nat), Sc.m s, AObj.amap IntKind.i64 (Sc.l s))] [((0 : Nat), Sc.t s)]) (fun (s : Sc) => D.ref (0 : Nat) (Sc.x s) (0 : Nat)) L x))))) ∨ ∃ (x : Unit), True ∧ True ∧ (Sc.x (List.getD L (0 : Nat) (Sc.mk (0 : Nat) (0 :
      Nat) (0 : Nat) [])) = Sc.x (List.getD L (List.length L - (1 : Nat)) (Sc.mk (0 : Nat) (0 : Nat) (0 : Nat) [])) ∧ (0 : Int) = (↑(List.length L - (1 : Nat)) : Int) ∧ True) ∧ StTo (chG (fun (o : D) (s : Sc) => St.mk
      [((0 : Nat), Sc.x s, AObj.cells [o, D.map (1 : Nat) (Sc.m s), D.sl (1 : Nat) (List.length (Sc.l s)) (fun (i : Nat) => [D.str (Prod.fst (List.getD (Sc.l s) i ([], (0 : Int))))]) (Mode.tok (0 : Nat) (Sc.t s))]), ((1
      : Nat), Sc.m s, AObj.amap IntKind.i64 (Sc.l s))] [((0 : Nat), Sc.t s)]) (fun (s : Sc) => D.ref (0 : Nat) (Sc.x s) (0 : Nat)) L) (St.mk (((0 : Nat), Sc.x (List.getD L (List.length L - (1 : Nat)) (Sc.mk (0 : Nat) (0
      : Nat) (0 : Nat) [])), AObj.cells [D.nilp, D.map (1 : Nat) (Sc.m (List.getD L (List.length L - (1 : Nat)) (Sc.mk (0 : Nat) (0 : Nat) (0 : Nat) []))), D.sl (1 : Nat) (List.length (Sc.l (List.getD L (List.length L -
      (1 : Nat)) (Sc.mk (0 : Nat) (0 : Nat) (0 : Nat) [])))) (fun (i : Nat) => [D.str (Prod.fst (List.getD (Sc.l (List.getD L (List.length L - (1 : Nat)) (Sc.mk (0 : Nat) (0 : Nat) (0 : Nat) []))) i ([], (0 : Int))))])
      (Mode.tok (0 : Nat) (Sc.t (List.getD L (List.length L - (1 : Nat)) (Sc.mk (0 : Nat) (0 : Nat) (0 : Nat) []))))]) :: ((1 : Nat), Sc.m (List.getD L (List.length L - (1 : Nat)) (Sc.mk (0 : Nat) (0 : Nat) (0 : Nat)
      [])), AObj.amap IntKind.i64 (Sc.l (List.getD L (List.length L - (1 : Nat)) (Sc.mk (0 : Nat) (0 : Nat) (0 : Nat) [])))) :: List.append [] (St.objs (exG (fun (o : D) (s : Sc) => St.mk [((0 : Nat), Sc.x s, AObj.cells
      [o, D.map (1 : Nat) (Sc.m s), D.sl (1 : Nat) (List.length (Sc.l s)) (fun (i : Nat) => [D.str (Prod.fst (List.getD (Sc.l s) i ([], (0 : Int))))]) (Mode.tok (0 : Nat) (Sc.t s))]), ((1 : Nat), Sc.m s, AObj.amap
      IntKind.i64 (Sc.l s))] [((0 : Nat), Sc.t s)]) (fun (s : Sc) => D.ref (0 : Nat) (Sc.x s) (0 : Nat)) L (List.length L - (1 : Nat))))) (((0 : Nat), Sc.t (List.getD L (List.length L - (1 : Nat)) (Sc.mk (0 : Nat) (0 :
      Nat) (0 : Nat) []))) :: List.append [] (St.toks (exG (fun (o : D) (s : Sc) => St.mk [((0 : Nat), Sc.x s, AObj.cells [o, D.map (1 : Nat) (Sc.m s), D.sl (1 : Nat) (List.length (Sc.l s)) (fun (i : Nat) => [D.str
      (Prod.fst (List.getD (Sc.l s) i ([], (0 : Int))))]) (Mode.tok (0 : Nat) (Sc.t s))]), ((1 : Nat), Sc.m s, AObj.amap IntKind.i64 (Sc.l s))] [((0 : Nat), Sc.t s)]) (fun (s : Sc) => D.ref (0 : Nat) (Sc.x s) (0 : Nat))
      L (List.length L - (1 : Nat))))))) ∧ (∀ (x : Nat), x + (1 : Nat) < List.length L → Sc.x (List.getD L x (Sc.mk (0 : Nat) (0 : Nat) (0 : Nat) [])) = Sc.x (List.getD L x (Sc.mk (0 : Nat) (0 : Nat) (0 : Nat) [])) ∧
      Sc.x (List.getD L x (Sc.mk (0 : Nat) (0 : Nat) (0 : Nat) [])) = Sc.x (List.getD L x (Sc.mk (0 : Nat) (0 : Nat) (0 : Nat) [])) ∧ True ∧ ((∃ (x_1 : Nat), x_1 + (1 : Nat) < List.length L ∧ List.length L - x_1 <
      List.length L - x ∧ (Sc.x (List.getD L (x + (1 : Nat)) (Sc.mk (0 : Nat) (0 : Nat) (0 : Nat) [])) = Sc.x (List.getD L x_1 (Sc.mk (0 : Nat) (0 : Nat) (0 : Nat) [])) ∧ IntKind.wrap IntKind.i64 ((↑x : Int) + (1 : Int))
      = (↑x_1 : Int) ∧ True) ∧ StTo (St.mk (((0 : Nat), Sc.x (List.getD L x (Sc.mk (0 : Nat) (0 : Nat) (0 : Nat) [])), AObj.cells [D.ref (0 : Nat) (Sc.x (List.getD L (x + (1 : Nat)) (Sc.mk (0 : Nat) (0 : Nat) (0 : Nat)
      []))) (0 : Nat), D.map (1 : Nat) (Sc.m (List.getD L x (Sc.mk (0 : Nat) (0 : Nat) (0 : Nat) []))), D.sl (1 : Nat) (List.length (Sc.l (List.getD L x (Sc.mk (0 : Nat) (0 : Nat) (0 : Nat) [])))) (fun (i : Nat) =>
      [D.str (Prod.fst (List.getD (Sc.l (List.getD L x (Sc.mk (0 : Nat) (0 : Nat) (0 : Nat) []))) i ([], (0 : Int))))]) (Mode.tok (0 : Nat) (Sc.t (List.getD L x (Sc.mk (0 : Nat) (0 : Nat) (0 : Nat) []))))]) :: ((1 :
      Nat), Sc.m (List.getD L x (Sc.mk (0 : Nat) (0 : Nat) (0 : Nat) [])), AObj.amap IntKind.i64 (Sc.l (List.getD L x (Sc.mk (0 : Nat) (0 : Nat) (0 : Nat) [])))) :: List.append [] (St.objs (exG (fun (o : D) (s : Sc) =>
      St.mk [((0 : Nat), Sc.x s, AObj.cells [o, D.map (1 : Nat) (Sc.m s), D.sl (1 : Nat) (List.length (Sc.l s)) (fun (i : Nat) => [D.str (Prod.fst (List.getD (Sc.l s) i ([], (0 : Int))))]) (Mode.tok (0 : Nat) (Sc.t
      s))]), ((1 : Nat), Sc.m s, AObj.amap IntKind.i64 (Sc.l s))] [((0 : Nat), Sc.t s)]) (fun (s : Sc) => D.ref (0 : Nat) (Sc.x s) (0 : Nat)) L x))) (((0 : Nat), Sc.t (List.getD L x (Sc.mk (0 : Nat) (0 : Nat) (0 : Nat)
      []))) :: List.append [] (St.toks (exG (fun (o : D) (s : Sc) => St.mk [((0 : Nat), Sc.x s, AObj.cells [o, D.map (1 : Nat) (Sc.m s), D.sl (1 : Nat) (List.length (Sc.l s)) (fun (i : Nat) => [D.str (Prod.fst (List.getD
      (Sc.l s) i ([], (0 : Int))))]) (Mode.tok (0 : Nat) (Sc.t s))]), ((1 : Nat), Sc.m s, AObj.amap IntKind.i64 (Sc.l s))] [((0 : Nat), Sc.t s)]) (fun (s : Sc) => D.ref (0 : Nat) (Sc.x s) (0 : Nat)) L x)))) (St.mk (((0 :
      Nat), Sc.x (List.getD L x_1 (Sc.mk (0 : Nat) (0 : Nat) (0 : Nat) [])), AObj.cells [D.ref (0 : Nat) (Sc.x (List.getD L (x_1 + (1 : Nat)) (Sc.mk (0 : Nat) (0 : Nat) (0 : Nat) []))) (0 : Nat), D.map (1 : Nat) (Sc.m
      (List.getD L x_1 (Sc.mk (0 : Nat) (0 : Nat) (0 : Nat) []))), D.sl (1 : Nat) (List.length (Sc.l (List.getD L x_1 (Sc.mk (0 : Nat) (0 : Nat) (0 : Nat) [])))) (fun (i : Nat) => [D.str (Prod.fst (List.getD (Sc.l
      (List.getD L x_1 (Sc.mk (0 : Nat) (0 : Nat) (0 : Nat) []))) i ([], (0 : Int))))]) (Mode.tok (0 : Nat) (Sc.t (List.getD L x_1 (Sc.mk (0 : Nat) (0 : Nat) (0 : Nat) []))))]) :: ((1 : Nat), Sc.m (List.getD L x_1 (Sc.mk
      (0 : Nat) (0 : Nat) (0 : Nat) [])), AObj.amap IntKind.i64 (Sc.l (List.getD L x_1 (Sc.mk (0 : Nat) (0 : Nat) (0 : Nat) [])))) :: List.append [] (St.objs (exG (fun (o : D) (s : Sc) => St.mk [((0 : Nat), Sc.x s,
      AObj.cells [o, D.map (1 : Nat) (Sc.m s), D.sl (1 : Nat) (List.length (Sc.l s)) (fun (i : Nat) => [D.str (Prod.fst (List.getD (Sc.l s) i ([], (0 : Int))))]) (Mode.tok (0 : Nat) (Sc.t s))]), ((1 : Nat), Sc.m s,
      AObj.amap IntKind.i64 (Sc.l s))] [((0 : Nat), Sc.t s)]) (fun (s : Sc) => D.ref (0 : Nat) (Sc.x s) (0 : Nat)) L x_1))) (((0 : Nat), Sc.t (List.getD L x_1 (Sc.mk (0 : Nat) (0 : Nat) (0 : Nat) []))) :: List.append []
      (St.toks (exG (fun (o : D) (s : Sc) => St.mk [((0 : Nat), Sc.x s, AObj.cells [o, D.map (1 : Nat) (Sc.m s), D.sl (1 : Nat) (List.length (Sc.l s)) (fun (i : Nat) => [D.str (Prod.fst (List.getD (Sc.l s) i ([], (0 :
      Int))))]) (Mode.tok (0 : Nat) (Sc.t s))]), ((1 : Nat), Sc.m s, AObj.amap IntKind.i64 (Sc.l s))] [((0 : Nat), Sc.t s)]) (fun (s : Sc) => D.ref (0 : Nat) (Sc.x s) (0 : Nat)) L x_1))))) ∨ ∃ (x_1 : Unit), True ∧ (0 :
      Nat) < List.length L - x ∧ (Sc.x (List.getD L (x + (1 : Nat)) (Sc.mk (0 : Nat) (0 : Nat) (0 : Nat) [])) = Sc.x (List.getD L (List.length L - (1 : Nat)) (Sc.mk (0 : Nat) (0 : Nat) (0 : Nat) [])) ∧ IntKind.wrap
      IntKind.i64 ((↑x : Int) + (1 : Int)) = (↑(List.length L - (1 : Nat)) : Int) ∧ True) ∧ StTo (St.mk (((0 : Nat), Sc.x (List.getD L x (Sc.mk (0 : Nat) (0 : Nat) (0 : Nat) [])), AObj.cells [D.ref (0 : Nat) (Sc.x
      (List.getD L (x + (1 : Nat)) (Sc.mk (0 : Nat) (0 : Nat) (0 : Nat) []))) (0 : Nat), D.map (1 : Nat) (Sc.m (List.getD L x (Sc.mk (0 : Nat) (0 : Nat) (0 : Nat) []))), D.sl (1 : Nat) (List.length (Sc.l (List.getD L x
      (Sc.mk (0 : Nat) (0 : Nat) (0 : Nat) [])))) (fun (i : Nat) => [D.str (Prod.fst (List.getD (Sc.l (List.getD L x (Sc.mk (0 : Nat) (0 : Nat) (0 : Nat) []))) i ([], (0 : Int))))]) (Mode.tok (0 : Nat) (Sc.t (List.getD L
      x (Sc.mk (0 : Nat) (0 : Nat) (0 : Nat) []))))]) :: ((1 : Nat), Sc.m (List.getD L x (Sc.mk (0 : Nat) (0 : Nat) (0 : Nat) [])), AObj.amap IntKind.i64 (Sc.l (List.getD L x (Sc.mk (0 : Nat) (0 : Nat) (0 : Nat) []))))
      :: List.append [] (St.objs (exG (fun (o : D) (s : Sc) => St.mk [((0 : Nat), Sc.x s, AObj.cells [o, D.map (1 : Nat) (Sc.m s), D.sl (1 : Nat) (List.length (Sc.l s)) (fun (i : Nat) => [D.str (Prod.fst (List.getD (Sc.l
      s) i ([], (0 : Int))))]) (Mode.tok (0 : Nat) (Sc.t s))]), ((1 : Nat), Sc.m s, AObj.amap IntKind.i64 (Sc.l s))] [((0 : Nat), Sc.t s)]) (fun (s : Sc) => D.ref (0 : Nat) (Sc.x s) (0 : Nat)) L x))) (((0 : Nat), Sc.t
      (List.getD L x (Sc.mk (0 : Nat) (0 : Nat) (0 : Nat) []))) :: List.append [] (St.toks (exG (fun (o : D) (s : Sc) => St.mk [((0 : Nat), Sc.x s, AObj.cells [o, D.map (1 : Nat) (Sc.m s), D.sl (1 : Nat) (List.length
      (Sc.l s)) (fun (i : Nat) => [D.str (Prod.fst (List.getD (Sc.l s) i ([], (0 : Int))))]) (Mode.tok (0 : Nat) (Sc.t s))]), ((1 : Nat), Sc.m s, AObj.amap IntKind.i64 (Sc.l s))] [((0 : Nat), Sc.t s)]) (fun (s : Sc) =>
      D.ref (0 : Nat) (Sc.x s) (0 : Nat)) L x)))) (St.mk (((0 : Nat), Sc.x (List.getD L (List.length L - (1 : Nat)) (Sc.mk (0 : Nat) (0 : Nat) (0 : Nat) [])), AObj.cells [D.nilp, D.map (1 : Nat) (Sc.m (List.getD L
      (List.length L - (1 : Nat)) (Sc.mk (0 : Nat) (0 : Nat) (0 : Nat) []))), D.sl (1 : Nat) (List.length (Sc.l (List.getD L (List.length L - (1 : Nat)) (Sc.mk (0 : Nat) (0 : Nat) (0 : Nat) [])))) (fun (i : Nat) =>
      [D.str (Prod.fst (List.getD (Sc.l (List.getD L (List.length L - (1 : Nat)) (Sc.mk (0 : Nat) (0 : Nat) (0 : Nat) []))) i ([], (0 : Int))))]) (Mode.tok (0 : Nat) (Sc.t (List.getD L (List.length L - (1 : Nat)) (Sc.mk
      (0 : Nat) (0 : Nat) (0 : Nat) []))))]) :: ((1 : Nat), Sc.m (List.getD L (List.length L - (1 : Nat)) (Sc.mk (0 : Nat) (0 : Nat) (0 : Nat) [])), AObj.amap IntKind.i64 (Sc.l (List.getD L (List.length L - (1 : Nat))
      (Sc.mk (0 : Nat) (0 : Nat) (0 : Nat) [])))) :: List.append [] (St.objs (exG (fun (o : D) (s : Sc) => St.mk [((0 : Nat), Sc.x s, AObj.cells [o, D.map (1 : Nat) (Sc.m s), D.sl (1 : Nat) (List.length (Sc.l s)) (fun (i
      : Nat) => [D.str (Prod.fst (List.getD (Sc.l s) i ([], (0 : Int))))]) (Mode.tok (0 : Nat) (Sc.t s))]), ((1 : Nat), Sc.m s, AObj.amap IntKind.i64 (Sc.l s))] [((0 : Nat), Sc.t s)]) (fun (s : Sc) => D.ref (0 : Nat)
      (Sc.x s) (0 : Nat)) L (List.length L - (1 : Nat))))) (((0 : Nat), Sc.t (List.getD L (List.length L - (1 : Nat)) (Sc.mk (0 : Nat) (0 : Nat) (0 : Nat) []))) :: List.append [] (St.toks (exG (fun (o : D) (s : Sc) =>
      St.mk [((0 : Nat), Sc.x s, AObj.cells [o, D.map (1 : Nat) (Sc.m s), D.sl (1 : Nat) (List.length (Sc.l s)) (fun (i : Nat) => [D.str (Prod.fst (List.getD (Sc.l s) i ([], (0 : Int))))]) (Mode.tok (0 : Nat) (Sc.t
      s))]), ((1 : Nat), Sc.m s, AObj.amap IntKind.i64 (Sc.l s))] [((0 : Nat), Sc.t s)]) (fun (s : Sc) => D.ref (0 : Nat) (Sc.x s) (0 : Nat)) L (List.length L - (1 : Nat)))))))) ∧ ∀ (x : Unit), True → Sc.x (List.getD L
      (List.length L - (1 : Nat)) (Sc.mk (0 : Nat) (0 : Nat) (0 : Nat) [])) = Sc.x (List.getD L (List.length L - (1 : Nat)) (Sc.mk (0 : Nat) (0 : Nat) (0 : Nat) [])) ∧ True ∧ depthR (List.length L) (chG (fun (o : D) (s :
      Sc) => St.mk [((0 : Nat), Sc.x s, AObj.cells [o, D.map (1 : Nat) (Sc.m s), D.sl (1 : Nat) (List.length (Sc.l s)) (fun (i : Nat) => [D.str (Prod.fst (List.getD (Sc.l s) i ([], (0 : Int))))]) (Mode.tok (0 : Nat)
      (Sc.t s))]), ((1 : Nat), Sc.m s, AObj.amap IntKind.i64 (Sc.l s))] [((0 : Nat), Sc.t s)]) (fun (s : Sc) => D.ref (0 : Nat) (Sc.x s) (0 : Nat)) L) (AEnd.ret (D.int IntKind.i64 (↑(List.length L - (1 : Nat)) : Int)))
      (St.mk (((0 : Nat), Sc.x (List.getD L (List.length L - (1 : Nat)) (Sc.mk (0 : Nat) (0 : Nat) (0 : Nat) [])), AObj.cells [D.nilp, D.map (1 : Nat) (Sc.m (List.getD L (List.length L - (1 : Nat)) (Sc.mk (0 : Nat) (0 :
      Nat) (0 : Nat) []))), D.sl (1 : Nat) (List.length (Sc.l (List.getD L (List.length L - (1 : Nat)) (Sc.mk (0 : Nat) (0 : Nat) (0 : Nat) [])))) (fun (i : Nat) => [D.str (Prod.fst (List.getD (Sc.l (List.getD L
      (List.length L - (1 : Nat)) (Sc.mk (0 : Nat) (0 : Nat) (0 : Nat) []))) i ([], (0 : Int))))]) (Mode.tok (0 : Nat) (Sc.t (List.getD L (List.length L - (1 : Nat)) (Sc.mk (0 : Nat) (0 : Nat) (0 : Nat) []))))]) :: ((1 :
      Nat), Sc.m (List.getD L (List.length L - (1 : Nat)) (Sc.mk (0 : Nat) (0 : Nat) (0 : Nat) [])), AObj.amap IntKind.i64 (Sc.l (List.getD L (List.length L - (1 : Nat)) (Sc.mk (0 : Nat) (0 : Nat) (0 : Nat) [])))) ::
      List.append [] (St.objs (exG (fun (o : D) (s : Sc) => St.mk [((0 : Nat), Sc.x s, AObj.cells [o, D.map (1 : Nat) (Sc.m s), D.sl (1 : Nat) (List.length (Sc.l s)) (fun (i : Nat) => [D.str (Prod.fst (List.getD (Sc.l s)
      i ([], (0 : Int))))]) (Mode.tok (0 : Nat) (Sc.t s))]), ((1 : Nat), Sc.m s, AObj.amap IntKind.i64 (Sc.l s))] [((0 : Nat), Sc.t s)]) (fun (s : Sc) => D.ref (0 : Nat) (Sc.x s) (0 : Nat)) L (List.length L - (1 :
      Nat))))) (((0 : Nat), Sc.t (List.getD L (List.length L - (1 : Nat)) (Sc.mk (0 : Nat) (0 : Nat) (0 : Nat) []))) :: List.append [] (St.toks (exG (fun (o : D) (s : Sc) => St.mk [((0 : Nat), Sc.x s, AObj.cells [o,
      D.map (1 : Nat) (Sc.m s), D.sl (1 : Nat) (List.length (Sc.l s)) (fun (i : Nat) => [D.str (Prod.fst (List.getD (Sc.l s) i ([], (0 : Int))))]) (Mode.tok (0 : Nat) (Sc.t s))]), ((1 : Nat), Sc.m s, AObj.amap
      IntKind.i64 (Sc.l s))] [((0 : Nat), Sc.t s)]) (fun (s : Sc) => D.ref (0 : Nat) (Sc.x s) (0 : Nat)) L (List.length L - (1 : Nat))))))) (by kernel_rfl) ?_
  try simp only [side_and]
  try simp only [side_iff]
  have hd1 : ∀ i, i + 1 < L.length → hdG iRef (L.drop (i + 1)) = .ref 0 (L.getD (i + 1) default).x 0 := by
    intro i hi
    rw [List.drop_eq_getElem_cons hi]
    simp [hdG, List.getElem?_eq_getElem hi]
  have hd2 : hdG iRef (L.drop (L.length - 1 + 1)) = .nilp := by
    rw [List.drop_eq_nil_of_le (by omega)]; rfl
  have to1 : ∀ i, i + 1 < L.length → StTo (chG iSt iRef L) ((iSt (.ref 0 (L.getD (i + 1) default).x 0) (L.getD i default)).add (exG iSt iRef L i)) ∧ StTo ((iSt (.ref 0 (L.getD (i + 1) default).x 0) (L.getD i default)).add (exG iSt iRef L i)) (chG iSt iRef L) := by
    intro i hi
    rw [← hd1 i hi]; exact ch_to iSt iRef L i (by omega)
  have to2 : StTo (chG iSt iRef L) ((iSt .nilp (L.getD (L.length - 1) default)).add (exG iSt iRef L (L.length - 1))) ∧ StTo ((iSt .nilp (L.getD (L.length - 1) default)).add (exG iSt iRef L (L.length - 1))) (chG iSt iRef L) := by
    rw [← hd2]; exact ch_to iSt iRef L _ (by omega)
  refine ⟨?_, ?_, ?_⟩
  · by_cases h1 : 1 < L.length
    · exact .inl ⟨0, h1, trivial, ⟨rfl, rfl, trivial⟩, (to1 0 h1).1⟩
    · have e : L.length - 1 = 0 := by omega
      refine .inr ⟨(), trivial, trivial, ⟨by rw [e], by rw [e]; rfl, trivial⟩, to2.1⟩
  · intro i hi
    refine ⟨trivial, trivial, trivial, ?_⟩
    have hw : IntKind.wrap .i64 ((i : Int) + 1) = ((i + 1 : Nat) : Int) := by rw [IntKind.wrap_i64] <;> omega
    by_cases hn : i + 1 + 1 < L.length
    · exact .inl ⟨i + 1, hn, by omega, ⟨rfl, hw, trivial⟩, (to1 i hi).2.trans (to1 (i + 1) hn).1⟩
    · have e : L.length - 1 = i + 1 := by omega
      exact .inr ⟨(), trivial, by omega, ⟨by rw [e], by rw [e]; exact hw, trivial⟩, (to1 i hi).2.trans to2.1⟩
  · intro _ _
    exact ⟨trivial, trivial, rfl, to2.2⟩
theorem rdepth_ch (L : List Rc) (h0 : 0 < L.length) (hm : L.length ≤ 1000) : ACalls Try.prog 16 [.ref 0 (L.getD 0 default).x 0] (chG rSt rRef L) (depthR L.length (chG rSt rRef L)) := by
  refine call_of (E := E16c L) ⟨tab_ok, con0_ok, mix, fun _ _ _ _ h => h.elim, fun _ h => nomatch h⟩ Try.func16 rfl rfl rfl (by simp [E16c, E0]) ?_
  refine vc_eq (T :=
      ((∃ (x : Nat), x + (1 : Nat) < List.length L ∧ True ∧ (Rc.x (List.getD L (0 : Nat) (Rc.mk (0 : Nat) (0 : Nat) (0 : Nat) [])) = Rc.x (List.getD L x (Rc.mk (0 : Nat) (0 : Nat) (0 : Nat) [])) ∧ (0 : Int) = (↑x : Int)
      ∧ True) ∧ StTo (chG (fun (o : D) (s : Rc) => St.mk [((0 : Nat), Rc.x s, AObj.cells [o, D.sl (1 : Nat) (List.length (Rc.l s)) (fun (i : Nat) => [D.str (Prod.fst (List.getD (Rc.l s) i ([], (0 : Int))))]) (Mode.tok (0
      : Nat) (Rc.u s)), D.sl (1 : Nat) (List.length (Rc.l s)) (fun (i : Nat) => [D.int IntKind.i64 (Prod.snd (List.getD (Rc.l s) i ([], (0 : Int))))]) (Mode.tok (1 : Nat) (Rc.v s))])] [((0 : Nat), Rc.u s), ((1 : Nat),
      Rc.v s)]) (fun (s : Rc) => D.ref (0 : Nat) (Rc.x s) (0 : Nat)) L) (St.mk (((0 : Nat), Rc.x (List.getD L x (Rc.mk (0 : Nat) (0 : Nat) (0 : Nat) [])), AObj.cells [D.ref (0 : Nat) (Rc.x (List.getD L (x + (1 : Nat))
      (Rc.mk (0 : Nat) (0 : Nat) (0 : Nat) []))) (0 : Nat), D.sl (1 : Nat) (List.length (Rc.l (List.getD L x (Rc.mk (0 : Nat) (0 : Nat) (0 : Nat) [])))) (fun (i : Nat) => [D.str (Prod.fst (List.getD (Rc.l (List.getD L x
      (Rc.mk (0 : Nat) (0 : Nat) (0 : Nat) []))) i ([], (0 : Int))))]) (Mode.tok (0 : Nat) (Rc.u (List.getD L x (Rc.mk (0 : Nat) (0 : Nat) (0 : Nat) [])))), D.sl (1 : Nat) (List.length (Rc.l (List.getD L x (Rc.mk (0 :
      Nat) (0 : Nat) (0 : Nat) [])))) (fun (i : Nat) => [D.int IntKind.i64 (Prod.snd (List.getD (Rc.l (List.getD L x (Rc.mk (0 : Nat) (0 : Nat) (0 : Nat) []))) i ([], (0 : Int))))]) (Mode.tok (1 : Nat) (Rc.v (List.getD L
      x (Rc.mk (0 : Nat) (0 : Nat) (0 : Nat) []))))]) :: List.append [] (St.objs (exG (fun (o : D) (s : Rc) => St.mk [((0 : Nat), Rc.x s, AObj.cells [o, D.sl (1 : Nat) (List.length (Rc.l s)) (fun (i : Nat) => [D.str
      (Prod.fst (List.getD (Rc.l s) i ([], (0 : Int))))]) (Mode.tok (0 : Nat) (Rc.u s)), D.sl (1 : Nat) (List.length (Rc.l s)) (fun (i : Nat) => [D.int IntKind.i64 (Prod.snd (List.getD (Rc.l s) i ([], (0 : Int))))])
      (Mode.tok (1 : Nat) (Rc.v s))])] [((0 : Nat), Rc.u s), ((1 : Nat), Rc.v s)]) (fun (s : Rc) => D.ref (0 : Nat) (Rc.x s) (0 : Nat)) L x))) (((0 : Nat), Rc.u (List.getD L x (Rc.mk (0 : Nat) (0 : Nat) (0 : Nat) [])))
      :: ((1 : Nat), Rc.v (List.getD L x (Rc.mk (0 : Nat) (0 : Nat) (0 : Nat) []))) :: List.append [] (St.toks (exG (fun (o : D) (s : Rc) => St.mk [((0 : Nat), Rc.x s, AObj.cells [o, D.sl (1 : Nat) (List.length (Rc.l s))
      (fun (i : Nat) => [D.str (Prod.fst (List.getD (Rc.l s) i ([], (0 : Int))))]) (Mode.tok (0 : Nat) (Rc.u s)), D.sl (1 : Nat) (List.length (Rc.l s)) (fun (i : Nat) => [D.int IntKind.i64 (Prod.snd (List.getD (Rc.l s) i
      ([], (0 : Int))))]) (Mode.tok (1 : Nat) (Rc.v s))])] [((0 : Nat), Rc.u s), ((1 : Nat), Rc.v s)]) (fun (s : Rc) => D.ref (0 : Nat) (Rc.x s) (0 : Nat)) L x))))) ∨ ∃ (x : Unit), True ∧ True ∧ (Rc.x (List.getD L (0 :
      Nat) (Rc.mk (0 : Nat) (0 : Nat) (0 : Nat) [])) = Rc.x (List.getD L (List.length L - (1 : Nat)) (Rc.mk (0 : Nat) (0 : Nat) (0 : Nat) [])) ∧ (0 : Int) = (↑(List.length L - (1 : Nat)) : Int) ∧ True) ∧ StTo (chG (fun
      (o : D) (s : Rc) => St.mk [((0 : Nat), Rc.x s, AObj.cells [o, D.sl (1 : Nat) (List.length (Rc.l s)) (fun (i : Nat) => [D.str (Prod.fst (List.getD (Rc.l s) i ([], (0 : Int))))]) (Mode.tok (0 : Nat) (Rc.u s)), D.sl
      (1 : Nat) (List.length (Rc.l s)) (fun (i : Nat) => [D.int IntKind.i64 (Prod.snd (List.getD (Rc.l s) i ([], (0 : Int))))]) (Mode.tok (1 : Nat) (Rc.v s))])] [((0 : Nat), Rc.u s), ((1 : Nat), Rc.v s)]) (fun (s : Rc)
      => D.ref (0 : Nat) (Rc.x s) (0 : Nat)) L) (St.mk (((0 : Nat), Rc.x (List.getD L (List.length L - (1 : Nat)) (Rc.mk (0 : Nat) (0 : Nat) (0 : Nat) [])), AObj.cells [D.nilp, D.sl (1 : Nat) (List.length (Rc.l
      (List.getD L (List.length L - (1 : Nat)) (Rc.mk (0 : Nat) (0 : Nat) (0 : Nat) [])))) (fun (i : Nat) => [D.str (Prod.fst (List.getD (Rc.l (List.getD L (List.length L - (1 : Nat)) (Rc.mk (0 : Nat) (0 : Nat) (0 : Nat)
      []))) i ([], (0 : Int))))]) (Mode.tok (0 : Nat) (Rc.u (List.getD L (List.length L - (1 : Nat)) (Rc.mk (0 : Nat) (0 : Nat) (0 : Nat) [])))), D.sl (1 : Nat) (List.length (Rc.l (List.getD L (List.length L - (1 : Nat))
      (Rc.mk (0 : Nat) (0 : Nat) (0 : Nat) [])))) (fun (i : Nat) => [D.int IntKind.i64 (Prod.snd (List.getD (Rc.l (List.getD L (List.length L - (1 : Nat)) (Rc.mk (0 : Nat) (0 : Nat) (0 : Nat) []))) i ([], (0 : Int))))])
      (Mode.tok (1 : Nat) (Rc.v (List.getD L (List.length L - (1 : Nat)) (Rc.mk (0 : Nat) (0 : Nat) (0 : Nat) []))))]) :: List.append [] (St.objs (exG (fun (o : D) (s : Rc) => St.mk [((0 : Nat), Rc.x s, AObj.cells [o,
      D.sl (1 : Nat) (List.length (Rc.l s)) (fun (i : Nat) => [D.str (Prod.fst (List.getD (Rc.l s) i ([], (0 : Int))))]) (Mode.tok (0 : Nat) (Rc.u s)), D.sl (1 : Nat) (List.length (Rc.l s)) (fun (i : Nat) => [D.int
      IntKind.i64 (Prod.snd (List.getD (Rc.l s) i ([], (0 : Int))))]) (Mode.tok (1 : Nat) (Rc.v s))])] [((0 : Nat), Rc.u s), ((1 : Nat), Rc.v s)]) (fun (s : Rc) => D.ref (0 : Nat) (Rc.x s) (0 : Nat)) L (List.length L -
      (1 : Nat))))) (((0 : Nat), Rc.u (List.getD L (List.length L - (1 : Nat)) (Rc.mk (0 : Nat) (0 : Nat) (0 : Nat) []))) :: ((1 : Nat), Rc.v (List.getD L (List.length L - (1 : Nat)) (Rc.mk (0 : Nat) (0 : Nat) (0 : Nat)
      []))) :: List.append [] (St.toks (exG (fun (o : D) (s : Rc) => St.mk [((0 : Nat), Rc.x s, AObj.cells [o, D.sl (1 : Nat) (List.length (Rc.l s)) (fun (i : Nat) => [D.str (Prod.fst (List.getD (Rc.l s) i ([], (0 :
      Int))))]) (Mode.tok (0 : Nat) (Rc.u s)), D.sl (1 : Nat) (List.length (Rc.l s)) (fun (i : Nat) => [D.int IntKind.i64 (Prod.snd (List.getD (Rc.l s) i ([], (0 : Int))))]) (Mode.tok (1 : Nat) (Rc.v s))])] [((0 : Nat),
      Rc.u s), ((1 : Nat), Rc.v s)]) (fun (s : Rc) => D.ref (0 : Nat) (Rc.x s) (0 : Nat)) L (List.length L - (1 : Nat))))))) ∧ (∀ (x : Nat), x + (1 : Nat) < List.length L → Rc.x (List.getD L x (Rc.mk (0 : Nat) (0 : Nat)
      (0 : Nat) [])) = Rc.x (List.getD L x (Rc.mk (0 : Nat) (0 : Nat) (0 : Nat) [])) ∧ Rc.x (List.getD L x (Rc.mk (0 : Nat) (0 : Nat) (0 : Nat) [])) = Rc.x (List.getD L x (Rc.mk (0 : Nat) (0 : Nat) (0 : Nat) [])) ∧ True
      ∧ ((∃ (x_1 : Nat), x_1 + (1 : Nat) < List.length L ∧ List.length L - x_1 < List.length L - x ∧ (Rc.x (List.getD L (x + (1 : Nat)) (Rc.mk (0 : Nat) (0 : Nat) (0 : Nat) [])) = Rc.x (List.getD L x_1 (Rc.mk (0 : Nat)
      (0 : Nat) (0 : Nat) [])) ∧ IntKind.wrap IntKind.i64 ((↑x : Int) + (1 : Int)) = (↑x_1 : Int) ∧ True) ∧ StTo (St.mk (((0 : Nat), Rc.x (List.getD L x (Rc.mk (0 : Nat) (0 : Nat) (0 : Nat) [])), AObj.cells [D.ref (0 :
      Nat) (Rc.x (List.getD L (x + (1 : Nat)) (Rc.mk (0 : Nat) (0 : Nat) (0 : Nat) []))) (0 : Nat), D.sl (1 : Nat) (List.length (Rc.l (List.getD L x (Rc.mk (0 : Nat) (0 : Nat) (0 : Nat) [])))) (fun (i : Nat) => [D.str
      (Prod.fst (List.getD (Rc.l (List.getD L x (Rc.mk (0 : Nat) (0 : Nat) (0 : Nat) []))) i ([], (0 : Int))))]) (Mode.tok (0 : Nat) (Rc.u (List.getD L x (Rc.mk (0 : Nat) (0 : Nat) (0 : Nat) [])))), D.sl (1 : Nat)
      (List.length (Rc.l (List.getD L x (Rc.mk (0 : Nat) (0 : Nat) (0 : Nat) [])))) (fun (i : Nat) => [D.int IntKind.i64 (Prod.snd (List.getD (Rc.l (List.getD L x (Rc.mk (0 : Nat) (0 : Nat) (0 : Nat) []))) i ([], (0 :
      Int))))]) (Mode.tok (1 : Nat) (Rc.v (List.getD L x (Rc.mk (0 : Nat) (0 : Nat) (0 : Nat) []))))]) :: List.append [] (St.objs (exG (fun (o : D) (s : Rc) => St.mk [((0 : Nat), Rc.x s, AObj.cells [o, D.sl (1 : Nat)
      (List.length (Rc.l s)) (fun (i : Nat) => [D.str (Prod.fst (List.getD (Rc.l s) i ([], (0 : Int))))]) (Mode.tok (0 : Nat) (Rc.u s)), D.sl (1 : Nat) (List.length (Rc.l s)) (fun (i : Nat) => [D.int IntKind.i64
      (Prod.snd (List.getD (Rc.l s) i ([], (0 : Int))))]) (Mode.tok (1 : Nat) (Rc.v s))])] [((0 : Nat), Rc.u s), ((1 : Nat), Rc.v s)]) (fun (s : Rc) => D.ref (0 : Nat) (Rc.x s) (0 : Nat)) L x))) (((0 : Nat), Rc.u
      (List.getD L x (Rc.mk (0 : Nat) (0 : Nat) (0 : Nat) []))) :: ((1 : Nat), Rc.v (List.getD L x (Rc.mk (0 : Nat) (0 : Nat) (0 : Nat) []))) :: List.append [] (St.toks (exG (fun (o : D) (s : Rc) => St.mk [((0 : Nat),
      Rc.x s, AObj.cells [o, D.sl (1 : Nat) (List.length (Rc.l s)) (fun (i : Nat) => [D.str (Prod.fst (List.getD (Rc.l s) i ([], (0 : Int))))]) (Mode.tok (0 : Nat) (Rc.u s)), D.sl (1 : Nat) (List.length (Rc.l s)) (fun (i
      : Nat) => [D.int IntKind.i64 (Prod.snd (List.getD (Rc.l s) i ([], (0 : Int))))]) (Mode.tok (1 : Nat) (Rc.v s))])] [((0 : Nat), Rc.u s), ((1 : Nat), Rc.v s)]) (fun (s : Rc) => D.ref (0 : Nat) (Rc.x s) (0 : Nat)) L
      x)))) (St.mk (((0 : Nat), Rc.x (List.getD L x_1 (Rc.mk (0 : Nat) (0 : Nat) (0 : Nat) [])), AObj.cells [D.ref (0 : Nat) (Rc.x (List.getD L (x_1 + (1 : Nat)) (Rc.mk (0 : Nat) (0 : Nat) (0 : Nat) []))) (0 : Nat), D.sl
      (1 : Nat) (List.length (Rc.l (List.getD L x_1 (Rc.mk (0 : Nat) (0 : Nat) (0 : Nat) [])))) (fun (i : Nat) => [D.str (Prod.fst (List.getD (Rc.l (List.getD L x_1 (Rc.mk (0 : Nat) (0 : Nat) (0 : Nat) []))) i ([], (0 :
      Int))))]) (Mode.tok (0 : Nat) (Rc.u (List.getD L x_1 (Rc.mk (0 : Nat) (0 : Nat) (0 : Nat) [])))), D.sl (1 : Nat) (List.length (Rc.l (List.getD L x_1 (Rc.mk (0 : Nat) (0 : Nat) (0 : Nat) [])))) (fun (i : Nat) =>
      [D.int IntKind.i64 (Prod.snd (List.getD (Rc.l (List.getD L x_1 (Rc.mk (0 : Nat) (0 : Nat) (0 : Nat) []))) i ([], (0 : Int))))]) (Mode.tok (1 : Nat) (Rc.v (List.getD L x_1 (Rc.mk (0 : Nat) (0 : Nat) (0 : Nat)
      []))))]) :: List.append [] (St.objs (exG (fun (o : D) (s : Rc) => St.mk [((0 : Nat), Rc.x s, AObj.cells [o, D.sl (1 : Nat) (List.length (Rc.l s)) (fun (i : Nat) => [D.str (Prod.fst (List.getD (Rc.l s) i ([], (0 :
      Int))))]) (Mode.tok (0 : Nat) (Rc.u s)), D.sl (1 : Nat) (List.length (Rc.l s)) (fun (i : Nat) => [D.int IntKind.i64 (Prod.snd (List.getD (Rc.l s) i ([], (0 : Int))))]) (Mode.tok (1 : Nat) (Rc.v s))])] [((0 : Nat),
      Rc.u s), ((1 : Nat), Rc.v s)]) (fun (s : Rc) => D.ref (0 : Nat) (Rc.x s) (0 : Nat)) L x_1))) (((0 : Nat), Rc.u (List.getD L x_1 (Rc.mk (0 : Nat) (0 : Nat) (0 : Nat) []))) :: ((1 : Nat), Rc.v (List.getD L x_1 (Rc.mk
      (0 : Nat) (0 : Nat) (0 : Nat) []))) :: List.append [] (St.toks (exG (fun (o : D) (s : Rc) => St.mk [((0 : Nat), Rc.x s, AObj.cells [o, D.sl (1 : Nat) (List.length (Rc.l s)) (fun (i : Nat) => [D.str (Prod.fst
      (List.getD (Rc.l s) i ([], (0 : Int))))]) (Mode.tok (0 : Nat) (Rc.u s)), D.sl (1 : Nat) (List.length (Rc.l s)) (fun (i : Nat) => [D.int IntKind.i64 (Prod.snd (List.getD (Rc.l s) i ([], (0 : Int))))]) (Mode.tok (1 :
      Nat) (Rc.v s))])] [((0 : Nat), Rc.u s), ((1 : Nat), Rc.v s)]) (fun (s : Rc) => D.ref (0 : Nat) (Rc.x s) (0 : Nat)) L x_1))))) ∨ ∃ (x_1 : Unit), True ∧ (0 : Nat) < List.length L - x ∧ (Rc.x (List.getD L (x + (1 :
      Nat)) (Rc.mk (0 : Nat) (0 : Nat) (0 : Nat) [])) = Rc.x (List.getD L (List.length L - (1 : Nat)) (Rc.mk (0 : Nat) (0 : Nat) (0 : Nat) [])) ∧ IntKind.wrap IntKind.i64 ((↑x : Int) + (1 : Int)) = (↑(List.length L - (1
      : Nat)) : Int) ∧ True) ∧ StTo (St.mk (((0 : Nat), Rc.x (List.getD L x (Rc.mk (0 : Nat) (0 : Nat) (0 : Nat) [])), AObj.cells [D.ref (0 : Nat) (Rc.x (List.getD L (x + (1 : Nat)) (Rc.mk (0 : Nat) (0 : Nat) (0 : Nat)
      []))) (0 : Nat), D.sl (1 : Nat) (List.length (Rc.l (List.getD L x (Rc.mk (0 : Nat) (0 : Nat) (0 : Nat) [])))) (fun (i : Nat) => [D.str (Prod.fst (List.getD (Rc.l (List.getD L x (Rc.mk (0 : Nat) (0 : Nat) (0 : Nat)
      []))) i ([], (0 : Int))))]) (Mode.tok (0 : Nat) (Rc.u (List.getD L x (Rc.mk (0 : Nat) (0 : Nat) (0 : Nat) [])))), D.sl (1 : Nat) (List.length (Rc.l (List.getD L x (Rc.mk (0 : Nat) (0 : Nat) (0 : Nat) [])))) (fun (i
      : Nat) => [D.int IntKind.i64 (Prod.snd (List.getD (Rc.l (List.getD L x (Rc.mk (0 : Nat) (0 : Nat) (0 : Nat) []))) i ([], (0 : Int))))]) (Mode.tok (1 : Nat) (Rc.v (List.getD L x (Rc.mk (0 : Nat) (0 : Nat) (0 : Nat)
      []))))]) :: List.append [] (St.objs (exG (fun (o : D) (s : Rc) => St.mk [((0 : Nat), Rc.x s, AObj.cells [o, D.sl (1 : Nat) (List.length (Rc.l s)) (fun (i : Nat) => [D.str (Prod.fst (List.getD (Rc.l s) i ([], (0 :
      Int))))]) (Mode.tok (0 : Nat) (Rc.u s)), D.sl (1 : Nat) (List.length (Rc.l s)) (fun (i : Nat) => [D.int IntKind.i64 (Prod.snd (List.getD (Rc.l s) i ([], (0 : Int))))]) (Mode.tok (1 : Nat) (Rc.v s))])] [((0 : Nat),
      Rc.u s), ((1 : Nat), Rc.v s)]) (fun (s : Rc) => D.ref (0 : Nat) (Rc.x s) (0 : Nat)) L x))) (((0 : Nat), Rc.u (List.getD L x (Rc.mk (0 : Nat) (0 : Nat) (0 : Nat) []))) :: ((1 : Nat), Rc.v (List.getD L x (Rc.mk (0 :
      Nat) (0 : Nat) (0 : Nat) []))) :: List.append [] (St.toks (exG (fun (o : D) (s : Rc) => St.mk [((0 : Nat), Rc.x s, AObj.cells [o, D.sl (1 : Nat) (List.length (Rc.l s)) (fun (i : Nat) => [D.str (Prod.fst (List.getD
      (Rc.l s) i ([], (0 : Int))))]) (Mode.tok (0 : Nat) (Rc.u s)), D.sl (1 : Nat) (List.length (Rc.l s)) (fun (i : Nat) => [D.int IntKind.i64 (Prod.snd (List.getD (Rc.l s) i ([], (0 : Int))))]) (Mode.tok (1 : Nat) (Rc.v
      s))])] [((0 : Nat), Rc.u s), ((1 : Nat), Rc.v s)]) (fun (s : Rc) => D.ref (0 : Nat) (Rc.x s) (0 : Nat)) L x)))) (St.mk (((0 : Nat), Rc.x (List.getD L (List.length L - (1 : Nat)) (Rc.mk (0 : Nat) (0 : Nat) (0 : Nat)
      [])), AObj.cells [D.nilp, D.sl (1 : Nat) (List.length (Rc.l (List.getD L (List.length L - (1 : Nat)) (Rc.mk (0 : Nat) (0 : Nat) (0 : Nat) [])))) (fun (i : Nat) => [D.str (Prod.fst (List.getD (Rc.l (List.getD L
      (List.length L - (1 : Nat)) (Rc.mk (0 : Nat) (0 : Nat) (0 : Nat) []))) i ([], (0 : Int))))]) (Mode.tok (0 : Nat) (Rc.u (List.getD L (List.length L - (1 : Nat)) (Rc.mk (0 : Nat) (0 : Nat) (0 : Nat) [])))), D.sl (1 :
      Nat) (List.length (Rc.l (List.getD L (List.length L - (1 : Nat)) (Rc.mk (0 : Nat) (0 : Nat) (0 : Nat) [])))) (fun (i : Nat) => [D.int IntKind.i64 (Prod.snd (List.getD (Rc.l (List.getD L (List.length L - (1 : Nat))
      (Rc.mk (0 : Nat) (0 : Nat) (0 : Nat) []))) i ([], (0 : Int))))]) (Mode.tok (1 : Nat) (Rc.v (List.getD L (List.length L - (1 : Nat)) (Rc.mk (0 : Nat) (0 : Nat) (0 : Nat) []))))]) :: List.append [] (St.objs (exG (fun
      (o : D) (s : Rc) => St.mk [((0 : Nat), Rc.x s, AObj.cells [o, D.sl (1 : Nat) (List.length (Rc.l s)) (fun (i : Nat) => [D.str (Prod.fst (List.getD (Rc.l s) i ([], (0 : Int))))]) (Mode.tok (0 : Nat) (Rc.u s)), D.sl
      (1 : Nat) (List.length (Rc.l s)) (fun (i : Nat) => [D.int IntKind.i64 (Prod.snd (List.getD (Rc.l s) i ([], (0 : Int))))]) (Mode.tok (1 : Nat) (Rc.v s))])] [((0 : Nat), Rc.u s), ((1 : Nat), Rc.v s)]) (fun (s : Rc)
      => D.ref (0 : Nat) (Rc.x s) (0 : Nat)) L (List.length L - (1 : Nat))))) (((0 : Nat), Rc.u (List.getD L (List.length L - (1 : Nat)) (Rc.mk (0 : Nat) (0 : Nat) (0 : Nat) []))) :: ((1 : Nat), Rc.v (List.getD L
      (List.length L - (1 : Nat)) (Rc.mk (0 : Nat) (0 : Nat) (0 : Nat) []))) :: List.append [] (St.toks (exG (fun (o : D) (s : Rc) => St.mk [((0 : Nat), Rc.x s, AObj.cells [o, D.sl (1 : Nat) (List.length (Rc.l s)) (fun
      (i : Nat) => [D.str (Prod.fst (List.getD (Rc.l s) i ([], (0 : Int))))]) (Mode.tok (0 : Nat) (Rc.u s)), D.sl (1 : Nat) (List.length (Rc.l s)) (fun (i : Nat) => [D.int IntKind.i64 (Prod.snd (List.getD (Rc.l s) i ([],
      (0 : Int))))]) (Mode.tok (1 : Nat) (Rc.v s))])] [((0 : Nat), Rc.u s), ((1 : Nat), Rc.v s)]) (fun (s : Rc) => D.ref (0 : Nat) (Rc.x s) (0 : Nat)) L (List.length L - (1 : Nat)))))))) ∧ ∀ (x : Unit), True → Rc.x
      (List.getD L (List.length L - (1 : Nat)) (Rc.mk (0 : Nat) (0 : Nat) (0 : Nat) [])) = Rc.x (List.getD L (List.length L - (1 : Nat)) (Rc.mk (0 : Nat) (0 : Nat) (0 : Nat) [])) ∧ True ∧ depthR (List.length L) (chG (fun
      (o : D) (s : Rc) => St.mk [((0 : Nat), Rc.x s, AObj.cells [o, D.sl (1 : Nat) (List.length (Rc.l s)) (fun (i : Nat) => [D.str (Prod.fst (List.getD (Rc.l s) i ([], (0 : Int))))]) (Mode.tok (0 : Nat) (Rc.u s)), D.sl
      (1 : Nat) (List.length (Rc.l s)) (fun (i : Nat) => [D.int IntKind.i64 (Prod.snd (List.getD (Rc.l s) i ([], (0 : Int))))]) (Mode.tok (1 : Nat) (Rc.v s))])] [((0 : Nat), Rc.u s), ((1 : Nat), Rc.v s)]) (fun (s : Rc)
      => D.ref (0 : Nat) (Rc.x s) (0 : Nat)) L) (AEnd.ret (D.int IntKind.i64 (↑(List.length L - (1 : Nat)) : Int))) (St.mk (((0 : Nat), Rc.x (List.getD L (List.length L - (1 : Nat)) (Rc.mk (0 : Nat) (0 : Nat) (0 : Nat)
      [])), AObj.cells [D.nilp, D.sl (1 : Nat) (List.length (Rc.l (List.getD L (List.length L - (1 : Nat)) (Rc.mk (0 : Nat) (0 : Nat) (0 : Nat) [])))) (fun (i : Nat) => [D.str (Prod.fst (List.getD (Rc.l (List.getD L
      (List.length L - (1 : Nat)) (Rc.mk (0 : Nat) (0 : Nat) (0 : Nat) []))) i ([], (0 : Int))))]) (Mode.tok (0 : Nat) (Rc.u (List.getD L (List.length L - (1 : Nat)) (Rc.mk (0 : Nat) (0 : Nat) (0 : Nat) [])))), D.sl (1 :
      Nat) (List.length (Rc.l (List.getD L (List.length L - (1 : Nat)) (Rc.mk (0 : Nat) (0 : Nat) (0 : Nat) [])))) (fun (i : Nat) => [D.int IntKind.i64 (Prod.snd (List.getD (Rc.l (List.getD L (List.length L - (1 : Nat))
      (Rc.mk (0 : Nat) (0 : Nat) (0 : Nat) []))) i ([], (0 : Int))))]) (Mode.tok (1 : Nat) (Rc.v (List.getD L (List.length L - (1 : Nat)) (Rc.mk (0 : Nat) (0 : Nat) (0 : Nat) []))))]) :: List.append [] (St.objs (exG (fun
      (o : D) (s : Rc) => St.mk [((0 : Nat), Rc.x s, AObj.cells [o, D.sl (1 : Nat) (List.length (Rc.l s)) (fun (i : Nat) => [D.str (Prod.fst (List.getD (Rc.l s) i ([], (0 : Int))))]) (Mode.tok (0 : Nat) (Rc.u s)), D.sl
      (1 : Nat) (List.length (Rc.l s)) (fun (i : Nat) => [D.int IntKind.i64 (Prod.snd (List.getD (Rc.l s) i ([], (0 : Int))))]) (Mode.tok (1 : Nat) (Rc.v s))])] [((0 : Nat), Rc.u s), ((1 : Nat), Rc.v s)]) (fun (s : Rc)
      => D.ref (0 : Nat) (Rc.x s) (0 : Nat)) L (List.length L - (1 : Nat))))) (((0 : Nat), Rc.u (List.getD L (List.length L - (1 : Nat)) (Rc.mk (0 : Nat) (0 : Nat) (0 : Nat) []))) :: ((1 : Nat), Rc.v (List.getD L
      (List.length L - (1 : Nat)) (Rc.mk (0 : Nat) (0 : Nat) (0 : Nat) []))) :: List.append [] (St.toks (exG (fun (o : D) (s : Rc) => St.mk [((0 : Nat), Rc.x s, AObj.cells [o, D.sl (1 : Nat) (List.length (Rc.l s)) (fun
      (i : Nat) => [D.str (Prod.fst (List.getD (Rc.l s) i ([], (0 : Int))))]) (Mode.tok (0 : Nat) (Rc.u s)), D.sl (1 : Nat) (List.length (Rc.l s)) (fun (i : Nat) => [D.int IntKind.i64 (Prod.snd (List.getD (Rc.l s) i ([],
      (0 : Int))))]) (Mode.tok (1 : Nat) (Rc.v s))])] [((0 : Nat), Rc.u s), ((1 : Nat), Rc.v s)]) (fun (s : Rc) => D.ref (0 : Nat) (Rc.x s) (0 : Nat)) L (List.length L - (1 : Nat))))))) (by kernel_rfl) ?_
  try simp only [side_and]
  try simp only [side_iff]
  have hd1 : ∀ i, i + 1 < L.length → hdG rRef (L.drop (i + 1)) = .ref 0 (L.getD (i + 1) default).x 0 := by
    intro i hi
    rw [List.drop_eq_getElem_cons hi]
    simp [hdG, List.getElem?_eq_getElem hi]
  have hd2 : hdG rRef (L.drop (L.length - 1 + 1)) = .nilp := by
    rw [List.drop_eq_nil_of_le (by omega)]; rfl
  have to1 : ∀ i, i + 1 < L.length → StTo (chG rSt rRef L) ((rSt (.ref 0 (L.getD (i + 1) default).x 0) (L.getD i default)).add (exG rSt rRef L i)) ∧ StTo ((rSt (.ref 0 (L.getD (i + 1) default).x 0) (L.getD i default)).add (exG rSt rRef L i)) (chG rSt rRef L) := by
    intro i hi
    rw [← hd1 i hi]; exact ch_to rSt rRef L i (by omega)
  have to2 : StTo (chG rSt rRef L) ((rSt .nilp (L.getD (L.length - 1) default)).add (exG rSt rRef L (L.length - 1))) ∧ StTo ((rSt .nilp (L.getD (L.length - 1) default)).add (exG rSt rRef L (L.length - 1))) (chG rSt rRef L) := by
    rw [← hd2]; exact ch_to rSt rRef L _ (by omega)
  refine ⟨?_, ?_, ?_⟩
  · by_cases h1 : 1 < L.length
    · exact .inl ⟨0, h1, trivial, ⟨rfl, rfl, trivial⟩, (to1 0 h1).1⟩
    · have e : L.length - 1 = 0 := by omega
      refine .inr ⟨(), trivial, trivial, ⟨by rw [e], by rw [e]; rfl, trivial⟩, to2.1⟩
  · intro i hi
    refine ⟨trivial, trivial, trivial, ?_⟩
    have hw : IntKind.wrap .i64 ((i : Int) + 1) = ((i + 1 : Nat) : Int) := by rw [IntKind.wrap_i64] <;> omega
    by_cases hn : i + 1 + 1 < L.length
    · exact .inl ⟨i + 1, hn, by omega, ⟨rfl, hw, trivial⟩, (to1 i hi).2.trans (to1 (i + 1) hn).1⟩
    · have e : L.length - 1 = i + 1 := by omega
      exact .inr ⟨(), trivial, by omega, ⟨by rw [e], by rw [e]; exact hw, trivial⟩, (to1 i hi).2.trans to2.1⟩
  · intro _ _
    exact ⟨trivial, trivial, rfl, to2.2⟩
end Go.Proofs.Ytkmgikcdlbibdaa
