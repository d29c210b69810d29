/- Functions of the given program and what each of them computes: lemmas towards the statement, their conditions stated with each of them. -/
import Derived.Test.YtpgepjefbhgblaaDoorP3
namespace Go.Proofs.YtpgepjefbhgblaaDoor
open Go Go.Ab
set_option maxRecDepth 100000
def valD (l : List UInt8) : Nat := l.foldl (fun v b => v * 10 + (b.toNat - 48)) 0
def digB (b : UInt8) : Bool := decide (48 ≤ b.toNat) && decide (b.toNat ≤ 57)
theorem dig_of {k : Nat} (h : k < 10) : (UInt8.ofNat (48 + k)).toNat = 48 + k := by
  rw [UInt8.toNat_ofNat']; omega
theorem decD_all (u : Nat) : (∀ b ∈ Lib.decDigits u, digB b = true) ∧ valD (Lib.decDigits u) = u ∧ Lib.decDigits u ≠ [] := by
  induction u using Nat.strongRecOn with
  | _ u ih =>
    rw [Lib.decDigits]
    by_cases h : u < 10
    · rw [dif_pos h]
      refine ⟨fun b hb => ?_, ?_, by simp⟩
      · rw [List.mem_singleton.1 hb, digB, dig_of h]
        simp only [Bool.and_eq_true, decide_eq_true_eq]; omega
      · simp only [valD, List.foldl_cons, List.foldl_nil, dig_of h]; omega
    · rw [dif_neg h]
      obtain ⟨h1, h2, h3⟩ := ih (u / 10) (by omega)
      have hm : u % 10 < 10 := by omega
      refine ⟨fun b hb => ?_, ?_, by simp⟩
      · rcases List.mem_append.1 hb with hb | hb
        · exact h1 b hb
        · rw [List.mem_singleton.1 hb, digB, dig_of hm]
          simp only [Bool.and_eq_true, decide_eq_true_eq]; omega
      · unfold valD at h2 ⊢
        rw [List.foldl_append, h2]
        simp only [List.foldl_cons, List.foldl_nil, dig_of hm]; omega
theorem decD_inj {u v : Nat} (h : Lib.decDigits u = Lib.decDigits v) : u = v := by
  rw [← (decD_all u).2.1, ← (decD_all v).2.1, h]
def headNot (p : UInt8 → Bool) (r : List UInt8) : Prop := ∀ b t, r = b :: t → p b = false
theorem span_eq {p : UInt8 → Bool} : ∀ {l m r r' : List UInt8}, (∀ b ∈ l, p b = true) → (∀ b ∈ m, p b = true) → headNot p r → headNot p r' → l ++ r = m ++ r' → l = m ∧ r = r'
  | [], [], _, _, _, _, _, _, h => ⟨rfl, h⟩
  | [], y :: m, r, _, _, hm, hr, _, h => by
    have := hr y _ h
    rw [hm y List.mem_cons_self] at this; cases this
  | x :: l, [], _, r', hl, _, _, hr', h => by
    have := hr' x _ h.symm
    rw [hl x List.mem_cons_self] at this; cases this
  | x :: l, y :: m, r, r', hl, hm, hr, hr', h => by
    simp only [List.cons_append, List.cons.injEq] at h
    obtain ⟨e, h⟩ := h
    obtain ⟨e1, e2⟩ := span_eq (fun b hb => hl b (List.mem_cons_of_mem _ hb)) (fun b hb => hm b (List.mem_cons_of_mem _ hb)) hr hr' h
    exact ⟨by rw [e, e1], e2⟩
def numB1 (b : UInt8) : Bool := digB b || b == 95
theorem showI_head (z : Int) : ∃ b t, showI z = b :: t ∧ numB1 b = true := by
  unfold showI
  split
  · exact ⟨95, _, rfl, rfl⟩
  · obtain ⟨h1, _, h3⟩ := decD_all z.toNat
    cases hd : Lib.decDigits z.toNat with
    | nil => exact (h3 hd).elim
    | cons b t => exact ⟨b, t, rfl, by rw [numB1, h1 b (by rw [hd]; exact List.mem_cons_self)]; rfl⟩
theorem showI_read {x y : Int} {r r' : List UInt8} (hr : headNot digB r) (hr' : headNot digB r') (h : showI x ++ r = showI y ++ r') : x = y ∧ r = r' := by
  have key : ∀ {u v : Nat}, Lib.decDigits u ++ r = Lib.decDigits v ++ r' → u = v ∧ r = r' := fun {u v} h => by
    obtain ⟨e1, e2⟩ := span_eq (decD_all u).1 (decD_all v).1 hr hr' h
    exact ⟨decD_inj e1, e2⟩
  have bad : ∀ {u v : Nat} {s s' : List UInt8}, 95 :: (Lib.decDigits u ++ s) ≠ Lib.decDigits v ++ s' := fun {u v s s'} h => by
    obtain ⟨h1, _, h3⟩ := decD_all v
    cases hd : Lib.decDigits v with
    | nil => exact h3 hd
    | cons b t =>
      rw [hd] at h h1
      simp only [List.cons_append, List.cons.injEq] at h
      have := h1 b List.mem_cons_self
      rw [← h.1] at this
      exact absurd this (by decide)
  unfold showI at h
  split at h <;> split at h
  · simp only [List.cons_append, List.cons.injEq, true_and] at h
    obtain ⟨e1, e2⟩ := key h
    exact ⟨by omega, e2⟩
  · exact (bad (by simpa using h)).elim
  · exact (bad (by simpa using h.symm)).elim
  · obtain ⟨e1, e2⟩ := key h
    exact ⟨by omega, e2⟩
def Fol2 (r : List UInt8) : Prop := r = [] ∨ (∃ t, r = 41 :: t) ∨ ∃ t, r = 32 :: 114 :: t
theorem tail_head {l : List Int} {r : List UInt8} (hr : Fol2 r) : headNot digB (jT [32] (l.map showI) ++ r) := by
  intro b t h
  cases l with
  | nil =>
    simp only [List.map_nil, jT, List.flatMap_nil, List.nil_append] at h
    rcases hr with rfl | ⟨t, rfl⟩ | ⟨t, rfl⟩
    · cases h
    · injection h with h; rw [← h]; rfl
    · injection h with h; rw [← h]; rfl
  | cons x l =>
    simp only [List.map_cons, jT, List.flatMap_cons, List.cons_append, List.cons.injEq] at h
    rw [← h.1]; rfl
theorem tail_read : ∀ {l m : List Int} {r r' : List UInt8}, Fol2 r → Fol2 r' → jT [32] (l.map showI) ++ r = jT [32] (m.map showI) ++ r' → l = m ∧ r = r'
  | [], [], _, _, _, _, h => ⟨rfl, by simpa [jT] using h⟩
  | [], y :: m, r, r', hr, _, h => by
    exfalso
    simp only [List.map_nil, List.map_cons, jT, List.flatMap_nil, List.flatMap_cons, List.nil_append, List.cons_append] at h
    obtain ⟨b, t, e, hb⟩ := showI_head y
    rw [e] at h
    rcases hr with rfl | ⟨t, rfl⟩ | ⟨t, rfl⟩
    · cases h
    · injection h with h _; exact absurd h (by decide)
    · injection h with _ h
      injection h with h _
      rw [← h] at hb
      exact absurd hb (by decide)
  | x :: l, [], r, r', _, hr', h => by
    exfalso
    simp only [List.map_nil, List.map_cons, jT, List.flatMap_nil, List.flatMap_cons, List.nil_append, List.cons_append] at h
    obtain ⟨b, t, e, hb⟩ := showI_head x
    rw [e] at h
    rcases hr' with rfl | ⟨t, rfl⟩ | ⟨t, rfl⟩
    · cases h
    · injection h with h _; exact absurd h (by decide)
    · injection h with _ h
      injection h with h _
      rw [h] at hb
      exact absurd hb (by decide)
  | x :: l, y :: m, r, r', hr, hr', h => by
    have h : showI x ++ (jT [32] (l.map showI) ++ r) = showI y ++ (jT [32] (m.map showI) ++ r') := by
      simpa [jT] using h
    obtain ⟨e1, e2⟩ := showI_read (tail_head hr) (tail_head hr') h
    obtain ⟨e3, e4⟩ := tail_read hr hr' e2
    exact ⟨by rw [e1, e3], e4⟩
theorem nums_read {l m : List Int} {r r' : List UInt8} (hl : l ≠ []) (hm : m ≠ []) (hr : Fol2 r) (hr' : Fol2 r') (h : Lib.join (l.map showI) [32] ++ r = Lib.join (m.map showI) [32] ++ r') : l = m ∧ r = r' := by
  cases l with
  | nil => exact (hl rfl).elim
  | cons x l =>
    cases m with
    | nil => exact (hm rfl).elim
    | cons y m =>
      rw [List.map_cons, List.map_cons, join_cons, join_cons, List.append_assoc, List.append_assoc] at h
      obtain ⟨e1, e2⟩ := showI_read (tail_head hr) (tail_head hr') h
      obtain ⟨e3, e4⟩ := tail_read hr hr' e2
      exact ⟨by rw [e1, e3], e4⟩
theorem nums_head {l : List Int} (hl : l ≠ []) : ∃ b t, Lib.join (l.map showI) [32] = b :: t ∧ numB1 b = true := by
  cases l with
  | nil => exact (hl rfl).elim
  | cons x l =>
    rw [List.map_cons, join_cons]
    obtain ⟨b, t, e, hb⟩ := showI_head x
    exact ⟨b, t ++ _, by rw [e]; rfl, hb⟩
end Go.Proofs.YtpgepjefbhgblaaDoor
namespace Go.Proofs.YtpgepjefbhgblaaDoor
open Go Go.Ab
set_option maxRecDepth 100000
def decU : List UInt8 → Nat
  | [] => 0
  | b :: t => if b.toNat < 128 then b.toNat
    else if b.toNat < 224 then (b.toNat - 192) * 64 + ((t.getD 0 0).toNat - 128)
    else if b.toNat < 240 then (b.toNat - 224) * 4096 + ((t.getD 0 0).toNat - 128) * 64 + ((t.getD 1 0).toNat - 128)
    else (b.toNat - 240) * 262144 + ((t.getD 0 0).toNat - 128) * 4096 + ((t.getD 1 0).toNat - 128) * 64 + ((t.getD 2 0).toNat - 128)
theorem chr_nat {c : Int} (h : chrB c = true) : ∃ n : Nat, c = n ∧ n ≤ 1114111 ∧ (n < 55296 ∨ 57343 < n) := by
  simp only [chrB, Bool.and_eq_true, Bool.or_eq_true, decide_eq_true_eq] at h
  exact ⟨c.toNat, by omega, by omega, by omega⟩
def utf8N (c : Nat) : List UInt8 :=
  if c < 0x80 then [UInt8.ofNat c]
  else if c < 0x800 then [UInt8.ofNat (0xC0 + c / 64), UInt8.ofNat (0x80 + c % 64)]
  else if c < 0x10000 then [UInt8.ofNat (0xE0 + c / 4096), UInt8.ofNat (0x80 + c / 64 % 64), UInt8.ofNat (0x80 + c % 64)]
  else [UInt8.ofNat (0xF0 + c / 262144), UInt8.ofNat (0x80 + c / 4096 % 64), UInt8.ofNat (0x80 + c / 64 % 64), UInt8.ofNat (0x80 + c % 64)]
theorem utf8_eq {n : Nat} (h1 : n ≤ 1114111) (h2 : n < 55296 ∨ 57343 < n) : utf8 (n : Int) = utf8N n := by
  have hv : Utf8.valid (n : Int) = true := by
    simp only [Utf8.valid, Bool.or_eq_true, Bool.and_eq_true, decide_eq_true_eq]
    omega
  have key : ∀ c : Nat, ((if c < 0x80 then ⟨#[UInt8.ofNat c]⟩
      else if c < 0x800 then ⟨#[UInt8.ofNat (0xC0 + c / 64), UInt8.ofNat (0x80 + c % 64)]⟩
      else if c < 0x10000 then ⟨#[UInt8.ofNat (0xE0 + c / 4096), UInt8.ofNat (0x80 + c / 64 % 64), UInt8.ofNat (0x80 + c % 64)]⟩
      else ⟨#[UInt8.ofNat (0xF0 + c / 262144), UInt8.ofNat (0x80 + c / 4096 % 64), UInt8.ofNat (0x80 + c / 64 % 64), UInt8.ofNat (0x80 + c % 64)]⟩ : ByteArray).data.toList) = utf8N c := fun c => by
    unfold utf8N
    (repeat' split) <;> rfl
  unfold utf8 Utf8.encode
  rw [if_pos hv, Int.toNat_natCast]
  exact key n
theorem b8 {k : Nat} (h : k < 256) : (UInt8.ofNat k).toNat = k := by rw [UInt8.toNat_ofNat']; omega
theorem decU_N {n : Nat} (h1 : n ≤ 1114111) (r : List UInt8) : decU (utf8N n ++ r) = n := by
  unfold utf8N
  split
  · simp only [List.cons_append, List.nil_append, decU, b8 (show n < 256 by omega)]
    rw [if_pos (by omega)]
  split
  · simp only [List.cons_append, List.nil_append, decU, List.getD_cons_zero, b8 (show 0xC0 + n / 64 < 256 by omega), b8 (show 0x80 + n % 64 < 256 by omega)]
    rw [if_neg (by omega), if_pos (by omega)]; omega
  split
  · simp only [List.cons_append, List.nil_append, decU, List.getD_cons_zero, List.getD_cons_succ, b8 (show 0xE0 + n / 4096 < 256 by omega), b8 (show 0x80 + n / 64 % 64 < 256 by omega), b8 (show 0x80 + n % 64 < 256 by omega)]
    rw [if_neg (by omega), if_neg (by omega), if_pos (by omega)]; omega
  · simp only [List.cons_append, List.nil_append, decU, List.getD_cons_zero, List.getD_cons_succ, b8 (show 0xF0 + n / 262144 < 256 by omega), b8 (show 0x80 + n / 4096 % 64 < 256 by omega), b8 (show 0x80 + n / 64 % 64 < 256 by omega), b8 (show 0x80 + n % 64 < 256 by omega)]
    rw [if_neg (by omega), if_neg (by omega), if_neg (by omega)]; omega
theorem utf8N_head {n : Nat} (h1 : n ≤ 1114111) : ∃ b t, utf8N n = b :: t ∧ ((n < 128 ∧ b.toNat = n ∧ t = []) ∨ (128 ≤ n ∧ 192 ≤ b.toNat)) := by
  unfold utf8N
  split
  · exact ⟨_, _, rfl, .inl ⟨by omega, b8 (by omega), rfl⟩⟩
  split
  · exact ⟨_, _, rfl, .inr ⟨by omega, by rw [b8 (by omega)]; omega⟩⟩
  split
  · exact ⟨_, _, rfl, .inr ⟨by omega, by rw [b8 (by omega)]; omega⟩⟩
  · exact ⟨_, _, rfl, .inr ⟨by omega, by rw [b8 (by omega)]; omega⟩⟩
def hxD (b : UInt8) : Nat := if b.toNat < 58 then b.toNat - 48 else b.toNat - 87
theorem hxD_dig : ∀ k : Fin 16, hxD (digU k.1) = k.1 ∧ digU k.1 ≠ 125 := by decide
def hexR (u : List UInt8) : Nat := if u.getD 2 0 = 125 then hxD (u.getD 1 0) else hxD (u.getD 1 0) * 16 + hxD (u.getD 2 0)
def dE : List UInt8 → Nat
  | [] => 0
  | b :: t => if b = 92 then (if t.getD 0 0 = 110 then 10 else if t.getD 0 0 = 116 then 9 else if t.getD 0 0 = 114 then 13 else if t.getD 0 0 = 117 then hexR (t.drop 1) else (t.getD 0 0).toNat) else decU (b :: t)
theorem dE_esc {c q : Int} (hq : q = 34 ∨ q = 39) (hc : chrB c = true) (r : List UInt8) : (dE (escB c q ++ r) : Int) = c := by
  obtain ⟨n, rfl, h1, h2⟩ := chr_nat hc
  unfold escB
  by_cases e1 : (n : Int) = 10
  · rw [if_pos e1, e1]; rfl
  by_cases e2 : (n : Int) = 9
  · rw [if_neg e1, if_pos e2, e2]; rfl
  by_cases e3 : (n : Int) = 13
  · rw [if_neg e1, if_neg e2, if_pos e3, e3]; rfl
  rw [if_neg e1, if_neg e2, if_neg e3]
  by_cases e4 : (n : Int) = 92 ∨ (n : Int) = q
  · rw [if_pos e4]
    have : n = 92 ∨ n = 34 ∨ n = 39 := by omega
    rcases this with rfl | rfl | rfl <;> rfl
  rw [if_neg e4]
  by_cases e5 : (n : Int) < 32 ∨ (n : Int) = 127
  · rw [if_pos e5, Int.toNat_natCast]
    unfold hexN
    by_cases h16 : n < 16
    · obtain ⟨k1, k2⟩ := hxD_dig ⟨n, h16⟩
      simp only at k1
      rw [if_pos h16]
      simp [dE, hexR, k1]
    · obtain ⟨k1, _⟩ := hxD_dig ⟨n / 16, by omega⟩
      obtain ⟨k3, k4⟩ := hxD_dig ⟨n % 16, by omega⟩
      simp only at k1 k3 k4
      rw [if_neg h16]
      simp [dE, hexR, k1, k3, k4]
      omega
  · rw [if_neg e5, utf8_eq h1 h2]
    obtain ⟨b, t, e, hb⟩ := utf8N_head h1
    have hd := decU_N h1 r
    rw [e] at hd ⊢
    have hne : ¬ b = 92 := fun h => by
      subst h
      rcases hb with ⟨_, hb, _⟩ | ⟨_, hb⟩
      · have : n = 92 := hb.symm
        omega
      · exact absurd hb (by decide)
    simp only [List.cons_append, dE, if_neg hne] at hd ⊢
    rw [hd]
theorem esc_head {c q : Int} (hq : q = 34 ∨ q = 39) (hc : chrB c = true) : ∃ b t, escB c q = b :: t ∧ (b.toNat : Int) ≠ q := by
  obtain ⟨n, rfl, h1, h2⟩ := chr_nat hc
  unfold escB
  (repeat' split)
  · exact ⟨_, _, rfl, by rcases hq with rfl | rfl <;> decide⟩
  · exact ⟨_, _, rfl, by rcases hq with rfl | rfl <;> decide⟩
  · exact ⟨_, _, rfl, by rcases hq with rfl | rfl <;> decide⟩
  · exact ⟨_, _, rfl, by rcases hq with rfl | rfl <;> decide⟩
  · exact ⟨_, _, rfl, by rcases hq with rfl | rfl <;> decide⟩
  · rename_i e4 e5
    rw [utf8_eq h1 h2]
    obtain ⟨b, t, e, hb⟩ := utf8N_head h1
    refine ⟨b, t, e, ?_⟩
    rcases hb with ⟨_, hb, _⟩ | ⟨_, hb⟩ <;> omega
theorem esc_read {c d q : Int} (hq : q = 34 ∨ q = 39) (hc : chrB c = true) (hd : chrB d = true) {r r' : List UInt8} (h : escB c q ++ r = escB d q ++ r') : c = d ∧ r = r' := by
  have h1 := dE_esc hq hc r
  have h2 := dE_esc hq hd r'
  rw [h] at h1
  have e : c = d := by omega
  subst e
  exact ⟨rfl, List.append_cancel_left h⟩
theorem escL_read {q : Int} (hq : q = 34 ∨ q = 39) {qb : UInt8} (hb : (qb.toNat : Int) = q) : ∀ {l m : List Int} {r r' : List UInt8}, (∀ c ∈ l, chrB c = true) → (∀ c ∈ m, chrB c = true) → escL q l ++ qb :: r = escL q m ++ qb :: r' → l = m ∧ r = r'
  | [], [], _, _, _, _, h => by
    simp only [escL, List.flatMap_nil, List.nil_append, List.cons.injEq, true_and] at h
    exact ⟨rfl, h⟩
  | [], y :: m, r, r', _, hm, h => by
    obtain ⟨b, t, e, hn⟩ := esc_head hq (hm y List.mem_cons_self)
    simp only [escL, List.flatMap_nil, List.flatMap_cons, List.nil_append, e, List.cons_append, List.cons.injEq] at h
    rw [← h.1] at hn
    exact (hn hb).elim
  | x :: l, [], r, r', hl, _, h => by
    obtain ⟨b, t, e, hn⟩ := esc_head hq (hl x List.mem_cons_self)
    simp only [escL, List.flatMap_nil, List.flatMap_cons, List.nil_append, e, List.cons_append, List.cons.injEq] at h
    rw [h.1] at hn
    exact (hn hb).elim
  | x :: l, y :: m, r, r', hl, hm, h => by
    have h : escB x q ++ (escL q l ++ qb :: r) = escB y q ++ (escL q m ++ qb :: r') := by
      simpa [escL] using h
    obtain ⟨e1, e2⟩ := esc_read hq (hl x List.mem_cons_self) (hm y List.mem_cons_self) h
    obtain ⟨e3, e4⟩ := escL_read hq hb (fun c hc => hl c (List.mem_cons_of_mem _ hc)) (fun c hc => hm c (List.mem_cons_of_mem _ hc)) e2
    exact ⟨by rw [e1, e3], e4⟩
theorem quo34 (l : List Int) : quoB 34 l = 34 :: (escL 34 l ++ [34]) := rfl
theorem quo39 (l : List Int) : quoB 39 l = 39 :: (escL 39 l ++ [39]) := rfl
end Go.Proofs.YtpgepjefbhgblaaDoor
namespace Go.Proofs.YtpgepjefbhgblaaDoor
open Go Go.Ab
set_option maxRecDepth 100000
inductive El where
  | ints (l : List Int)
  | chr (c : Int)
  | str (l : List Int)
  | bx (x : Arr)
  | bxs (l : List Arr)
def El.txt : El → List UInt8
  | .ints l => Lib.join (l.map showI) [32]
  | .chr c => quoB 39 [c]
  | .str l => quoB 34 l
  | .bx x => boxW ++ litA x
  | .bxs l => Lib.join (l.map fun x => itemB (litA x)) [32]
def V (a : Arr) : Prop := a.ok ∧ (chkA a).1 = 0
def Fol (r : List UInt8) : Prop := r = [] ∨ ∃ t, r = 41 :: t
theorem Fol.two {r : List UInt8} (h : Fol r) : Fol2 r := h.elim .inl fun h => .inr (.inl h)
def PA (x : Arr) : Prop := ∀ y, V y → ∀ r r', Fol r → Fol r' → litA x ++ r = litA y ++ r' → x = y ∧ r = r'
def ElP : El → Prop
  | .ints l => l ≠ []
  | .chr c => chrB c = true
  | .str l => ∀ c ∈ l, chrB c = true
  | .bx x => PA x
  | .bxs l => l ≠ [] ∧ ∀ x ∈ l, PA x
def ElV : El → Prop
  | .ints l => l ≠ []
  | .chr c => chrB c = true
  | .str l => ∀ c ∈ l, chrB c = true
  | .bx x => V x
  | .bxs l => l ≠ [] ∧ ∀ x ∈ l, V x
def cls (b : UInt8) : Nat := if numB1 b then 0 else if b = 39 then 1 else if b = 34 then 2 else if b = 98 then 3 else 4
def El.tag : El → Nat
  | .ints _ => 0
  | .chr _ => 1
  | .str _ => 2
  | .bx _ => 3
  | .bxs _ => 4
theorem el_head {e : El} (h : ∀ l, e = .ints l → l ≠ []) (h2 : ∀ l, e = .bxs l → l ≠ []) : ∃ b t, e.txt = b :: t ∧ cls b = e.tag := by
  cases e with
  | ints l =>
    obtain ⟨b, t, e, hb⟩ := nums_head (h l rfl)
    exact ⟨b, t, e, by rw [cls, if_pos hb]; rfl⟩
  | chr c => exact ⟨_, _, quo39 [c], rfl⟩
  | str l => exact ⟨_, _, quo34 l, rfl⟩
  | bx x => exact ⟨_, _, rfl, rfl⟩
  | bxs l =>
    cases l with
    | nil => exact (h2 [] rfl rfl).elim
    | cons x l =>
      simp only [El.txt, List.map_cons, join_cons]
      exact ⟨_, _, rfl, rfl⟩
theorem ElP.head {e : El} (h : ElP e) : ∃ b t, e.txt = b :: t ∧ cls b = e.tag :=
  el_head (fun l he => by subst he; exact h) (fun l he => by subst he; exact h.1)
theorem ElV.head {e : El} (h : ElV e) : ∃ b t, e.txt = b :: t ∧ cls b = e.tag :=
  el_head (fun l he => by subst he; exact h) (fun l he => by subst he; exact h.1)
theorem fol41 (t : List UInt8) : Fol (41 :: t) := .inr ⟨t, rfl⟩
theorem item_read {x y : Arr} (hx : PA x) (hy : V y) {r r' : List UInt8} (h : itemB (litA x) ++ r = itemB (litA y) ++ r') : x = y ∧ r = r' := by
  have h : litA x ++ (41 :: r) = litA y ++ (41 :: r') := by
    simpa [itemB, boxW] using h
  obtain ⟨e1, e2⟩ := hx y hy _ _ (fol41 r) (fol41 r') h
  injection e2 with _ e2
  exact ⟨e1, e2⟩
theorem items_read : ∀ {l m : List Arr} {r r' : List UInt8}, (∀ x ∈ l, PA x) → (∀ x ∈ m, V x) → Fol r → Fol r' → jT [32] (l.map fun x => itemB (litA x)) ++ r = jT [32] (m.map fun x => itemB (litA x)) ++ r' → l = m ∧ r = r'
  | [], [], _, _, _, _, _, _, h => ⟨rfl, by simpa [jT] using h⟩
  | [], y :: m, r, r', _, _, hr, _, h => by
    exfalso
    simp only [List.map_nil, List.map_cons, jT, List.flatMap_nil, List.flatMap_cons, List.nil_append, List.cons_append] at h
    rcases hr with rfl | ⟨t, rfl⟩
    · cases h
    · injection h with h _; exact absurd h (by decide)
  | x :: l, [], r, r', _, _, _, hr', h => by
    exfalso
    simp only [List.map_nil, List.map_cons, jT, List.flatMap_nil, List.flatMap_cons, List.nil_append, List.cons_append] at h
    rcases hr' with rfl | ⟨t, rfl⟩
    · cases h
    · injection h with h _; exact absurd h (by decide)
  | x :: l, y :: m, r, r', hl, hm, hr, hr', h => by
    have h : itemB (litA x) ++ (jT [32] (l.map fun x => itemB (litA x)) ++ r) = itemB (litA y) ++ (jT [32] (m.map fun x => itemB (litA x)) ++ r') := by
      simpa [jT] using h
    obtain ⟨e1, e2⟩ := item_read (hl x List.mem_cons_self) (hm y List.mem_cons_self) h
    obtain ⟨e3, e4⟩ := items_read (fun c hc => hl c (List.mem_cons_of_mem _ hc)) (fun c hc => hm c (List.mem_cons_of_mem _ hc)) hr hr' e2
    exact ⟨by rw [e1, e3], e4⟩
theorem el_read {e f : El} (he : ElP e) (hf : ElV f) {r r' : List UInt8} (hr : Fol r) (hr' : Fol r') (h : e.txt ++ r = f.txt ++ r') : e = f ∧ r = r' := by
  have ht : e.tag = f.tag := by
    obtain ⟨b, t, e1, e2⟩ := he.head
    obtain ⟨c, u, f1, f2⟩ := hf.head
    rw [e1, f1] at h
    injection h with h _
    rw [← e2, ← f2, h]
  cases e <;> cases f <;> simp only [El.tag] at ht <;> try (exact absurd ht (by decide))
  · obtain ⟨e1, e2⟩ := nums_read he hf hr.two hr'.two h
    exact ⟨by rw [e1], e2⟩
  · rename_i c d
    simp only [El.txt, quo39, List.cons_append, List.append_assoc, List.cons.injEq, true_and, List.nil_append] at h
    obtain ⟨e1, e2⟩ := escL_read (.inr rfl) (by decide) (fun x hx => by rw [List.mem_singleton.1 hx]; exact he) (fun x hx => by rw [List.mem_singleton.1 hx]; exact hf) h
    injection e1 with e1
    exact ⟨by rw [e1], e2⟩
  · simp only [El.txt, quo34, List.cons_append, List.append_assoc, List.cons.injEq, true_and, List.nil_append] at h
    obtain ⟨e1, e2⟩ := escL_read (.inl rfl) (by decide) he hf h
    exact ⟨by rw [e1], e2⟩
  · rename_i x y
    simp only [El.txt, List.append_assoc] at h
    obtain ⟨e1, e2⟩ := he y hf _ _ hr hr' (List.append_cancel_left h)
    exact ⟨by rw [e1], e2⟩
  · rename_i l m
    obtain ⟨h1, h2⟩ := he
    obtain ⟨h3, h4⟩ := hf
    cases l with
    | nil => exact (h1 rfl).elim
    | cons x l =>
      cases m with
      | nil => exact (h3 rfl).elim
      | cons y m =>
        simp only [El.txt, List.map_cons, join_cons, List.append_assoc] at h
        obtain ⟨e1, e2⟩ := item_read (h2 x List.mem_cons_self) (h4 y List.mem_cons_self) h
        obtain ⟨e3, e4⟩ := items_read (fun c hc => h2 c (List.mem_cons_of_mem _ hc)) (fun c hc => h4 c (List.mem_cons_of_mem _ hc)) hr hr' e2
        exact ⟨by rw [e1, e3], e4⟩
def szA (a : Arr) : Nat := a.nu.length + a.it.length
def e0 : Arr := .mk 1 [0] [] []
def elS (a : Arr) : El := if a.k = 1 then .ints [a.nu.getD 0 0] else if a.k = 2 then .chr (a.nu.getD 0 0) else .bx (a.it.getD 0 default)
def elV (a : Arr) : El := if a.k = 1 then .ints a.nu else if a.k = 2 then .str a.nu else .bxs a.it
def elF (k : Int) : El := if k = 1 then .ints [0] else if k = 2 then .chr 32 else .bx e0
def flat1 (a : Arr) : Prop := a.sh.length = 1 ∧ (a.k = 2 ∨ 1 < szA a)
def pfx (a : Arr) : Prop := a.sh.length ≠ 0 ∧ ¬ flat1 a
def elK (a : Arr) : El := if a.sh.length = 0 then elS a else if a.sh.length = 1 ∧ (a.k = 2 ∨ 1 < szA a) then elV a else if szA a = 0 then elF a.k else if szA a = 1 then elS a else elV a
structure AOk (a : Arr) : Prop where
  kd : a.k = 1 ∨ a.k = 2 ∨ a.k = 3
  no : a.k ≠ 3 → a.it = []
  bx : a.k = 3 → a.nu = []
  sc : a.sh.length = 0 → szA a = 1
  chr : a.k = 2 → ∀ c ∈ a.nu, chrB c = true
  one : a.sh.length = 1 → a.sh = [(szA a : Int)]
theorem aok {a : Arr} (h : V a) : AOk a := by
  obtain ⟨ho, hv⟩ := h
  have lo := lok_of ho hv
  obtain ⟨hr, hs, hp⟩ := shape_ok hv
  refine ⟨lo.kd, lo.no, lo.bx, lo.sc, fun h2 c hc => ?_, fun h1 => ?_⟩
  · cases a with
    | mk k s n is =>
      have h2 : k = 2 := h2
      subst h2
      rw [chkA] at hv
      by_cases h0 : formS 2 s n.length is.length ≠ 0
      · rw [if_pos h0] at hv; exact (h0 hv).elim
      · rw [if_neg h0] at hv
        by_cases hb : n.any (badK 2) = true
        · rw [if_pos hb] at hv; simp at hv
        · have hb : ¬ badK 2 c = true := fun h => hb (List.any_eq_true.2 ⟨c, hc, h⟩)
          simpa [badK] using hb
  · have := one_dim lo hv h1
    have hm := hp _ (memI (l := a.sh) (i := 0) (by omega))
    obtain ⟨x, hx⟩ := List.length_eq_one_iff.1 h1
    rw [hx] at this hm ⊢
    simp only [List.getD_cons_zero] at this hm
    congr 1
    unfold szA
    omega
theorem len_map (a : Arr) : a.nu.length + (a.it.map litA).length = szA a := by rw [List.length_map]; rfl
theorem scal_txt {a : Arr} (h : AOk a) (h1 : szA a = 1) : scalK a.k a.nu (a.it.map litA) = (elS a).txt := by
  unfold scalK elS
  by_cases k1 : a.k = 1
  · rw [if_pos k1, if_pos k1]; simp [El.txt, join_one]
  · rw [if_neg k1, if_neg k1]
    by_cases k2 : a.k = 2
    · rw [if_pos k2, if_pos k2]; rfl
    · rw [if_neg k2, if_neg k2]
      have hn := h.bx (by have := h.kd; omega)
      have hl : 0 < a.it.length := by unfold szA at h1; rw [hn] at h1; simp at h1; omega
      have : (a.it.map litA).getD 0 [] = litA (a.it.getD 0 default) := by
        simp [List.getD_eq_getElem?_getD, List.getElem?_map, List.getElem?_eq_getElem hl]
      rw [this]; rfl
theorem vec_txt {a : Arr} (h : AOk a) : vecK a.k a.nu (a.it.map litA) = (elV a).txt := by
  unfold vecK elV
  by_cases k1 : a.k = 1
  · rw [if_neg (by omega), if_pos k1, h.no (by omega)]; simp [El.txt]
  · by_cases k2 : a.k = 2
    · rw [if_pos k2, if_neg k1, if_pos k2]; rfl
    · rw [if_neg k2, if_neg k1, if_neg k2, h.bx (by have := h.kd; omega)]
      simp [El.txt, Function.comp_def]
theorem fill_txt (k : Int) : fillL k = (elF k).txt := by
  unfold fillL elF
  by_cases k1 : k = 1
  · rw [if_pos k1, if_pos k1]; simp [El.txt, join_one]
  · rw [if_neg k1, if_neg k1]
    by_cases k2 : k = 2
    · rw [if_pos k2, if_pos k2]; rfl
    · rw [if_neg k2, if_neg k2]
      rfl
theorem lit_split {a : Arr} (h : AOk a) : (pfx a → litA a = dimsB a.sh ++ (reshW ++ (elK a).txt)) ∧ (¬ pfx a → litA a = (elK a).txt) := by
  rw [litA_eq, litK, len_map]
  unfold elK pfx flat1
  by_cases h0 : a.sh.length = 0
  · simp only [h0, if_true, ne_eq, not_true, false_and, false_implies, not_false_eq_true, true_implies, true_and]
    exact scal_txt h (h.sc h0)
  · rw [if_neg h0, if_neg h0]
    by_cases hf : a.sh.length = 1 ∧ (a.k = 2 ∨ 1 < szA a)
    · rw [if_pos hf, if_pos hf]
      exact ⟨fun hp => absurd hf hp.2, fun _ => vec_txt h⟩
    · rw [if_neg hf, if_neg hf]
      refine ⟨fun _ => ?_, fun hp => absurd ⟨h0, hf⟩ hp⟩
      rw [List.append_assoc]
      congr 2
      by_cases z0 : szA a = 0
      · rw [if_pos z0, if_pos z0]; exact fill_txt a.k
      · rw [if_neg z0, if_neg z0]
        by_cases z1 : szA a = 1
        · rw [if_pos z1, if_pos z1]; exact scal_txt h z1
        · rw [if_neg z1, if_neg z1]; exact vec_txt h
end Go.Proofs.YtpgepjefbhgblaaDoor
namespace Go.Proofs.YtpgepjefbhgblaaDoor
open Go Go.Ab
set_option maxRecDepth 100000
def El.kd : El → Int
  | .ints _ => 1
  | .chr _ => 2
  | .str _ => 2
  | .bx _ => 3
  | .bxs _ => 3
theorem elS_kd {a : Arr} (h : AOk a) : (elS a).kd = a.k := by
  have := h.kd
  unfold elS
  split
  · rename_i h1; rw [h1]; rfl
  split
  · rename_i h1; rw [h1]; rfl
  · have : a.k = 3 := by omega
    rw [this]; rfl
theorem elV_kd {a : Arr} (h : AOk a) : (elV a).kd = a.k := by
  have := h.kd
  unfold elV
  split
  · rename_i h1; rw [h1]; rfl
  split
  · rename_i h1; rw [h1]; rfl
  · have : a.k = 3 := by omega
    rw [this]; rfl
theorem elF_kd {a : Arr} (h : AOk a) : (elF a.k).kd = a.k := by
  have := h.kd
  unfold elF
  split
  · rename_i h1; rw [h1]; rfl
  split
  · rename_i h1; rw [h1]; rfl
  · have : a.k = 3 := by omega
    rw [this]; rfl
theorem elK_kd {a : Arr} (h : AOk a) : (elK a).kd = a.k := by
  unfold elK
  split
  · exact elS_kd h
  split
  · exact elV_kd h
  split
  · exact elF_kd h
  split
  · exact elS_kd h
  · exact elV_kd h
theorem arr_ext {a b : Arr} (h1 : a.k = b.k) (h2 : a.sh = b.sh) (h3 : a.nu = b.nu) (h4 : a.it = b.it) : a = b := by
  cases a; cases b
  simp only [Arr.k, Arr.sh, Arr.nu, Arr.it] at h1 h2 h3 h4
  rw [h1, h2, h3, h4]
theorem one_eq {α : Type} {l m : List α} (d : α) (hl : l.length = 1) (hm : m.length = 1) (h : l.getD 0 d = m.getD 0 d) : l = m := by
  obtain ⟨x, rfl⟩ := List.length_eq_one_iff.1 hl
  obtain ⟨y, rfl⟩ := List.length_eq_one_iff.1 hm
  simpa using h
theorem elS_det {a b : Arr} (ha : AOk a) (hb : AOk b) (hk : a.k = b.k) (h1 : szA a = 1) (h2 : szA b = 1) (h : elS a = elS b) : a.nu = b.nu ∧ a.it = b.it := by
  have kd := ha.kd
  unfold szA at h1 h2
  unfold elS at h
  rw [← hk] at h
  by_cases k1 : a.k = 1
  · have i1 := ha.no (by omega)
    have i2 := hb.no (by omega)
    rw [if_pos k1, if_pos k1] at h
    rw [i1] at h1
    rw [i2] at h2
    injection h with h
    exact ⟨one_eq 0 (by simpa using h1) (by simpa using h2) (by simpa using h), by rw [i1, i2]⟩
  · rw [if_neg k1, if_neg k1] at h
    by_cases k2 : a.k = 2
    · have i1 := ha.no (by omega)
      have i2 := hb.no (by omega)
      rw [if_pos k2, if_pos k2] at h
      rw [i1] at h1
      rw [i2] at h2
      injection h with h
      exact ⟨one_eq 0 (by simpa using h1) (by simpa using h2) h, by rw [i1, i2]⟩
    · have i1 := ha.bx (by omega)
      have i2 := hb.bx (by omega)
      rw [if_neg k2, if_neg k2] at h
      rw [i1] at h1
      rw [i2] at h2
      injection h with h
      exact ⟨by rw [i1, i2], one_eq default (by simpa using h1) (by simpa using h2) h⟩
theorem elV_det {a b : Arr} (ha : AOk a) (hb : AOk b) (hk : a.k = b.k) (h : elV a = elV b) : a.nu = b.nu ∧ a.it = b.it := by
  have kd := ha.kd
  unfold elV at h
  rw [← hk] at h
  by_cases k1 : a.k = 1
  · rw [if_pos k1, if_pos k1] at h
    injection h with h
    exact ⟨h, by rw [ha.no (by omega), hb.no (by omega)]⟩
  · rw [if_neg k1, if_neg k1] at h
    by_cases k2 : a.k = 2
    · rw [if_pos k2, if_pos k2] at h
      injection h with h
      exact ⟨h, by rw [ha.no (by omega), hb.no (by omega)]⟩
    · rw [if_neg k2, if_neg k2] at h
      injection h with h
      exact ⟨by rw [ha.bx (by omega), hb.bx (by omega)], h⟩
theorem elSV {a b : Arr} (ha : AOk a) (hk : a.k = b.k) (hb : b.k = 2 ∨ 1 < szA b) (hbo : AOk b) : elS a ≠ elV b := by
  intro h
  have kd := ha.kd
  unfold elS elV at h
  rw [← hk] at h
  by_cases k1 : a.k = 1
  · rw [if_pos k1, if_pos k1] at h
    injection h with h
    have hl := congrArg List.length h
    unfold szA at hb
    rw [hbo.no (by omega)] at hb
    simp only [List.length_cons, List.length_nil] at hl hb
    omega
  · rw [if_neg k1, if_neg k1] at h
    by_cases k2 : a.k = 2
    · rw [if_pos k2, if_pos k2] at h; cases h
    · rw [if_neg k2, if_neg k2] at h; cases h
theorem sz_zero {a : Arr} (h : szA a = 0) : a.nu = [] ∧ a.it = [] := by
  unfold szA at h
  exact ⟨List.length_eq_zero_iff.1 (by omega), List.length_eq_zero_iff.1 (by omega)⟩
theorem sz_shape {a b : Arr} (ha : V a) (hb : V b) (h : a.sh = b.sh) : szA a = szA b := by
  have h1 := (shape_ok ha.2).2.1
  have h2 := (shape_ok hb.2).2.1
  rw [h] at h1
  unfold szA
  omega
theorem det {a b : Arr} (hva : V a) (hvb : V b) (hp : pfx a ↔ pfx b) (hs : pfx a → a.sh = b.sh) (h : elK a = elK b) : a = b := by
  have ha := aok hva
  have hb := aok hvb
  have hk : a.k = b.k := by rw [← elK_kd ha, ← elK_kd hb, h]
  by_cases p : pfx a
  · have hsh := hs p
    have hsz := sz_shape hva hvb hsh
    have pb := hp.1 p
    unfold elK at h
    have p2 : ¬ (a.sh.length = 1 ∧ (a.k = 2 ∨ 1 < szA a)) := p.2
    have pb2 : ¬ (b.sh.length = 1 ∧ (b.k = 2 ∨ 1 < szA b)) := pb.2
    rw [if_neg p.1, if_neg p2, if_neg pb.1, if_neg pb2, ← hsz] at h
    by_cases z0 : szA a = 0
    · obtain ⟨n1, i1⟩ := sz_zero z0
      obtain ⟨n2, i2⟩ := sz_zero (hsz ▸ z0)
      exact arr_ext hk hsh (by rw [n1, n2]) (by rw [i1, i2])
    · rw [if_neg z0, if_neg z0] at h
      by_cases z1 : szA a = 1
      · rw [if_pos z1, if_pos z1] at h
        obtain ⟨e1, e2⟩ := elS_det ha hb hk z1 (hsz ▸ z1) h
        exact arr_ext hk hsh e1 e2
      · rw [if_neg z1, if_neg z1] at h
        obtain ⟨e1, e2⟩ := elV_det ha hb hk h
        exact arr_ext hk hsh e1 e2
  · have pb : ¬ pfx b := fun q => p (hp.2 q)
    have fa : a.sh.length ≠ 0 → (a.sh.length = 1 ∧ (a.k = 2 ∨ 1 < szA a)) := fun h0 => Decidable.byContradiction fun hf => p ⟨h0, hf⟩
    have fb : b.sh.length ≠ 0 → (b.sh.length = 1 ∧ (b.k = 2 ∨ 1 < szA b)) := fun h0 => Decidable.byContradiction fun hf => pb ⟨h0, hf⟩
    unfold elK at h
    by_cases a0 : a.sh.length = 0
    · rw [if_pos a0] at h
      by_cases b0 : b.sh.length = 0
      · rw [if_pos b0] at h
        obtain ⟨e1, e2⟩ := elS_det ha hb hk (ha.sc a0) (hb.sc b0) h
        exact arr_ext hk (by rw [List.length_eq_zero_iff.1 a0, List.length_eq_zero_iff.1 b0]) e1 e2
      · have q := fb b0
        rw [if_neg b0, if_pos q] at h
        exact (elSV ha hk q.2 hb h).elim
    · have q := fa a0
      rw [if_neg a0, if_pos q] at h
      by_cases b0 : b.sh.length = 0
      · rw [if_pos b0] at h
        exact (elSV hb hk.symm q.2 ha h.symm).elim
      · have q2 := fb b0
        rw [if_neg b0, if_pos q2] at h
        obtain ⟨e1, e2⟩ := elV_det ha hb hk h
        refine arr_ext hk ?_ e1 e2
        rw [ha.one q.1, hb.one q2.1, szA, szA, e1, e2]
theorem elK_V {a : Arr} (hv : V a) : ElV (elK a) := by
  have ha := aok hv
  have kd := ha.kd
  have hit : ∀ x ∈ a.it, V x := fun x hx => items_ok hv.1 hv.2 x hx
  have ve0 : V e0 := ⟨okB_ok _ (by decide), by decide⟩
  have hS : szA a = 1 → ElV (elS a) := fun h1 => by
    unfold szA at h1
    unfold elS
    split
    · exact List.cons_ne_nil _ _
    split
    · rename_i k2
      rw [ha.no (by omega)] at h1
      exact ha.chr k2 _ (memI (by simp at h1; omega))
    · rw [ha.bx (by omega)] at h1
      exact hit _ (mem_getD (by simp at h1; omega))
  have hV : a.k = 2 ∨ szA a ≠ 0 → ElV (elV a) := fun h1 => by
    unfold szA at h1
    unfold elV
    split
    · intro e
      rw [e, ha.no (by omega)] at h1
      simp at h1
      omega
    split
    · rename_i k2
      exact ha.chr k2
    · refine ⟨fun e => ?_, hit⟩
      rw [e, ha.bx (by omega)] at h1
      simp at h1
      omega
  unfold elK
  split
  · exact hS (ha.sc ‹_›)
  split
  · rename_i q
    exact hV (by omega)
  split
  · unfold elF
    split
    · exact List.cons_ne_nil _ _
    split
    · exact (by decide : chrB 32 = true)
    · exact ve0
  split
  · exact hS ‹_›
  · exact hV (.inr ‹_›)
theorem elK_P {a : Arr} (hv : V a) (he : a.k = 3 → PA e0) (hit : ∀ x ∈ a.it, PA x) : ElP (elK a) := by
  have ha := aok hv
  have kd := ha.kd
  have hS : szA a = 1 → ElP (elS a) := fun h1 => by
    unfold szA at h1
    unfold elS
    split
    · exact List.cons_ne_nil _ _
    split
    · rename_i k2
      rw [ha.no (by omega)] at h1
      exact ha.chr k2 _ (memI (by simp at h1; omega))
    · rw [ha.bx (by omega)] at h1
      exact hit _ (mem_getD (by simp at h1; omega))
  have hV : a.k = 2 ∨ szA a ≠ 0 → ElP (elV a) := fun h1 => by
    unfold szA at h1
    unfold elV
    split
    · intro e
      rw [e, ha.no (by omega)] at h1
      simp at h1
      omega
    split
    · rename_i k2
      exact ha.chr k2
    · refine ⟨fun e => ?_, hit⟩
      rw [e, ha.bx (by omega)] at h1
      simp at h1
      omega
  unfold elK
  split
  · exact hS (ha.sc ‹_›)
  split
  · rename_i q
    exact hV (by omega)
  split
  · unfold elF
    split
    · exact List.cons_ne_nil _ _
    split
    · exact (by decide : chrB 32 = true)
    · exact he (by omega)
  split
  · exact hS ‹_›
  · exact hV (.inr ‹_›)
theorem resh_two (r : List UInt8) : Fol2 (reshW ++ r) := .inr (.inr ⟨[101, 115, 104, 97, 112, 101, 32] ++ r, rfl⟩)
theorem pa_step {a : Arr} (hv : V a) (hp : ElP (elK a)) : PA a := by
  intro b hvb r r' hr hr' h
  have ha := aok hv
  have hb := aok hvb
  obtain ⟨a1, a2⟩ := lit_split ha
  obtain ⟨b1, b2⟩ := lit_split hb
  have vb := elK_V hvb
  have clash : ∀ {s : List Int} {e : El} {t u : List UInt8}, s ≠ [] → (∀ l, e = .ints l → l ≠ []) → (∀ l, e = .bxs l → l ≠ []) → Fol u → dimsB s ++ (reshW ++ t) ≠ e.txt ++ u := fun {s e t u} hs h1 h2 hu h => by
    obtain ⟨c, w, e1, e2⟩ := el_head h1 h2
    obtain ⟨d, x, f1, f2⟩ := nums_head hs
    cases e with
    | ints l =>
      obtain ⟨_, h4⟩ := nums_read hs (h1 l rfl) (resh_two t) hu.two h
      rcases hu with rfl | ⟨v, rfl⟩
      · cases h4
      · injection h4 with h4 _; exact absurd h4 (by decide)
    | _ =>
      have f1 : dimsB s = d :: x := f1
      rw [e1, f1] at h
      injection h with h _
      rw [← h, cls, if_pos f2] at e2
      exact absurd e2 (by simp only [El.tag]; decide)
  by_cases pa : pfx a
  · have na : a.sh ≠ [] := fun e => pa.1 (by rw [e]; rfl)
    by_cases pb : pfx b
    · have nb : b.sh ≠ [] := fun e => pb.1 (by rw [e]; rfl)
      rw [a1 pa, b1 pb] at h
      simp only [List.append_assoc] at h
      obtain ⟨e1, e2⟩ := nums_read na nb (resh_two _) (resh_two _) h
      obtain ⟨e3, e4⟩ := el_read hp vb hr hr' (List.append_cancel_left e2)
      exact ⟨det hv hvb ⟨fun _ => pb, fun _ => pa⟩ (fun _ => e1) e3, e4⟩
    · rw [a1 pa, b2 pb, List.append_assoc, List.append_assoc] at h
      exact (clash na (fun l e => by rw [e] at vb; exact vb) (fun l e => by rw [e] at vb; exact vb.1) hr' h).elim
  · by_cases pb : pfx b
    · have nb : b.sh ≠ [] := fun e => pb.1 (by rw [e]; rfl)
      rw [a2 pa, b1 pb, List.append_assoc, List.append_assoc] at h
      exact (clash nb (fun l e => by rw [e] at hp; exact hp) (fun l e => by rw [e] at hp; exact hp.1) hr h.symm).elim
    · rw [a2 pa, b2 pb] at h
      obtain ⟨e3, e4⟩ := el_read hp vb hr hr' h
      exact ⟨det hv hvb ⟨fun q => (pa q).elim, fun q => (pb q).elim⟩ (fun q => (pa q).elim) e3, e4⟩
theorem pa_e0 : PA e0 := by
  have ve0 : V e0 := ⟨okB_ok _ (by decide), by decide⟩
  exact pa_step ve0 (elK_P ve0 (fun h => absurd h (by decide)) (fun x hx => by cases hx))
theorem pa_all : ∀ (a : Arr), V a → PA a
  | .mk k s n is, hv => by
    refine pa_step hv (elK_P hv (fun _ => pa_e0) fun x hx => ?_)
    have hx' : x ∈ is := hx
    exact pa_all x (items_ok hv.1 hv.2 x hx)
termination_by a => SizeOf.sizeOf a
decreasing_by
  have := List.sizeOf_lt_of_mem hx'
  simp; omega
theorem lit_inj {a b : Arr} (ha : V a) (hb : V b) (h : litA a = litA b) : a = b :=
  (pa_all a ha b hb [] [] (.inl rfl) (.inl rfl) (by rw [h])).1
end Go.Proofs.YtpgepjefbhgblaaDoor
namespace Go.Proofs.YtpgepjefbhgblaaDoor
open Go Go.Ab
set_option maxRecDepth 100000
noncomputable def Eshp (l m : List Int) : Senv := { EC con0 26 2 [4, 5, 10, 14, 25] (fun id => match id with | 6 => ([0, 1, 2, 3, 4, 5, 6, 7, 8], []) | _ => ([], [])) with
  ann := fun b _ S => match b with
    | 0 => some { slots := [5], keep := [0, 1], α := Nat, st := fun i => ([.int .i64 i], S), inv := fun i => i ≤ l.length ∧ ∀ j, j < i → l.getD j 0 = m.getD j 0, mu := fun i => l.length - i }
    | _ => none }
theorem eq_getD {α : Type} {l m : List α} (d : α) (h : l.length = m.length) (h2 : ∀ j, j < l.length → l.getD j d = m.getD j d) : l = m := by
  apply List.ext_getElem h
  intro i h3 h4
  have := h2 i h3
  simpa [List.getD_eq_getElem?_getD, List.getElem?_eq_getElem h3, List.getElem?_eq_getElem h4] using this
noncomputable section
def ap5q0 (p0 p1 : List Int) : Prop := True ∧ ∃ (y : Unit), True ∧ false = decide (p0 = p1) ∧ True ∧ True
def ap5q1 (p0 : Nat) (p1 p2 : List Int) : Prop := p0 ≤ LN p1 ∧ ∀ (j : Nat), j < p0 → GI p1 j = GI p2 j
def ap5q2 (p0 : List Int) : D := SI p0
def ap5q3 (p0 : List Int) : Prop := SM (ap5q2 p0)
end
theorem shapes_ok (l m : List Int) (hl : l.length ≤ maxLen) (hm : m.length ≤ maxLen) : ACalls Tryd.prog 32 [isl l .any, isl m .any] ⟨[], []⟩ (SpecR (sC [isl l .any, isl m .any] (.bool (decide (l = m)))) ()) := by
  refine con_of (A := sC _ _) (x := ()) (E := Eshp l m) (eOk con0_ok rfl) Tryd.func32 rfl (by kernel_rfl) rfl (by simp [sC, Eshp, EC, E0]) ?_
  refine vc_eq (T :=
    ifB ((LI l) != (LI m)) (ap5q0 l m) ((∃ (x : Nat), ap5q1 x l m ∧ (Z0 = (↑x : Int) ∧ True) ∧ True ∧ True) ∧ ∀ (x : Nat), ap5q1 x l m → ifB (decide ((↑x : Int) < (LI l))) (side (Z0 ≤ (↑x : Int) ∧ (↑x : Int) < (LI l)) (side (Z0 ≤ (↑x : Int) ∧ (↑x : Int) < (LI m)) (ifB (GI l (Int.toNat (↑x : Int)) != GI m (Int.toNat (↑x : Int))) (ap5q0 l m) ((ap5q3 l ∧ ap5q3 m ∧ True) ∧ ∃ (y : Nat), ap5q1 y l m ∧ LN l - y < LN l - x ∧ (IntKind.wrap IntKind.i64 ((↑x : Int) + Z1) = (↑y : Int) ∧ True) ∧ True ∧ True)))) (True ∧ ∃ (y : Unit), True ∧ true = decide (l = m) ∧ True ∧ True))) (by kernel_rfl) ?_
  delta GI LI LN N1 SI SM Z0 Z1 ZI ap5q0 ap5q1 ap5q2 ap5q3
  simp only [ifB_iff, side_iff, decide_eq_true_eq, decide_eq_false_iff_not, true_and, and_true, beq_iff_eq, bne_iff_ne, ne_eq, exists_const, forall_const, implies_true, Int.toNat_natCast]
  simp only [maxLen] at hl hm
  refine ⟨fun h => ?_, fun h => ⟨⟨0, ⟨Nat.zero_le _, fun j hj => absurd hj (by omega)⟩, rfl⟩, fun i hi => ⟨fun hlt => ?_, fun hge => ?_⟩⟩⟩
  · exact (decide_eq_false fun e => by rw [e] at h; exact h rfl).symm
  · have h : l.length = m.length := by
      have h : (l.length : Int) = m.length := by simpa using h
      omega
    refine ⟨⟨by omega, by omega⟩, ⟨by omega, by omega⟩, fun hn => ?_, fun he => ⟨i + 1, ⟨by omega, fun j hj => ?_⟩, by omega, wrap_i64' (by omega) (by omega)⟩⟩
    · exact (decide_eq_false fun e => hn (by rw [e])).symm
    · by_cases e : j = i
      · subst e; simpa using he
      · exact hi.2 j (by omega)
  · have h : l.length = m.length := by
      have h : (l.length : Int) = m.length := by simpa using h
      omega
    exact (decide_eq_true (eq_getD 0 h fun j hj => hi.2 j (by omega))).symm
noncomputable def sameA (a b : Arr) : Bool := @decide (a = b) (Classical.propDecidable _)
theorem sameA_iff {a b : Arr} : sameA a b = true ↔ a = b := by unfold sameA; exact @decide_eq_true_iff _ (Classical.propDecidable _)
theorem sameA_no {a b : Arr} (h : a ≠ b) : false = sameA a b := by
  cases hs : sameA a b with
  | false => rfl
  | true => exact (h (sameA_iff.1 hs)).elim
noncomputable def sSm (row : Arr → List D) (q : Arr × Arr → Prop) : FnSpec where
  β := Arr × Arr
  α := Unit
  args := fun x => [.agg (row x.1), .agg (row x.2)]
  st := fun _ => ⟨[], []⟩
  pre := q
  post := fun _ _ => True
  res := fun x _ => .ret (.bool (sameA x.1 x.2))
  out := fun _ _ => ⟨[], []⟩
noncomputable def conSm (l m : List Arr) : Con := fun k ds _ => match k with
  | 16 => some (sSm Arr.row1 (fun x => x.1 ∈ l ∧ x.2 ∈ m))
  | 32 => match ds with
    | [.sl 1 n f _, .sl 1 p g _] => some (pC ds (.bool (decide (intsD n f = intsD p g))) ((IntsP n f ∧ n ≤ maxLen) ∧ IntsP p g ∧ p ≤ maxLen))
    | _ => none
  | _ => none
noncomputable def Esm (a b : Arr) : Senv := { EC (conSm a.it b.it) 55 6 [35, 40, 54] (fun id => match id with | 6 => ([0, 1, 2, 3, 4, 5, 6, 7, 8, 9, 10, 11], [10]) | _ => ([], [])) with
  ann := fun q _ S => match q with
    | 0 => some { slots := [5], keep := [2, 3], α := Nat, st := fun i => ([.int .i64 i], S), inv := fun i => i ≤ a.it.length ∧ ∀ j, j < i → a.it.getD j default = b.it.getD j default, mu := fun i => a.it.length - i }
    | _ => none }
noncomputable section
def ap5q4 (p0 : Arr) : Int := Arr.k p0
def ap5q5 (p0 p1 : Arr) : Prop := True ∧ ∃ (y : Unit), True ∧ false = sameA p0 p1 ∧ True ∧ True
def ap5q6 (p0 : Arr) : Nat := LN (Arr.sh p0)
def ap5q7 (p0 : Arr) (p1 : Nat) : List D := [ZI (GI (Arr.sh p0) p1)]
def ap5q8 (p0 : Arr) : Prop := (IntsP (ap5q6 p0) fun (i : Nat) => ap5q7 p0 i) ∧ ap5q6 p0 ≤ (9223372036854775807 : Nat)
def ap5q9 (p0 : Arr) : List Int := intsD (ap5q6 p0) fun (i : Nat) => ap5q7 p0 i
def ap5q10 (p0 : Arr) : Nat := LN (Arr.nu p0)
def ap5q11 (p0 : Arr) (p1 : Nat) : List D := [ZI (GI (Arr.nu p0) p1)]
def ap5q12 (p0 : Arr) : Prop := (IntsP (ap5q10 p0) fun (i : Nat) => ap5q11 p0 i) ∧ ap5q10 p0 ≤ (9223372036854775807 : Nat)
def ap5q13 (p0 : Arr) : List Int := intsD (ap5q10 p0) fun (i : Nat) => ap5q11 p0 i
def ap5q14 (p0 : Arr) : List Arr := Arr.it p0
def ap5q15 (p0 : Arr) : Nat := LN (ap5q14 p0)
def ap5q16 (p0 : Arr) : Int := (NI (ap5q15 p0))
def ap5q17 : Arr := DA
def ap5q18 (p0 : Arr) (p1 : Nat) : Arr := List.getD (ap5q14 p0) p1 ap5q17
def ap5q19 (p0 : Nat) (p1 p2 : Arr) : Prop := p0 ≤ ap5q15 p1 ∧ ∀ (j : Nat), j < p0 → ap5q18 p1 j = ap5q18 p2 j
def ap5q20 (p0 : Arr) (p1 : Nat) : List Int := Arr.sh (ap5q18 p0 p1)
def ap5q21 (p0 : Arr) (p1 : Nat) : List Int := Arr.nu (ap5q18 p0 p1)
def ap5q22 (p0 : Arr) (p1 : Nat) : List Arr := Arr.it (ap5q18 p0 p1)
def ap5q23 (p0 : Arr) (p1 : Nat) : List D := [ZI (Arr.k (ap5q18 p0 p1)), SI (ap5q20 p0 p1), SI (ap5q21 p0 p1), D.sl N4 (LN (ap5q22 p0 p1)) (fun (i : Nat) => Arr.row (List.getD (ap5q22 p0 p1) i ap5q17)) Mode.any]
def ap5q24 (p0 : Arr) : Prop := SM (ap5q4 p0) ∧ (SM (ap5q6 p0) ∧ (∀ (i : Nat), i < ap5q6 p0 → SM (ap5q7 p0 i)) ∧ True) ∧ (SM (ap5q10 p0) ∧ (∀ (i : Nat), i < ap5q10 p0 → SM (ap5q11 p0 i)) ∧ True) ∧ (SM (ap5q15 p0) ∧ (∀ (i : Nat), i < ap5q15 p0 → SM (ap5q23 p0 i)) ∧ True) ∧ True
def ap5q25 (p0 : Nat) (p1 : Arr) (p2 : Nat) (p3 : Arr) : Prop := (SM p0 ∧ ap5q24 p1 ∧ SM p2 ∧ ap5q24 p3 ∧ True) ∧ True
def ap5q26 (p0 : Arr) (p1 : Nat) : Arr := List.getD (ap5q14 p0) (Int.toNat (↑p1 : Int)) ap5q17
def ap5q27 (p0 : Arr) (p1 : Nat) : List Int := Arr.sh (ap5q26 p0 p1)
def ap5q28 (p0 : Arr) (p1 : Nat) : Nat := LN (ap5q27 p0 p1)
def ap5q29 (p0 : Arr) (p1 : Nat) : List Int := Arr.nu (ap5q26 p0 p1)
def ap5q30 (p0 : Arr) (p1 : Nat) : Nat := LN (ap5q29 p0 p1)
def ap5q31 (p0 : Arr) (p1 : Nat) : List Arr := Arr.it (ap5q26 p0 p1)
def ap5q32 (p0 : Arr) (p1 : Nat) : Nat := LN (ap5q31 p0 p1)
def ap5q33 (p0 : Arr) (p1 : Nat) (p2 : Arr) : Prop := Arr.k (ap5q26 p0 p1) = ap5q4 p2 ∧ (ap5q28 p0 p1 = ap5q6 p2 ∧ (∀ (i : Nat), i < ap5q28 p0 p1 → [ZI (GI (ap5q27 p0 p1) i)] = ap5q7 p2 i) ∧ True) ∧ (ap5q30 p0 p1 = ap5q10 p2 ∧ (∀ (i : Nat), i < ap5q30 p0 p1 → [ZI (GI (ap5q29 p0 p1) i)] = ap5q11 p2 i) ∧ True) ∧ (ap5q32 p0 p1 = ap5q15 p2 ∧ (∀ (i : Nat), i < ap5q32 p0 p1 → Arr.row (List.getD (ap5q31 p0 p1) i ap5q17) = Arr.row (ap5q18 p2 i)) ∧ True) ∧ True
end
theorem same_step (a b : Arr) (ha : a.sh.length ≤ maxLen ∧ a.nu.length ≤ maxLen ∧ a.it.length ≤ maxLen) (hb : b.sh.length ≤ maxLen ∧ b.nu.length ≤ maxLen ∧ b.it.length ≤ maxLen) (hc : ConOk Tryd.prog (conSm a.it b.it)) :
    ACalls Tryd.prog 16 ((sSm Arr.row2 (fun _ => True)).args (a, b)) ⟨[], []⟩ (SpecR (sSm Arr.row2 (fun _ => True)) (a, b)) := by
  refine con_of (A := sSm Arr.row2 (fun _ => True)) (x := (a, b)) (E := Esm a b) (eOk hc rfl) Tryd.func16 rfl (by kernel_rfl) rfl (by simp [sSm, Esm, EC, E0]) ?_
  refine vc_eq (T :=
    ∀ (x : Nat), True → ∀ (x_1 : Nat), x ≠ x_1 ∧ True → SM x ∧ SM x_1 ∧ ifB (ap5q4 a != ap5q4 b) (ap5q5 a b) (SM x ∧ SM x_1 ∧ (ap5q8 a ∧ ap5q8 b) ∧ ∀ (y : Unit), True → ifB (!decide (ap5q9 a = ap5q9 b)) (ap5q5 a b) (SM x ∧ SM x_1 ∧ (ap5q12 a ∧ ap5q12 b) ∧ ∀ (y : Unit), True → ifB (!decide (ap5q13 a = ap5q13 b)) (ap5q5 a b) (SM x ∧ SM x_1 ∧ ifB (ap5q16 a != ap5q16 b) (ap5q5 a b) ((∃ (x_2 : Nat), ap5q19 x_2 a b ∧ (Z0 = (↑x_2 : Int) ∧ True) ∧ ap5q25 x_1 b x a) ∧ ∀ (x_2 : Nat), ap5q19 x_2 a b → SM x ∧ ifB (decide ((↑x_2 : Int) < ap5q16 a)) (SM x ∧ side (Z0 ≤ (↑x_2 : Int) ∧ (↑x_2 : Int) < ap5q16 a) (SM x_1 ∧ side (Z0 ≤ (↑x_2 : Int) ∧ (↑x_2 : Int) < ap5q16 b) (∃ (x_3 : Arr × Arr), (ap5q33 a x_2 x_3.1 ∧ ap5q33 b x_2 x_3.2 ∧ True) ∧ (True ∧ True) ∧ (x_3.1 ∈ ap5q14 a ∧ x_3.2 ∈ ap5q14 b) ∧ ∀ (y : Unit), True → ifB (!sameA x_3.1 x_3.2) (ap5q5 a b) ((SM (D.ref N0 x N0) ∧ SM (D.ref (max (N0 + N1) N0) x_1 N0) ∧ True) ∧ ∃ (y : Nat), ap5q19 y a b ∧ ap5q15 a - y < ap5q15 a - x_2 ∧ (IntKind.wrap IntKind.i64 ((↑x_2 : Int) + Z1) = (↑y : Int) ∧ True) ∧ ap5q25 x_1 b x a)))) (True ∧ ∃ (y : Unit), True ∧ true = sameA a b ∧ True ∧ True)))))) (by kernel_rfl) ?_
  delta DA GI LN N0 N1 N4 NI SI SM Z0 Z1 ZI ap5q10 ap5q11 ap5q12 ap5q13 ap5q14 ap5q15 ap5q16 ap5q17 ap5q18 ap5q19 ap5q20 ap5q21 ap5q22 ap5q23 ap5q24 ap5q25 ap5q26 ap5q27 ap5q28 ap5q29 ap5q30 ap5q31 ap5q32 ap5q33 ap5q4 ap5q5 ap5q6 ap5q7 ap5q8 ap5q9
  have da : (default : Arr) = Arr.mk 0 [] [] [] := rfl
  simp only [← da, ifB_iff, side_iff, decide_eq_true_eq, decide_eq_false_iff_not, true_and, and_true, beq_iff_eq, bne_iff_ne, Bool.cond_false_right, Bool.cond_true_left, Bool.and_eq_true, Bool.and_eq_false_iff, Bool.or_eq_true, Bool.or_eq_false_iff, beq_eq_false_iff_ne, ne_eq, exists_const, forall_const, implies_true, Int.toNat_natCast, Prod.exists, intsD_isl]
  simp only [maxLen] at ha hb
  obtain ⟨a1, a2, a3⟩ := ha
  obtain ⟨b1, b2, b3⟩ := hb
  refine fun x x1 _ => ⟨fun h => sameA_no fun e => h (by rw [e]), fun hk => ⟨⟨⟨intsP_isl _, a1⟩, intsP_isl _, b1⟩, fun h => sameA_no fun e => ?_, fun hs => ⟨⟨⟨intsP_isl _, a2⟩, intsP_isl _, b2⟩, fun h => sameA_no fun e => ?_, fun hn => ⟨fun h => sameA_no fun e => h (by rw [e]), fun hl => ⟨⟨0, ⟨Nat.zero_le _, fun j hj => absurd hj (by omega)⟩, rfl⟩, fun i hi => ⟨fun hlt => ?_, fun hge => ?_⟩⟩⟩⟩⟩⟩
  · rw [e] at h; simp at h
  · rw [e] at h; simp at h
  · have hl : a.it.length = b.it.length := by
      have hl : (a.it.length : Int) = b.it.length := by simpa using hl
      omega
    have h1 : i < a.it.length := by omega
    have h2 : i < b.it.length := by omega
    refine ⟨⟨by omega, by omega⟩, ⟨by omega, by omega⟩, a.it.getD i default, b.it.getD i default, ⟨⟨rfl, ⟨rfl, fun _ _ => rfl⟩, ⟨rfl, fun _ _ => rfl⟩, rfl, fun _ _ => rfl⟩, rfl, ⟨rfl, fun _ _ => rfl⟩, ⟨rfl, fun _ _ => rfl⟩, rfl, fun _ _ => rfl⟩, ⟨mem_getD h1, mem_getD h2⟩, fun h => sameA_no fun e => ?_, fun h => ⟨i + 1, ⟨by omega, fun j hj => ?_⟩, by omega, wrap_i64' (by omega) (by omega)⟩⟩
    · rw [e, sameA_iff.2 rfl] at h; cases h
    · by_cases e : j = i
      · subst e
        exact sameA_iff.1 (by simpa using h)
      · exact hi.2 j (by omega)
  · have hl : a.it.length = b.it.length := by
      have hl : (a.it.length : Int) = b.it.length := by simpa using hl
      omega
    exact (sameA_iff.2 (arr_ext (by simpa using hk) (by simpa using hs) (by simpa using hn) (eq_getD default hl fun j hj => hi.2 j (by omega)))).symm
theorem sSm_row {k : Nat} {q q' : Arr × Arr → Prop} {x : Arr × Arr} (h : ACalls Tryd.prog k ((sSm Arr.row2 q).args x) ⟨[], []⟩ (SpecR (sSm Arr.row2 q) x)) : ACalls Tryd.prog k ((sSm Arr.row1 q').args x) ⟨[], []⟩ (SpecR (sSm Arr.row1 q') x) :=
  (h.wkArgs (by simp only [sSm, wkL, wkD]; exact ⟨row1_wk _, row1_wk _, trivial⟩)).mono fun _ _ ⟨y, q1, q2, q3⟩ => ⟨y, q1, q2, q3⟩
theorem same_all : ∀ (a b : Arr), a.ok → b.ok → ACalls Tryd.prog 16 ((sSm Arr.row2 (fun _ => True)).args (a, b)) ⟨[], []⟩ (SpecR (sSm Arr.row2 (fun _ => True)) (a, b))
  | .mk k s n is, .mk k' s' n' is', ha, hb => by
    simp only [Arr.ok] at ha hb
    obtain ⟨_, _, _, a1, a2, a3, a4⟩ := ha
    obtain ⟨_, _, _, b1, b2, b3, b4⟩ := hb
    refine same_step _ _ ⟨a1, a2, a3⟩ ⟨b1, b2, b3⟩ ?_
    intro f ds S A h
    unfold conSm at h
    split at h
    · injection h with h; subst h
      refine ConOk.plain (fun (x : Arr × Arr) hx => ?_) rfl rfl
      obtain ⟨x, y⟩ := x
      have hx1 : x ∈ is := hx.1
      have hx2 : y ∈ is' := hx.2
      exact sSm_row (same_all x y ((okL_iff _).1 a4 x hx1) ((okL_iff _).1 b4 y hx2))
    · split at h
      · injection h with h; subst h
        exact pC_ok fun ⟨⟨h1, h2⟩, h3, h4⟩ => ⟨weakL_refl _, sC_weak (us := [isl (intsD _ _) .any, isl (intsD _ _) .any]) ⟨(isl_weak h1).1, (isl_weak h3).1, trivial⟩ (shapes_ok _ _ (by rw [intsD_len]; exact h2) (by rw [intsD_len]; exact h4))⟩
      · cases h
    · cases h
termination_by a => SizeOf.sizeOf a
decreasing_by
  have := List.sizeOf_lt_of_mem hx1
  simp; omega
noncomputable def conLx (bs : List Arr) : Con := fun k ds S => match k with
  | 16 => some (sSm Arr.row1 (fun x => x.1 ∈ bs ∧ x.2 ∈ bs))
  | k => conLw bs k ds S
theorem conLx_ok {bs : List Arr} (ho : ∀ b ∈ bs, b.ok) : ConOk Tryd.prog (conLx bs) := by
  intro k ds S A h
  unfold conLx at h
  split at h
  · injection h with h; subst h
    exact ConOk.plain (fun (x : Arr × Arr) hx => sSm_row (same_all x.1 x.2 (ho _ hx.1) (ho _ hx.2))) rfl rfl
  · exact conLw_ok ho _ _ _ _ h
noncomputable def Elx (a b : Arr) : Senv := EC (conLx [a, b]) 36 5 [22] (fun id => match id with | 3 => ([0, 2, 5, 6, 1, 3, 4, 7, 8, 9, 10, 11, 12], [1, 3, 7, 10]) | _ => ([], []))
noncomputable section
def ap5q34 (p0 : Arr) : Nat := LN (Arr.sh p0)
def ap5q35 (p0 : Arr) (p1 : Nat) : List D := [ZI (GI (Arr.sh p0) p1)]
def ap5q36 (p0 : Arr) : Nat := LN (Arr.nu p0)
def ap5q37 (p0 : Arr) (p1 : Nat) : List D := [ZI (GI (Arr.nu p0) p1)]
def ap5q38 (p0 : Arr) : Nat := LN (Arr.it p0)
def ap5q39 (p0 : Arr) (p1 : Nat) : List D := Arr.row (GA (Arr.it p0) p1)
def ap5q40 (p0 p1 : Arr) : Prop := Arr.k p0 = Arr.k p1 ∧ (ap5q34 p0 = ap5q34 p1 ∧ (∀ (i : Nat), i < ap5q34 p0 → ap5q35 p0 i = ap5q35 p1 i) ∧ True) ∧ (ap5q36 p0 = ap5q36 p1 ∧ (∀ (i : Nat), i < ap5q36 p0 → ap5q37 p0 i = ap5q37 p1 i) ∧ True) ∧ (ap5q38 p0 = ap5q38 p1 ∧ (∀ (i : Nat), i < ap5q38 p0 → ap5q39 p0 i = ap5q39 p1 i) ∧ True) ∧ True
def ap5q41 (p0 p1 : Arr) : Prop := ap5q40 p0 p1 ∧ True
def ap5q42 (p0 p1 p2 : Arr) : Prop := isA [p0, p1] p2
def ap5q43 (p0 : Arr) : Bool := !decide (wtA p0 ≤ (400 : Int))
def ap5q44 : Prop := ∃ (x : Unit), True ∧ (True ∧ True) ∧ True ∧ ∀ (y : Unit), True → True ∧ ∃ (y : Unit), True ∧ SM true ∧ True ∧ True
def ap5q45 (p0 : Arr) : D := D.agg [ZI (Arr.k p0), D.sl N1 (ap5q34 p0) (fun (i : Nat) => ap5q35 p0 i) Mode.any, D.sl N1 (ap5q36 p0) (fun (i : Nat) => ap5q37 p0 i) Mode.any, D.sl N4 (ap5q38 p0) (fun (i : Nat) => ap5q39 p0 i) Mode.any]
def ap5q46 (p0 : Nat) (p1 : Arr) : Prop := SM p0 ∧ SM (ap5q45 p1)
end
theorem law_apart (a b : Arr) (ha : a.ok) (hb : b.ok) : ACalls Tryd.prog 6 [.agg a.row1, .agg b.row1] ⟨[], []⟩ (SpecR (sC [.agg a.row1, .agg b.row1] (.bool true)) ()) := by
  refine con_of (A := sC _ _) (x := ()) (E := Elx a b) (eOk (conLx_ok (by simp [ha, hb])) rfl) Tryd.func6 rfl (by kernel_rfl) rfl (by simp [sC, Elx, EC, E0]) ?_
  refine vc_eq (T :=
    ∀ (x : Nat), True → ∀ (x_1 : Nat), x ≠ x_1 ∧ True → SM x ∧ ∀ (x_2 : Nat), x_1 ≠ x_2 ∧ x ≠ x_2 ∧ True → SM x_2 ∧ ∃ (x_3 : Arr), ap5q41 a x_3 ∧ (True ∧ True) ∧ ap5q42 a b x_3 ∧ ∀ (y : Unit), True → True ∧ ifB (ap5q43 x_3) ap5q44 (SM x_1 ∧ ∀ (x_4 : Nat), x_2 ≠ x_4 ∧ x_1 ≠ x_4 ∧ x ≠ x_4 ∧ True → SM x_4 ∧ ∃ (x_5 : Arr), ap5q41 b x_5 ∧ (True ∧ True) ∧ ap5q42 a b x_5 ∧ ∀ (y : Unit), True → True ∧ ifB (ap5q43 x_5) ap5q44 (SM x ∧ ∃ (x_6 : Arr), ap5q41 a x_6 ∧ (True ∧ True) ∧ ap5q42 a b x_6 ∧ ∀ (y : Unit), True → ifB (Prod.fst (chkA x_6) != Z0) ap5q44 (SM x_1 ∧ ∃ (x_7 : Arr), ap5q41 b x_7 ∧ (True ∧ True) ∧ ap5q42 a b x_7 ∧ ∀ (y : Unit), True → ifB (Prod.fst (chkA x_7) != Z0) ap5q44 (SM x ∧ SM x_1 ∧ SM x ∧ SM x_1 ∧ ∃ (x_8 : Arr), ap5q41 a x_8 ∧ (True ∧ True) ∧ ap5q42 a b x_8 ∧ ∀ (y : Unit), True → ap5q46 x_1 b ∧ ap5q46 x a ∧ ap5q46 x_1 b ∧ ∃ (x_9 : Arr), ap5q41 b x_9 ∧ (True ∧ True) ∧ ap5q42 a b x_9 ∧ ∀ (y : Unit), True → ap5q46 x_1 b ∧ ap5q46 x a ∧ ∃ (x : Arr × Arr), (ap5q40 a x.1 ∧ ap5q41 b x.2) ∧ (True ∧ True) ∧ (x.1 ∈ [a, b] ∧ x.2 ∈ [a, b]) ∧ ∀ (y : Unit), True → ifB ((litF x_8 == litF x_9) == sameA x.1 x.2) ap5q44 (True ∧ ∃ (y : Unit), True ∧ false = true ∧ True ∧ True)))))) (by kernel_rfl) ?_
  delta DA GA GI LN N1 N4 SM Z0 ZI ap5q34 ap5q35 ap5q36 ap5q37 ap5q38 ap5q39 ap5q40 ap5q41 ap5q42 ap5q43 ap5q44 ap5q45 ap5q46
  simp only [ifB_iff, side_iff, decide_eq_true_eq, decide_eq_false_iff_not, true_and, and_true, beq_iff_eq, bne_iff_ne, Bool.cond_false_right, Bool.cond_true_left, Bool.and_eq_true, Bool.and_eq_false_iff, Bool.or_eq_true, Bool.or_eq_false_iff, beq_eq_false_iff_ne, ne_eq, exists_const, forall_const, implies_true, Int.toNat_natCast, Prod.exists]
  have ia : isA [a, b] a := List.mem_cons_self
  have ib : isA [a, b] b := List.mem_cons_of_mem _ List.mem_cons_self
  refine fun x x1 _ x2 _ => ⟨a, self1 a, ia, fun _ x4 _ => ⟨b, self1 b, ib, fun _ => ⟨a, self1 a, ia, fun h1 => ⟨b, self1 b, ib, fun h2 => ⟨a, self1 a, ia, b, self1 b, ib, a, b, ⟨self1 a, self1 b⟩, ⟨ia, ib⟩, fun h => ?_⟩⟩⟩⟩⟩
  have h1 : (chkA a).1 = 0 := by simpa using h1
  have h2 : (chkA b).1 = 0 := by simpa using h2
  exfalso
  apply h
  rw [litF, if_pos h1, litF, if_pos h2]
  by_cases e : a = b
  · subst e
    rw [sameA_iff.2 rfl]
    simp
  · rw [← sameA_no e]
    exact beq_eq_false_iff_ne.2 fun hl => e (lit_inj ⟨ha, h1⟩ ⟨hb, h2⟩ hl)
end Go.Proofs.YtpgepjefbhgblaaDoor
