/- The law's function returns true for every input, and its arguments read afterwards as before. -/
import Derived.Test.YtfldjfpcefcjdaaDoorW3
import Derived.Test.YtfldjfpcefcjdaaDoorProg
import Derived.Lib.LaidTab
import Derived.Lib.ItoaNum
import Derived.Lib.TrailingZeros
import Derived.Shelf.Unicode.DecodeSlow
import Derived.Calls
import Derived.Below
import Derived.Laws.Entries
import Derived.Laws.Build
import Derived.Laws.Concat
import Derived.Laws.AppendOwn
import Derived.Laws.IdiomStrings
import Derived.Laws.BytesString
import Derived.Laws.NewFold
import Derived.Laws.MakeOwn
import Derived.Laws.IdiomCopy
import Derived.Laws.Shifts
import Derived.Laws.Strings
import Derived.Laws.Strings2
import Derived.Laws.Strings3
import Derived.Laws.RangeString
import Derived.Laws.Cover4
import Derived.Lib.DecodeN
import Derived.MapKept
import Derived.Laws.StructEq
import Derived.Orders
import Derived.Scope
import Derived.ProofKit
import Derived.WalkKit
import Derived.OpenShut
import Derived.Recover
import Derived.KernelRfl
import Derived.Shelf.Strings.Builder1
import Derived.Shelf.Strings.Builder2
import Derived.Shelf.Strings.OnBuilder
import Derived.Shelf.Small.Utf8
import Derived.Shelf.Unicode.ValidAny
import Derived.Shelf.Strconv.Itoa0
import Derived.Shelf.Strconv.Itoa1
import Derived.Shelf.LaysM
import Derived.Shelf.Strconv.Itoa2
import Derived.Shelf.Strconv.Itoa3
import Derived.Shelf.Strconv.Itoa4
import Derived.Shelf.Strings.Prefix
import Derived.Shelf.Unicode.Latin
import Derived.Shelf.Unicode.Decode
import Derived.Shelf.Unicode.DecodeAny
import Derived.Shelf.Unicode.CaseLookup
import Derived.Shelf.Unicode.CaseConvert
import Derived.Shelf.Unicode.CaseTo
import Derived.Shelf.Unicode.CaseLaid
import Derived.Lib.Builder
import Derived.Lib.UnsafeStr
import Derived.Lib.AppendIntMem
import Derived.Lib.ItoaLen
import Derived.Lib.MapLaws
import Derived.Lib.Join
import Derived.Test.YtfldjfpcefcjdaaDoorCards
import Derived.Test.YtfldjfpcefcjdaaDoorTie
import Derived.Deep.DeepHandedRow
import Derived.Deep.DeepLaidRun
import Derived.Deep.DeepWitnessRowRef
import Derived.Lib.LaidIn
import Derived.Lib.LaidU8T
import Derived.Lib.LaidCaseMet
import Derived.PinnedBridge
import Derived.Stop.LaidErr
namespace Go.Proofs.YtfldjfpcefcjdaaDoor
open Go Go.Ab
set_option maxRecDepth 100000
theorem sep_dig {b:UInt8} (h:sep b):dig b = false := by rcases h with rfl | rfl <;> rfl
theorem sep_aln {b:UInt8} (h:sep b):aln b = false := by rcases h with rfl | rfl <;> rfl
theorem sep_hex {b:UInt8} (h:sep b):hexB b = false := by rcases h with rfl | rfl <;> rfl
theorem tw_sep {p:UInt8→Bool} {b:UInt8} {m:List UInt8} (hb:p b = false):∀ r:List UInt8,(r ++ b :: m).takeWhile p = r.takeWhile p
  | [] => by simp [hb]
  | c :: r => by
    simp only [List.cons_append,List.takeWhile_cons]
    cases p c with
    | false => rfl
    | true => simp only [if_true]; rw [tw_sep hb r]
theorem dr_sep {x:List UInt8} {r:List UInt8} {k:Nat} (h:k ≤ r.length):(r ++ x).drop k = r.drop k ++ x := by
  rw [List.drop_append]
  have:k - r.length = 0 := by omega
  rw [this]; rfl
theorem gd_lt {x r:List UInt8} {k:Nat} (h:k < r.length):(r ++ x).getD k 0 = r.getD k 0 := by
  simp [List.getD_eq_getElem?_getD,List.getElem?_append_left h]
theorem gd_at {r m:List UInt8} {b:UInt8}:(r ++ b :: m).getD r.length 0 = b := by
  simp [List.getD_eq_getElem?_getD]
theorem at_sep {α:Type} {f:UInt8→α} {b:UInt8} {m r:List UInt8} {k:Nat} (hf:f b = f 0) (h:k ≤ r.length):f ((r ++ b :: m).getD k 0) = f (r.getD k 0) := by
  by_cases hk:k < r.length
  · rw [gd_lt hk]
  · obtain rfl:k = r.length := by omega
    rw [gd_at,gd_ge (Nat.le_refl _),hf]
theorem head_sep {r m:List UInt8} {b:UInt8} (h:r ≠ []):(r ++ b :: m).getD 0 0 = r.getD 0 0 := gd_lt (List.length_pos_iff.2 h)
theorem num_sep {b:UInt8} {m r:List UInt8} (hb:sep b) (h:r ≠ []):numT (r ++ b :: m) = numT r := by
  have h1:1 ≤ r.length := List.length_pos_iff.2 h
  unfold numT
  rw [head_sep h]
  generalize hu:(if r.getD 0 0 = 95 then 1 else 0) = u
  have hu1:u ≤ r.length := by split at hu <;> omega
  simp only
  rw [dr_sep hu1,tw_sep (sep_dig hb)]
  have hl:u + ((r.drop u).takeWhile dig).length ≤ r.length := by
    have := tw_len dig (r.drop u)
    rw [List.length_drop] at this
    omega
  rw [dr_sep hl]
  have e:∀ q:List UInt8,(alp ((q ++ b :: m).getD 0 0) || (q ++ b :: m).getD 0 0 == 95) = (alp (q.getD 0 0) || q.getD 0 0 == 95) := fun q =>
    at_sep (f := fun c => alp c || c == 95) (by rcases hb with rfl | rfl <;> rfl) (Nat.zero_le _)
  rw [e]
theorem word_sep {b:UInt8} {m r:List UInt8} (hb:sep b):wordT (r ++ b :: m) = wordT r := by
  unfold wordT
  rw [tw_sep (sep_aln hb)]
theorem sym_sep2 {b c:UInt8} (hb:sep b):symL.contains [c,b] = false := by
  have:(symL.all fun x => x.length != 2 || (x.getD 1 0 != 10 && x.getD 1 0 != 32)) = true := by decide +kernel
  cases h:symL.contains [c,b] with
  | false => rfl
  | true =>
    have := List.all_eq_true.1 this [c,b] (by simpa using h)
    rcases hb with rfl | rfl <;> simp at this
theorem symT_sep {b:UInt8} {m r:List UInt8} (hb:sep b) (h:r ≠ []):symT (r ++ b :: m) = symT r := by
  unfold symT
  match r,h with
  | [c],_ =>
    have h2 := sym_sep2 (c := c) hb
    simp only [List.cons_append,List.nil_append,List.take_succ_cons,List.take_zero,List.length_cons,List.length_nil,List.take_nil,h2]
    simp
  | c :: d :: r,_ => simp
theorem dec_sep {b:UInt8} {m r:List UInt8} (hb:b.toNat / 64 ≠ 2) (h:r ≠ []):decT (r ++ b :: m) = decT r := by
  unfold decT
  match r,h with
  | [c],_ =>
    simp only [List.cons_append,List.nil_append,List.getD_cons_zero,List.getD_cons_succ,List.length_cons,List.length_nil,List.getD_nil,UInt8.toNat_zero]
    unfold Lib.decodeN
    simp [hb]
  | [c,d],_ =>
    simp only [List.cons_append,List.nil_append,List.getD_cons_zero,List.getD_cons_succ,List.length_cons,List.length_nil,List.getD_nil,UInt8.toNat_zero]
    unfold Lib.decodeN
    simp [hb]
  | [c,d,e],_ =>
    simp only [List.cons_append,List.nil_append,List.getD_cons_zero,List.getD_cons_succ,List.length_cons,List.length_nil,List.getD_nil,UInt8.toNat_zero]
    unfold Lib.decodeN
    simp [hb]
  | c :: d :: e :: f :: r,_ =>
    simp only [List.cons_append,List.getD_cons_zero,List.getD_cons_succ,List.length_cons,List.length_append]
    unfold Lib.decodeN
    have e1:∀ k,(1 < k + 1 + 1 + 1 + 1) = True := fun k => by simp
    have e2:∀ k,(2 < k + 1 + 1 + 1 + 1) = True := fun k => by simp
    have e3:∀ k,(3 < k + 1 + 1 + 1 + 1) = True := fun k => by simp
    simp only [e1,e2,e3]
theorem code_sep {b:UInt8} {m r:List UInt8} (hb:sep b):codeT (r ++ b :: m) = codeT r := by
  unfold codeT
  cases r with
  | nil => rcases hb with rfl | rfl <;> rfl
  | cons c r =>
    rw [head_sep (by simp)]
    by_cases hc:(c :: r).getD 0 0 = 123
    · rw [if_pos hc,if_pos hc,dr_sep (by simp),tw_sep (sep_hex hb)]
      have hl:1 + (((c :: r).drop 1).takeWhile hexB).length ≤ (c :: r).length := by
        have := tw_len hexB ((c :: r).drop 1)
        simp only [List.drop_succ_cons,List.drop_zero,List.length_cons] at this ⊢
        omega
      simp only
      rw [dr_sep hl]
      have e:∀ q:List UInt8,((q ++ b :: m).getD 0 0 = 125) = (q.getD 0 0 = 125) := fun q => at_sep (f := fun c => c = 125) (by rcases hb with rfl | rfl <;> simp) (Nat.zero_le _)
      simp only [e]
    · rw [if_neg hc,if_neg hc]
theorem esc_sep {b:UInt8} {m r:List UInt8} (hb:sep b) (h:r ≠ []):escT (r ++ b :: m) = escT r := by
  match r,h with
  | [c],_ =>
    unfold escT
    rcases hb with rfl | rfl <;> simp
  | c :: d :: r,_ =>
    unfold escT
    have := code_sep (m := m) (r := r) hb
    simp only [List.cons_append,List.getD_cons_succ,List.getD_cons_zero,List.drop_succ_cons,List.drop_zero,this]
theorem let_sep {b:UInt8} {m r:List UInt8} (hb:sep b) (h:r ≠ []):letT (r ++ b :: m) = letT r := by
  unfold letT
  rw [head_sep h,esc_sep hb h,dec_sep (by rcases hb with rfl | rfl <;> decide) h]
end Go.Proofs.YtfldjfpcefcjdaaDoor
namespace Go.Proofs.YtfldjfpcefcjdaaDoor
open Go Go.Ab
set_option maxRecDepth 100000
theorem end_app {q x:List UInt8} (h:q ≠ []):endT (q ++ x) = endT q := by
  match q,h with
  | c :: q,_ => rfl
theorem str_sep {b:UInt8} {m:List UInt8} (hb:sep b):∀ (n:Nat) (q:List UInt8) (p:Nat) (acc:List UInt8) (n':Nat),q.length < n→q.length < n'→(b = 10∨∃ x,strGo n q p acc = .ok x)→strGo n' (q ++ b :: m) p acc = strGo n q p acc
  | 0,_,_,_,_,h,_,_ => absurd h (Nat.not_lt_zero _)
  | n + 1,q,p,acc,0,_,h,_ => absurd h (Nat.not_lt_zero _)
  | n + 1,q,p,acc,n' + 1,h1,h2,ho => by
    by_cases hq:q = []
    · subst hq
      rcases ho with rfl | ⟨x,hx⟩
      · rfl
      · simp [strGo,endT] at hx
    · have he := end_app (x := b :: m) hq
      have hh := head_sep (b := b) (m := m) hq
      have hl := let_sep (m := m) hb hq
      simp only [strGo] at ho ⊢
      rw [he,hh,hl]
      cases hend:endT q with
      | true => rfl
      | false =>
        rw [hend] at ho
        simp only [Bool.false_eq_true,if_false] at ho ⊢
        by_cases h34:q.getD 0 0 = 34
        · rw [if_pos h34,if_pos h34]
        · rw [if_neg h34] at ho ⊢
          rw [if_neg h34]
          cases hlt:letT q with
          | none => rfl
          | some x =>
            obtain ⟨c,w⟩ := x
            rw [hlt] at ho
            obtain ⟨l1,l2⟩ := let_len hq hlt
            have hql:0 < q.length := List.length_pos_iff.2 hq
            simp only at ho ⊢
            rw [dr_sep l2]
            exact str_sep hb n (q.drop w) _ _ n' (by rw [List.length_drop]; omega) (by rw [List.length_drop]; omega) ho
theorem char_sep {b:UInt8} {m r:List UInt8} (hb:sep b) (h:r ≠ []) (ho:b = 10∨∃ x,charT r = .ok x):charT (r ++ b :: m) = charT r := by
  have h1:1 ≤ r.length := List.length_pos_iff.2 h
  unfold charT at ho ⊢
  rw [dr_sep h1]
  generalize r.drop 1 = q at ho ⊢
  simp only at ho ⊢
  by_cases hq:q = []
  · subst hq
    rcases ho with rfl | ⟨x,hx⟩
    · rfl
    · simp [endT] at hx
  · have he := end_app (x := b :: m) hq
    have hh := head_sep (b := b) (m := m) hq
    have hl := let_sep (m := m) hb hq
    rw [he,hh,hl]
    cases hend:endT q with
    | true => rfl
    | false =>
      rw [hend] at ho
      simp only [Bool.false_eq_true,if_false] at ho ⊢
      by_cases h39:q.getD 0 0 = 39
      · rw [if_pos h39,if_pos h39]
      · rw [if_neg h39] at ho ⊢
        rw [if_neg h39]
        cases hlt:letT q with
        | none => rfl
        | some x =>
          obtain ⟨c,w⟩ := x
          rw [hlt] at ho
          obtain ⟨l1,l2⟩ := let_len hq hlt
          simp only at ho ⊢
          rw [dr_sep l2]
          by_cases hd:q.drop w = []
          · rw [hd] at ho ⊢
            rcases ho with rfl | ⟨x,hx⟩
            · rfl
            · simp [endT] at hx
          · rw [end_app hd,head_sep hd]
theorem lex_sep {b:UInt8} {m r:List UInt8} (hb:sep b) (h:r ≠ []) (ho:b = 10∨∃ x,lexT r = .ok x):lexT (r ++ b :: m) = lexT r := by
  unfold lexT at ho ⊢
  rw [head_sep h]
  simp only at ho ⊢
  by_cases c1:r.getD 0 0 = 10∨r.getD 0 0 = 59
  · rw [if_pos c1,if_pos c1]
  rw [if_neg c1] at ho ⊢
  rw [if_neg c1]
  by_cases c2:(dig (r.getD 0 0) || r.getD 0 0 == 95) = true
  · rw [if_pos c2,if_pos c2]; exact num_sep hb h
  rw [if_neg c2] at ho ⊢
  rw [if_neg c2]
  by_cases c3:alp (r.getD 0 0) = true
  · rw [if_pos c3,if_pos c3]; exact word_sep hb
  rw [if_neg c3] at ho ⊢
  rw [if_neg c3]
  by_cases c4:r.getD 0 0 = 34
  · rw [if_pos c4] at ho ⊢
    rw [if_pos c4]
    have h1:1 ≤ r.length := List.length_pos_iff.2 h
    unfold strT at ho ⊢
    rw [dr_sep h1]
    exact str_sep hb _ _ _ _ _ (by rw [List.length_drop]; omega) (by rw [List.length_drop,List.length_append]; omega) ho
  rw [if_neg c4] at ho ⊢
  rw [if_neg c4]
  by_cases c5:r.getD 0 0 = 39
  · rw [if_pos c5] at ho ⊢
    rw [if_pos c5]
    exact char_sep hb h ho
  rw [if_neg c5] at ho ⊢
  rw [if_neg c5]
  exact symT_sep hb h
end Go.Proofs.YtfldjfpcefcjdaaDoor
namespace Go.Proofs.YtfldjfpcefcjdaaDoor
open Go Go.Ab
set_option maxRecDepth 100000
def scanF:Nat→List UInt8→Nat→Except (Int × Nat) (List Tok)
  | 0,_,_ => .ok []
  | n + 1,r,p =>
    let k := skipM false r
    let q := r.drop k
    if q = [] then .ok []
    else match lexT q with
      | .error (e,o) => .error (e,p + k + o)
      | .ok (kd,len,num,text) =>
        match scanF n (q.drop len) (p + k + len) with
        | .error e => .error e
        | .ok l => .ok (⟨kd,((p + k:Nat):Int),len,num,text⟩ :: l)
theorem skip_nl (m:List UInt8):∀ (b:Bool) (r:List UInt8),skipM b (r ++ 10 :: m) = skipM b r
  | true,[] => rfl
  | false,[] => rfl
  | true,c :: r => by
    simp only [skipM,List.cons_append]
    rw [skip_nl m true r]
  | false,c :: r => by
    simp only [skipM,List.cons_append]
    rw [skip_nl m true r,skip_nl m false r]
theorem scanF_fuel:∀ (n n':Nat) (r:List UInt8) (p:Nat),r.length < n→r.length < n'→scanF n r p = scanF n' r p
  | 0,_,_,_,h,_ => absurd h (Nat.not_lt_zero _)
  | n + 1,0,_,_,_,h => absurd h (Nat.not_lt_zero _)
  | n + 1,n' + 1,r,p,h1,h2 => by
    simp only [scanF]
    split
    · rfl
    · rename_i hq
      have hl := lex_len hq
      revert hl
      generalize lexT (r.drop (skipM false r)) = z
      intro hl
      match z,hl with
      | .error (e,o),_ => rfl
      | .ok (kd,len,num,text),hl =>
        have hl:1 ≤ len∧len ≤ (r.drop (skipM false r)).length := hl
        rw [List.length_drop] at hl
        have := skip_le false r
        simp only
        rw [scanF_fuel n n' _ _ (by simp only [List.length_drop]; omega) (by simp only [List.length_drop]; omega)]
def preL (l:List Tok):Except (Int × Nat) (List Tok)→Except (Int × Nat) (List Tok)
  | .error e => .error e
  | .ok m => .ok (l ++ m)
theorem scanGo_F:∀ (n:Nat) (r:List UInt8) (p:Nat) (l:List Tok),r.length < n→l.length + r.length ≤ 16384→scanGo n r p l = preL l (scanF n r p)
  | 0,_,_,_,h,_ => absurd h (Nat.not_lt_zero _)
  | n + 1,r,p,l,h1,h2 => by
    simp only [scanF,scanGo]
    split
    · simp [preL]
    · rename_i hq
      have hl := lex_len hq
      have hs := skip_le false r
      revert hl
      generalize lexT (r.drop (skipM false r)) = z
      intro hl
      match z,hl with
      | .error (e,o),_ => rfl
      | .ok (kd,len,num,text),hl =>
        have hl:1 ≤ len∧len ≤ (r.drop (skipM false r)).length := hl
        rw [List.length_drop] at hl
        simp only
        rw [if_neg (by omega),scanGo_F n _ _ _ (by simp only [List.length_drop]; omega) (by simp only [List.length_drop,List.length_append,List.length_cons,List.length_nil]; omega)]
        cases scanF n ((r.drop (skipM false r)).drop len) (p + skipM false r + len) with
        | error e => rfl
        | ok m => simp [preL]
def shX (d:Nat):Except (Int × Nat) (List Tok)→Except (Int × Nat) (List Tok)
  | .error (e,o) => .error (e,o + d)
  | .ok m => .ok (m.map (shT d))
theorem scanF_shift (d:Nat):∀ (n:Nat) (r:List UInt8) (p:Nat),scanF n r (p + d) = shX d (scanF n r p)
  | 0,_,_ => rfl
  | n + 1,r,p => by
    simp only [scanF]
    split
    · rfl
    · generalize lexT (r.drop (skipM false r)) = z
      match z with
      | .error (e,o) => simp only [shX]; congr 2; omega
      | .ok (kd,len,num,text) =>
        simp only
        have e:p + d + skipM false r + len = (p + skipM false r + len) + d := by omega
        rw [e,scanF_shift d n]
        cases scanF n ((r.drop (skipM false r)).drop len) (p + skipM false r + len) with
        | error e => rfl
        | ok m =>
          simp only [shX,List.map_cons,shT]
          congr 3
          omega
def brk0 (p:Nat):Tok := ⟨6,p,1,0,[]⟩
def joinX (p:Nat) (z:Except (Int × Nat) (List Tok)):Except (Int × Nat) (List Tok)→Except (Int × Nat) (List Tok)
  | .error e => .error e
  | .ok l => match z with
    | .error e => .error e
    | .ok m => .ok (l ++ brk0 p :: m)
theorem scanF_nl {m:List UInt8} {n p:Nat} (h:m.length + 1 < n):scanF n (10 :: m) p = joinX p (scanF n m (p + 1)) (.ok []) := by
  cases n with
  | zero => omega
  | succ n =>
    have e : scanF (n + 1) (10 :: m) p = match scanF n m (p + 0 + 1) with
        | .error e => .error e
        | .ok l => .ok (⟨6,((p + 0:Nat):Int),(1:Nat),0,[]⟩ :: l) := rfl
    rw [e,scanF_fuel n (n + 1) m _ (by omega) (by omega),Nat.add_zero]
    cases scanF (n + 1) m (p + 1) with
    | error e => rfl
    | ok l => rfl
theorem scanF_join {m:List UInt8}:∀ (n:Nat) (r:List UInt8) (p n':Nat),r.length < n→r.length + 1 + m.length < n'→scanF n' (r ++ 10 :: m) p = joinX (p + r.length) (scanF n' m (p + r.length + 1)) (scanF n r p)
  | 0,_,_,_,h,_ => absurd h (Nat.not_lt_zero _)
  | n + 1,r,p,0,_,h => absurd h (Nat.not_lt_zero _)
  | n + 1,r,p,n' + 1,h1,h2 => by
    have hs := skip_le false r
    by_cases hq:r.drop (skipM false r) = []
    · have hk:skipM false r = r.length := by
        have := List.drop_eq_nil_iff.1 hq
        omega
      have e1:scanF (n + 1) r p = .ok [] := by simp only [scanF]; rw [if_pos hq]
      have e2:scanF (n' + 1) (r ++ 10 :: m) p = scanF (n' + 1) (10 :: m) (p + r.length) := by
        simp only [scanF]
        rw [skip_nl m false r,hk,dr_sep (Nat.le_refl _),List.drop_length,List.nil_append]
        rfl
      rw [e1,e2,scanF_nl (by omega)]
    · have hl := lex_len hq
      have hx := lex_sep (m := m) (b := 10) (.inl rfl) hq (.inl rfl)
      have e2 : scanF (n' + 1) (r ++ 10 :: m) p = match lexT (r.drop (skipM false r)) with
          | .error (e,o) => .error (e,p + skipM false r + o)
          | .ok (kd,len,num,text) => match scanF n' ((r.drop (skipM false r) ++ 10 :: m).drop len) (p + skipM false r + len) with
            | .error e => .error e
            | .ok l => .ok (⟨kd,((p + skipM false r:Nat):Int),len,num,text⟩ :: l) := by
        simp only [scanF]
        rw [skip_nl m false r,dr_sep hs,hx,if_neg (by simp)]
      have e1 : scanF (n + 1) r p = match lexT (r.drop (skipM false r)) with
          | .error (e,o) => .error (e,p + skipM false r + o)
          | .ok (kd,len,num,text) => match scanF n ((r.drop (skipM false r)).drop len) (p + skipM false r + len) with
            | .error e => .error e
            | .ok l => .ok (⟨kd,((p + skipM false r:Nat):Int),len,num,text⟩ :: l) := by
        simp only [scanF]
        rw [if_neg hq]
      rw [e1,e2]
      revert hl
      generalize lexT (r.drop (skipM false r)) = z
      intro hl
      match z,hl with
      | .error (e,o),_ => rfl
      | .ok (kd,len,num,text),hl =>
        have hl:1 ≤ len∧len ≤ (r.drop (skipM false r)).length := hl
        have hl2 := hl
        rw [List.length_drop] at hl2
        simp only
        rw [dr_sep hl.2,scanF_join n _ _ n' (by simp only [List.length_drop]; omega) (by simp only [List.length_drop]; omega)]
        have ep:p + skipM false r + len + ((r.drop (skipM false r)).drop len).length = p + r.length := by simp only [List.length_drop]; omega
        rw [ep,scanF_fuel n' (n' + 1) m _ (by omega) (by omega)]
        cases scanF n ((r.drop (skipM false r)).drop len) (p + skipM false r + len) with
        | error e => rfl
        | ok l =>
          simp only [joinX]
          cases scanF (n' + 1) m (p + r.length + 1) with
          | error e => rfl
          | ok l' => rfl
end Go.Proofs.YtfldjfpcefcjdaaDoor
namespace Go.Proofs.YtfldjfpcefcjdaaDoor
open Go Go.Ab
set_option maxRecDepth 100000
def nameB (w:List UInt8):Bool := plainB w && decide (w.length ≤ 32) && !resB w
def TokF (r:List UInt8):Lex→Prop
  | .ok (k,len,_,text) => ((k = 4∨k = 5)→text = r.take len)∧(k = 4→nameB text = true)
  | .error _ => True
theorem word_facts {r:List UInt8} (h:r ≠ []) (ha:alp (r.getD 0 0) = true):TokF r (wordT r) := by
  unfold wordT
  simp only
  split
  · exact ⟨fun _ => (take_tw aln r).symm,fun h => by exact absurd h (by decide)⟩
  · rename_i hres
    split
    · trivial
    · rename_i hup
      split
      · trivial
      · rename_i hlen
        refine ⟨fun _ => (take_tw aln r).symm,fun _ => ?_⟩
        have hno:∀ b ∈ r.takeWhile aln,upp b = false := fun b hb => by
          cases hu:upp b with
          | false => rfl
          | true => exact (hup (List.any_eq_true.2 ⟨b,hb,hu⟩)).elim
        have hall:∀ b ∈ r.takeWhile aln,(low b || dig b) = true := fun b hb => by
          have h1 := tw_all aln r b hb
          unfold aln alp at h1
          rw [hno b hb,Bool.or_false] at h1
          exact h1
        match r,h with
        | c :: r,_ =>
          have ha:alp c = true := ha
          have hc:aln c = true := by unfold aln; rw [ha]; rfl
          have hlow:low c = true := by
            have h1 := hno c (by simp [hc])
            unfold alp at ha
            rw [h1,Bool.or_false] at ha
            exact ha
          unfold nameB plainB
          have e1:((c :: r).takeWhile aln).isEmpty = false := by simp [hc]
          have e2:((c :: r).takeWhile aln).getD 0 0 = c := by simp [hc]
          have e3:(((c :: r).takeWhile aln).all fun b => low b || dig b) = true := List.all_eq_true.2 hall
          have e4:resB ((c :: r).takeWhile aln) = false := by simpa using hres
          rw [e1,e2,e3,e4,hlow]
          simp
          omega
theorem sym_facts {r:List UInt8}:TokF r (symT r) := by
  unfold symT
  split
  · exact ⟨fun _ => rfl,fun h => by exact absurd h (by decide)⟩
  · split
    · exact ⟨fun _ => rfl,fun h => by exact absurd h (by decide)⟩
    · trivial
theorem str_facts (r:List UInt8):∀ (n:Nat) (q:List UInt8) (p:Nat) (acc:List UInt8),TokF r (strGo n q p acc)
  | 0,_,_,_ => trivial
  | n + 1,q,p,acc => by
    simp only [strGo]
    split
    · trivial
    split
    · exact ⟨fun h => by rcases h with h | h <;> exact absurd h (by decide),fun h => by exact absurd h (by decide)⟩
    split
    · trivial
    · exact str_facts r n _ _ _
theorem lex_facts {r:List UInt8} (h:r ≠ []):TokF r (lexT r) := by
  unfold lexT
  simp only
  split
  · exact ⟨fun h => by rcases h with h | h <;> exact absurd h (by decide),fun h => by exact absurd h (by decide)⟩
  split
  · unfold numT
    generalize (if r.getD 0 0 = 95 then 1 else 0) = u
    simp only
    split
    · trivial
    split
    · trivial
    · exact ⟨fun h => by rcases h with h | h <;> exact absurd h (by decide),fun h => by exact absurd h (by decide)⟩
  split
  · rename_i ha
    exact word_facts h ha
  split
  · exact str_facts r _ _ _ _
  split
  · unfold charT
    simp only
    repeat' split
    all_goals first
      | trivial
      | exact ⟨fun h => by rcases h with h | h <;> exact absurd h (by decide),fun h => by exact absurd h (by decide)⟩
  · exact sym_facts
def placed (s:List UInt8):Int→List Tok→Prop
  | _,[] => True
  | e,t :: l => (0 ≤ t.at_∧e ≤ t.at_∧1 ≤ t.len∧t.at_ + t.len ≤ s.length)∧((t.kind = 4∨t.kind = 5)→t.text = (s.drop t.at_.toNat).take t.len.toNat)∧(t.kind = 4→nameB t.text = true)∧placed s (t.at_ + t.len) l
theorem placed_mono {s:List UInt8} {e e':Int} (h:e' ≤ e):∀ {l:List Tok},placed s e l→placed s e' l
  | [],_ => trivial
  | _ :: _,⟨⟨h0,h1,h2,h3⟩,h4⟩ => ⟨⟨h0,Int.le_trans h h1,h2,h3⟩,h4⟩
def PlX (s:List UInt8) (p:Nat):Except (Int × Nat) (List Tok)→Prop
  | .error (_,o) => o ≤ s.length
  | .ok l => placed s p l
theorem scanF_placed (s:List UInt8):∀ (n p:Nat),p ≤ s.length→PlX s p (scanF n (s.drop p) p)
  | 0,_,_ => trivial
  | n + 1,p,hp => by
    have hs := skip_le false (s.drop p)
    rw [List.length_drop] at hs
    simp only [scanF]
    rw [List.drop_drop]
    split
    · trivial
    · rename_i hq
      have hl := lex_len hq
      have hf := lex_facts hq
      revert hl hf
      generalize lexT (s.drop (p + skipM false (s.drop p))) = z
      intro hl hf
      match z,hl,hf with
      | .error (e,o),hl,_ =>
        have hl:o ≤ (s.drop (p + skipM false (s.drop p))).length := hl
        rw [List.length_drop] at hl
        show p + skipM false (s.drop p) + o ≤ s.length
        omega
      | .ok (kd,len,num,text),hl,⟨f1,f2⟩ =>
        have hl:1 ≤ len∧len ≤ (s.drop (p + skipM false (s.drop p))).length := hl
        rw [List.length_drop] at hl
        have ih := scanF_placed s n (p + skipM false (s.drop p) + len) (by omega)
        simp only
        rw [List.drop_drop]
        revert ih
        generalize scanF n (s.drop (p + skipM false (s.drop p) + len)) (p + skipM false (s.drop p) + len) = y
        intro ih
        match y,ih with
        | .error (e,o),ih => exact ih
        | .ok l,ih =>
          refine ⟨⟨by simp only; omega,by simp only; omega,by simp only; omega,by simp only; omega⟩,fun h => ?_,fun h => f2 h,?_⟩
          · have := f1 h
            show text = (s.drop (((p + skipM false (s.drop p):Nat):Int)).toNat).take ((len:Int)).toNat
            rw [Int.toNat_natCast,Int.toNat_natCast]
            exact this
          · have:placed s ((p + skipM false (s.drop p) + len:Nat):Int) l := ih
            refine placed_mono ?_ this
            simp only; omega
end Go.Proofs.YtfldjfpcefcjdaaDoor
namespace Go.Proofs.YtfldjfpcefcjdaaDoor
open Go Go.Ab
set_option maxRecDepth 100000
theorem toksOf_eq {n:Nat} {l:List Tok} {F:Nat→List D} (hn:n = l.length) (hF:∀ i,i < n→F i = (l.getD i default).row):toksOf n F = l := by
  subst hn
  apply List.ext_getElem
  · simp [toksOf]
  · intro i h1 h2
    simp only [toksOf,List.getElem_map,List.getElem_range,hF i h2,rowTok,Tok.row,List.getD_eq_getElem?_getD,List.getElem?_eq_getElem h2,Option.getD_some]
end Go.Proofs.YtfldjfpcefcjdaaDoor
namespace Go.Proofs.YtfldjfpcefcjdaaDoor
open Go Go.Ab
set_option maxRecDepth 100000
theorem scan_small {s:List UInt8} (h:s.length ≤ 16384):scanT s = scanF (s.length + 1) s 0 := by
  unfold scanT
  rw [if_neg (by omega),scanGo_F _ _ _ _ (by omega) (by simpa using h)]
  cases scanF (s.length + 1) s 0 <;> rfl
theorem scanGo_err:∀ (n:Nat) (r:List UInt8) (p:Nat) (l:List Tok) (e:Int) (a:Nat),scanGo n r p l = .error (e,a)→e ≠ 0
  | 0,r,p,l,e,a,h => by cases h
  | n + 1,r,p,l,e,a,h => by
    simp only [scanGo] at h
    split at h
    · cases h
    · cases hz:lexT (r.drop (skipM false r)) with
      | error z =>
        obtain ⟨e',o⟩ := z
        rw [hz] at h
        have h:Except.error (e',p + skipM false r + o) = Except.error (e,a) := h
        injection h with h; injection h with h _
        rw [← h]
        exact lex_err hz
      | ok z =>
        obtain ⟨kd,len,num,text⟩ := z
        rw [hz] at h
        simp only at h
        split at h
        · injection h with h; injection h with h _
          omega
        · exact scanGo_err n _ _ _ e a h
theorem scanT_err {s:List UInt8} {e:Int} {a:Nat} (h:scanT s = .error (e,a)):e ≠ 0 := by
  unfold scanT at h
  split at h
  · injection h with h; injection h with h _
    omega
  · exact scanGo_err _ _ _ _ _ _ h
theorem strGo_text:∀ (n:Nat) (r:List UInt8) (p:Nat) (acc:List UInt8) (k num:Int) (len:Nat) (text:List UInt8),strGo n r p acc = .ok (k,len,num,text)→text.length ≤ acc.length + 4 * n
  | 0,r,p,acc,k,num,len,text,h => by cases h
  | n + 1,r,p,acc,k,num,len,text,h => by
    simp only [strGo] at h
    split at h
    · cases h
    · split at h
      · injection h with h
        have e:acc = text := congrArg (fun x => x.2.2.2) h
        rw [← e]; omega
      · split at h
        · cases h
        · rename_i c w _
          have h1 := strGo_text n _ _ _ _ _ _ _ h
          have h2 := utf8_len ((c:Nat):Int)
          unfold utf8 at h2
          rw [List.length_append] at h1
          omega
theorem lex_text {r:List UInt8} {k num:Int} {len:Nat} {text:List UInt8} (h:lexT r = .ok (k,len,num,text)):text.length ≤ 4 * r.length := by
  unfold lexT at h
  simp only at h
  split at h
  · injection h with h
    have e:[] = text := congrArg (fun x => x.2.2.2) h
    rw [← e]; exact Nat.zero_le _
  · split at h
    · unfold numT at h
      simp only at h
      repeat' split at h
      all_goals first
        | (injection h with h; have e:[] = text := congrArg (fun x => x.2.2.2) h; rw [← e]; exact Nat.zero_le _)
        | cases h
    · split at h
      · unfold wordT at h
        simp only at h
        have hl := tw_len aln r
        repeat' split at h
        all_goals first
          | (injection h with h; have e:r.takeWhile aln = text := congrArg (fun x => x.2.2.2) h; rw [← e]; omega)
          | cases h
      · split at h
        · exact Nat.le_trans (strGo_text _ _ _ _ _ _ _ _ h) (by simp)
        · split at h
          · unfold charT at h
            simp only at h
            repeat' split at h
            all_goals first
              | (injection h with h; have e:[] = text := congrArg (fun x => x.2.2.2) h; rw [← e]; exact Nat.zero_le _)
              | cases h
          · unfold symT at h
            repeat' split at h
            · injection h with h
              have e:r.take 2 = text := congrArg (fun x => x.2.2.2) h
              rw [← e,List.length_take]; omega
            · injection h with h
              have e:r.take 1 = text := congrArg (fun x => x.2.2.2) h
              rw [← e,List.length_take]; omega
            · cases h
theorem scanF_bnd:∀ (n:Nat) (r:List UInt8) (p:Nat) (m:List Tok),scanF n r p = .ok m→m.length ≤ r.length∧∀ t ∈ m,t.text.length ≤ 4 * r.length
  | 0,r,p,m,h => by
    injection h with h
    subst h; exact ⟨Nat.zero_le _,fun t ht => by cases ht⟩
  | n + 1,r,p,m,h => by
    simp only [scanF] at h
    by_cases hq:r.drop (skipM false r) = []
    · rw [if_pos hq] at h
      injection h with h; subst h
      exact ⟨Nat.zero_le _,fun t ht => by cases ht⟩
    · rw [if_neg hq] at h
      cases hz:lexT (r.drop (skipM false r)) with
      | error z => rw [hz] at h; cases h
      | ok z =>
        obtain ⟨kd,len,num,text⟩ := z
        have hlen := lex_len hq
        rw [hz] at h hlen
        have hlen:1 ≤ len∧len ≤ (r.drop (skipM false r)).length := hlen
        have ht := lex_text hz
        simp only at h
        cases hf:scanF n ((r.drop (skipM false r)).drop len) (p + skipM false r + len) with
        | error e => rw [hf] at h; cases h
        | ok l2 =>
          rw [hf] at h
          injection h with h
          subst h
          obtain ⟨b1,b2⟩ := scanF_bnd n _ _ l2 hf
          rw [List.length_drop,List.length_drop] at b1 b2
          rw [List.length_drop] at hlen ht
          refine ⟨by rw [List.length_cons]; omega,fun t hm => ?_⟩
          rcases List.mem_cons.1 hm with rfl | hm
          · simp only; omega
          · have := b2 t hm; omega
end Go.Proofs.YtfldjfpcefcjdaaDoor
namespace Go.Proofs.YtfldjfpcefcjdaaDoor
open Go Go.Ab
set_option maxRecDepth 100000
theorem placed_at {s:List UInt8}:∀ {l:List Tok} {e:Int},placed s e l→∀ t ∈ l,0 ≤ t.at_∧t.at_ ≤ s.length
  | [],_,_ => fun t ht => by cases ht
  | u :: l,e,h => fun t ht => by
    obtain ⟨⟨h0,h1,h2,h3⟩,_,_,h6⟩ := h
    rcases List.mem_cons.1 ht with rfl | ht
    · omega
    · exact placed_at h6 t ht
noncomputable def El5:Senv := EC conLx 101 2 [4,5,6,7,8,9,10,11,19,41,55] (fun _ => ([],[]))
noncomputable section
def tr7q0 (p0:List UInt8):Bool := decide ((2000:Int) < (LI p0))
def tr7q1 (p0 p1:List UInt8):Bool := bif tr7q0 p0 then true else tr7q0 p1
def tr7q2:Prop := ∃ (_x:Unit),True∧(True∧True)∧True∧∀ (_y:Unit),True→True∧∃ (_y:Unit),True∧SM true∧True∧True
def tr7q3 (p0:List UInt8):Int := scE (scanT p0)
def tr7q4 (p0:List UInt8):Bool := tr7q3 p0 != Z0
def tr7q5 (p0:List UInt8):Int := scA (scanT p0)
def tr7q6:Prop := SM N0∧(∀ (i:Nat),i < N0→eqOf (List D) [] [])∧True
def tr7q7:Prop := tr7q6∧tr7q6∧eqOf (List UInt8) [] []∧True
def tr7q8 (p0 p1:List UInt8):Except (Int × Nat) (List Tok) := scanT (p0 ++ [(10:UInt8)] ++ p1)
def tr7q9 (p0 p1:List UInt8):Int := scE (tr7q8 p0 p1)
def tr7q10 (p0 p1:List UInt8):Int := scA (tr7q8 p0 p1)
def tr7q11 (p0 p1:List UInt8):List Tok := scL (tr7q8 p0 p1)
def tr7q12 (p0 p1:List UInt8):Nat := LN (tr7q11 p0 p1)
def tr7q13:Prop := True∧∃ (_y:Unit),True∧false = true∧True∧True
def tr7q14 (p0:List UInt8):Nat := LN (scL (scanT p0))
def tr7q15 (p0:List UInt8):Nat := N0 + tr7q14 p0
def tr7q16 (p0:List UInt8):Nat := tr7q15 p0 + N1
def tr7q17:Tok := Tok.mk Z0 Z0 Z0 Z0 []
def tr7q18 (p0:List UInt8) (p1:Nat):List D := Tok.row (List.getD (scL (scanT p0)) p1 tr7q17)
def tr7q19 (p0:List UInt8):Int := IntKind.wrap IntKind.i64 ((LI p0) + Z1)
def tr7q20 (p0:List UInt8):List Tok := toksOf (tr7q14 p0) fun (i:Nat) => tr7q18 p0 i
def tr7q21 (p0 p1:List UInt8):List Tok := List.map (shT (Int.toNat (tr7q19 p0))) (tr7q20 p1)
def tr7q22 (p0 p1:List UInt8):Nat := tr7q16 p0 + LN (tr7q21 p0 p1)
def tr7q23 (p0 p1:List UInt8) (p2:Nat):List D := Tok.row (List.getD (tr7q11 p0 p1) p2 tr7q17)
end
theorem law_joins (s m:List UInt8) (hs:s.length ≤ maxB) (hm:m.length ≤ maxB):ACalls Tryd.prog 7 [.str s,.str m] ⟨[],[]⟩ (SpecR (sC [.str s,.str m] (.bool true)) ()) := by
  refine con_of (A := sC _ _) (x := ()) (E := El5) (eOk conLx_ok rfl) Tryd.func7 rfl (by kernel_rfl) rfl (by simp [sC,El5,EC,E0]) ?_
  refine vc_eq (T :=
    ifB (tr7q0 s) (true = tr7q1 s m∧True) (tr7q0 m = tr7q1 s m∧True)∧ifB (tr7q1 s m) tr7q2 (LN s ≤ (140737488355328:Nat)∧∀ (y:Unit),True→∀ (x:Nat),True→SM x∧LN m ≤ (140737488355328:Nat)∧∀ (y:Unit),True→∀ (x_1:Nat),x ≠ x_1∧True→SM x_1∧side (LN s + N1 ≤ (9223372036854775807:Nat)) (side (LN (s ++ [(10:UInt8)]) + LN m ≤ (9223372036854775807:Nat)) (LN (s ++ [(10:UInt8)] ++ m) ≤ (140737488355328:Nat)∧∀ (y:Unit),True→∀ (x_2:Nat),x_1 ≠ x_2∧x ≠ x_2∧True→SM x_2∧SM x∧ifB (tr7q4 s) (SM x∧SM x_2∧((SM (tr7q3 s)∧SM (tr7q5 s)∧tr7q7)∧(SM (tr7q9 s m)∧SM (tr7q10 s m)∧tr7q7)∧True)∧∀ (y:Unit),True→ifB (tr7q3 s == tr7q9 s m && tr7q5 s == tr7q10 s m) (ifB ((NI (tr7q12 s m)) == Z0) tr7q2 tr7q13) tr7q13) (SM x_1∧ifB (tr7q4 m) (SM x_2∧SM x_1∧ifB (tr7q9 s m == tr7q3 m) (SM x_2∧SM x_1∧ifB (tr7q10 s m == IntKind.wrap IntKind.i64 (IntKind.wrap IntKind.i64 (tr7q5 m + (LI s)) + Z1)) tr7q2 tr7q13) tr7q13) (side (tr7q15 s * (48:Nat) ≤ (140737488355328:Nat)∧tr7q15 s ≤ (9223372036854775807:Nat)) (∀ (t:Nat),SM t∧side (tr7q16 s * (48:Nat) ≤ (140737488355328:Nat)∧tr7q16 s ≤ (9223372036854775807:Nat)) (∀ (t:Nat),((toksB (tr7q14 m) fun (i:Nat) => tr7q18 m i) = true∧tr7q14 m ≤ (4294967296:Nat)∧(Z0 ≤ tr7q19 s∧tr7q19 s ≤ (4294967296:Int))∧∀ (t:Tok),t ∈ tr7q20 m→Z0 ≤ Tok.at_ t∧Tok.at_ t ≤ (4294967296:Int))∧∀ (y:Unit),True→SM t∧side (tr7q22 s m * (48:Nat) ≤ (140737488355328:Nat)∧tr7q22 s m ≤ (9223372036854775807:Nat)) (∀ (t:Nat),SM x_2∧ifB (tr7q9 s m == Z0) (((toksB (tr7q12 s m) fun (i:Nat) => tr7q23 s m i) = true∧toksB (tr7q22 s m) (appF (tr7q16 s) (appF (tr7q15 s) (appF N0 (fun (i:Nat) => []) fun (i:Nat) => tr7q18 s i) fun (i:Nat) => List.getD [[ZI (6:Int),ZI (LI s),ZI Z1,ZI Z0,D.str []]] i []) fun (i:Nat) => Tok.row (List.getD (tr7q21 s m) i tr7q17)) = true∧tr7q12 s m ≤ (140737488355328:Nat)∧tr7q22 s m ≤ (140737488355328:Nat))∧∀ (y:Unit),True→ifB (decide ((toksOf (tr7q12 s m) fun (i:Nat) => tr7q23 s m i) = toksOf (tr7q22 s m) (appF (tr7q16 s) (appF (tr7q15 s) (appF N0 (fun (i:Nat) => []) fun (i:Nat) => tr7q18 s i) fun (i:Nat) => List.getD [[ZI (6:Int),ZI (LI s),ZI Z1,ZI Z0,D.str []]] i []) fun (i:Nat) => Tok.row (List.getD (tr7q21 s m) i tr7q17)))) tr7q2 tr7q13) tr7q13))))))))) (by kernel_rfl) ?_
  delta LI LN N0 N1 NI SM Z0 Z1 ZI tr7q0 tr7q1 tr7q10 tr7q11 tr7q12 tr7q13 tr7q14 tr7q15 tr7q16 tr7q17 tr7q18 tr7q19 tr7q2 tr7q20 tr7q21 tr7q22 tr7q23 tr7q3 tr7q4 tr7q5 tr7q6 tr7q7 tr7q8 tr7q9
  simp only [eq_self,ne_eq,implies_true,ifB_iff,side_iff,decide_eq_true_eq,decide_eq_false_iff_not,true_and,and_true,beq_iff_eq,Bool.cond_true_left,Bool.and_eq_true,Bool.and_eq_false_iff,Bool.or_eq_true,Bool.or_eq_false_iff,beq_eq_false_iff_ne,exists_const,forall_const]
  have dt:(default:Tok) = { kind := 0,at_ := 0,len := 0,num := 0,text := [] } := rfl
  simp only [← dt]
  have et:∀ l:List Tok,toksOf l.length (fun i => (l.getD i default).row) = l := fun l => toksOf_eq rfl fun _ _ => rfl
  have eb:∀ l:List Tok,toksB l.length (fun i => (l.getD i default).row) = true := fun l => toksB_eq (l := l) rfl fun _ _ => rfl
  simp only [et,eb]
  unfold maxB at hs hm
  refine ⟨⟨fun h => by rw [decide_eq_true h]; rfl,fun h => by rw [decide_eq_false h]; rfl⟩,fun ⟨h1,h2⟩ => ?_⟩
  have hj:s ++ [10] ++ m = s ++ 10 :: m := by simp
  have hjl:(s ++ 10 :: m).length = s.length + 1 + m.length := by simp; omega
  rw [hj]
  have ha:scanT (s ++ 10 :: m) = joinX s.length (shX (s.length + 1) (scanT m)) (scanT s) := by
    rw [scan_small (by omega),scan_small (s := s) (by omega),scan_small (s := m) (by omega),scanF_join (m := m) (s.length + 1) s 0 ((s ++ 10 :: m).length + 1) (by omega) (by omega),Nat.zero_add]
    have hsh := scanF_shift (s.length + 1) ((s ++ 10 :: m).length + 1) m 0
    rw [Nat.zero_add] at hsh
    rw [hsh,scanF_fuel ((s ++ 10 :: m).length + 1) (m.length + 1) m 0 (by omega) (by omega)]
  refine ⟨by omega,fun x => ⟨by omega,fun x1 _ => ⟨by omega,by rw [List.length_append]; simp only [List.length_cons,List.length_nil]; omega,by omega,fun x2 _ => ?_⟩⟩⟩
  rw [ha]
  cases hz:scanT s with
  | error z =>
    obtain ⟨e,a⟩ := z
    have he:(scE (.error (e,a)) != 0) = true := by simpa [scE] using scanT_err hz
    refine ⟨fun _ => ⟨fun _ h => (h rfl).elim,fun h => ?_⟩,fun h => by rw [he] at h; exact Bool.noConfusion h⟩
    rcases h with h | h <;> exact (h rfl).elim
  | ok l =>
    refine ⟨fun h => Bool.noConfusion h,fun _ => ?_⟩
    have hf:scanF (s.length + 1) s 0 = .ok l := by rw [← scan_small (by omega)]; exact hz
    obtain ⟨b1,_⟩ := scanF_bnd _ _ _ _ hf
    have hP := scanF_placed m (m.length + 1) 0 (Nat.zero_le _)
    rw [List.drop_zero,← scan_small (by omega)] at hP
    cases hy:scanT m with
    | error z =>
      obtain ⟨e,a⟩ := z
      rw [hy] at hP
      have hP:a ≤ m.length := hP
      have he:(scE (.error (e,a)) != 0) = true := by simpa [scE] using scanT_err hy
      refine ⟨fun _ => ⟨fun _ h => (h ?_).elim,fun h => (h rfl).elim⟩,fun h => by rw [he] at h; exact Bool.noConfusion h⟩
      have e1:scA (.error (e,a)) = (a:Int) := rfl
      have e2:scA (joinX s.length (shX (s.length + 1) (.error (e,a))) (.ok l)) = ((a + (s.length + 1):Nat):Int) := rfl
      rw [e1,e2,wrap_i64' (n := (a:Int) + s.length) (by omega) (by omega),wrap_i64' (by omega) (by omega)]
      omega
    | ok l2 =>
      rw [hy] at hP
      have hP:placed m 0 l2 := hP
      have hf2:scanF (m.length + 1) m 0 = .ok l2 := by rw [← scan_small (by omega)]; exact hy
      obtain ⟨c1,_⟩ := scanF_bnd _ _ _ _ hf2
      have hat := placed_at hP
      have w1:IntKind.i64.wrap ((s.length:Int) + 1) = ((s.length + 1:Nat):Int) := by rw [wrap_i64' (by omega) (by omega)]; rfl
      have e1:scL (.ok l) = l := rfl
      have e2:scL (.ok l2) = l2 := rfl
      have e3:scL (joinX s.length (shX (s.length + 1) (.ok l2)) (.ok l)) = l ++ brk0 s.length :: l2.map (shT (s.length + 1)) := rfl
      rw [w1,e1,e2,e3]
      simp only [Int.toNat_natCast,List.length_map,Nat.zero_add]
      have hrow:∀ i,i < l.length + 1 + l2.length→appF (l.length + 1) (appF l.length (appF 0 (fun i => []) fun i => (l.getD i default).row) fun i => [[D.int .i64 6,D.int .i64 (s.length:Int),D.int .i64 1,D.int .i64 0,D.str []]].getD i []) (fun i => ((l2.map (shT (s.length + 1))).getD i default).row) i = ((l ++ brk0 s.length :: l2.map (shT (s.length + 1))).getD i default).row := by
        intro i hi
        simp only [appF,Nat.not_lt_zero,if_false,Nat.sub_zero]
        by_cases h1:i < l.length + 1
        · rw [if_pos h1]
          by_cases h2:i < l.length
          · rw [if_pos h2]
            simp [List.getD_eq_getElem?_getD,List.getElem?_append_left h2]
          · have:i = l.length := by omega
            subst this
            rw [if_neg h2,Nat.sub_self]
            simp [List.getD_eq_getElem?_getD,brk0,Tok.row]
        · rw [if_neg h1]
          congr 1
          rw [List.getD_eq_getElem?_getD,List.getD_eq_getElem?_getD,List.getElem?_append_right (by omega),show i - l.length = (i - (l.length + 1)) + 1 by omega,List.getElem?_cons_succ]
      have hlen:(l ++ brk0 s.length :: l2.map (shT (s.length + 1))).length = l.length + 1 + l2.length := by simp; omega
      rw [toksOf_eq hlen.symm hrow,toksB_eq hlen.symm hrow]
      refine ⟨fun h => Bool.noConfusion h,fun _ => ⟨by omega,by omega,⟨trivial,by omega,by omega,fun t ht => ?_⟩,by omega,fun _ => ⟨⟨trivial,rfl,by omega,by omega⟩,fun h => (h rfl).elim⟩,fun h => (h rfl).elim⟩⟩
      have := hat t ht
      omega
end Go.Proofs.YtfldjfpcefcjdaaDoor
namespace Go.Proofs.YtfldjfpcefcjdaaDoor
open Go Go.Ab Go.RowKit
set_option maxRecDepth 100000
noncomputable def wit5:Array Value := #[.string ⟨#[]⟩,.string ⟨#[]⟩]
theorem laid_met5 (os:Os):laidMet Tryd.prog laidL ((laidWorld os).forCall (fun _ _ => 0) ⟨#[],wit5,[]⟩).memory :=
  laid_metA os wit5
theorem reads5 (os:Os) {H:Type} (enc:TypeId × Value→H):∃ x,DataW.whole enc Tryd.prog ((laidWorld os).forCall (fun _ _ => 0) ⟨#[],wit5,[]⟩).memory [9,9] [] false (wit5).toList 8 = some x :=
  Option.isSome_iff_exists.1 (by kernel_rfl)
theorem contract5 {H : Type} {enc : TypeId × Value → H}
    (W:World) (base:Nat) (args:Array Value) (ds gs:List (DataW H)) (before:List MemPlace)
    (hval:∀ (j:Nat) t v,Tryd.f7.params[j]? = some t→args[j]? = some v→Value.okWide Tryd.prog W .any base t v)
    (hW:DataW.Whole enc Tryd.prog Tryd.f7.params.toList Rows.tokenJoinsSpec.vars false W args.toList ds gs before)
    (hsz:(DataW.weightsEach Tryd.prog (Tryd.f7.params.toList ++ Rows.tokenJoinsSpec.plain.varTypes Tryd.prog) (ds ++ gs)).all (· ≤ reachBytes) = true) (hL:laidMetH Tryd.prog laidL W) :
    Calls Tryd.prog 7 args W fun e W' => ∃ v,e = .returned v∧Rows.tokenJoinsSpec.post enc Tryd.prog Tryd.f7 false true false false W args v W' := by
  refine law_contract (rs := [(9,RStr),(9,RStr)]) laid (by rw [Tryd.params7]; kernel_rfl) rfl (fun ds hd => ?_) (rt := 4) rfl Tryd.underlying4 (by rw [Tryd.params7]; rfl) ?_ W (g0_laid hL) base args ds gs before hval hW hsz ?_
  · rw [Tryd.params7] at hd
    match ds,hd with
    | [_,_],_ => exact ⟨rfl,rfl,rfl⟩
  · intro r hr
    simp only [List.mem_cons,List.not_mem_nil,or_false,or_self] at hr
    subst hr
    exact read_string Tryd.underlying9
  · intro Ds h
    obtain ⟨dx,_,rfl,hx,h⟩ := h.flat (by kernel_rfl)
    obtain ⟨dy,_,rfl,hy,h⟩ := h.flat (by kernel_rfl)
    obtain rfl := h.nil
    obtain ⟨x,ex,hokx⟩ := hx
    injection ex with ex _
    subst ex
    obtain ⟨y,ey,hoky⟩ := hy
    injection ey with ey _
    subst ey
    exact (law_joins x y hokx hoky).mono fun r S' ⟨_,_,hr,_⟩ => hr
theorem lifted5 (os : Os) (started : os.Started) (H : Type) (enc : TypeId × Value → H) (F : Stop.Interp) :
    ReturnsInHanded {} Tryd.checked os 7 .any ((OpenSpec.ofChange Rows.tokenJoinsSpec).preRow enc Tryd.prog Tryd.f7 Rows.tokenJoinsRow.domain false Rows.tokenJoinsRow.laid) (((OpenSpec.ofChange Rows.tokenJoinsSpec).at F).post enc Tryd.prog Tryd.f7 false true false false) := by
  obtain ⟨x,hx⟩ := reads5 os enc
  refine returnsInHanded_of_row (C := Tryd.checked) (s := OpenSpec.ofChange Rows.tokenJoinsSpec) own started (by kernel_rfl) Tryd.func7
    (witness_row_atRef (enc := enc) (C := Tryd.checked) false (laidWorld os) wit5 rfl (by kernel_rfl) (by kernel_rfl) (by kernel_rfl)
      (OpenSpec.preRow_of_cond 8 hx rfl (fun k hk => by cases hk) (by kernel_rfl) (laid_met5 os))) ?_
  intro W base args ds gs before hval hW _ _ hsz hL _ _
  exact contract5 W base args ds gs before hval hW hsz hL
theorem said5:Rows.TokenJoinsSaid :=
  OpenClaim.holds_of_cond 7 Tryd.f7 rfl rfl rfl rfl rfl rfl rfl ⟨rfl,rfl,rfl,rfl,rfl⟩ rfl rfl rfl rfl rfl (by kernel_rfl) Tryd.func7 (by kernel_rfl)
    (of_decide_eq_true (by kernel_rfl)) (by unfold Func.isWrapper; first | (rw [if_pos (by decide +kernel)]; kernel_rfl) | (rw [if_neg (by decide +kernel)]; exact ⟨rfl,rfl⟩))
    (fun os started H enc _ F => by rw [OpenClaim.pre_eq_preRow]; exact lifted5 os started H enc F)
theorem plain5 (f : FuncId) (fn : Func) (hf : Tryd.pinned.checked.prog.funcNamed "arraylang/arraylanglaw08.TokenJoins" = some f) (hfn : Tryd.pinned.checked.prog.funcs[f]? = some fn) :
    true = Tryd.pinned.checked.prog.looks []∧∀ (j:Nat) t,fn.params[j]? = some t→Tryd.pinned.checked.prog.wantsStandIn t = false := by
  obtain rfl : f = 7 := Option.some.inj ((show Tryd.prog.funcNamed "arraylang/arraylanglaw08.TokenJoins" = some 7 by kernel_rfl).symm.trans hf) |>.symm
  obtain rfl:fn = Tryd.f7 := (Option.some.inj (Tryd.func7.symm.trans hfn)).symm
  refine ⟨by kernel_rfl,fun j t ht => ?_⟩
  rw [Tryd.params7] at ht
  have hm:t ∈ [9,9] := by simpa using Array.mem_of_getElem? ht
  simp only [List.mem_cons,List.not_mem_nil,or_false,or_self] at hm
  subst hm
  exact (show Tryd.prog.wantsStandIn 9 = false by kernel_rfl)
theorem provedTokenJoins:Rows.TokenJoinsCardSaid :=
  Claim7.holds_tied_plain_at .later [] _ _ _ _ said5 (fun _ h => by cases h) (by kernel_rfl) (fun _ h => by cases h) tokenJoins_row_tie rfl ⟨rfl,rfl⟩ (by kernel_rfl) rfl plain5 (by kernel_rfl)
end Go.Proofs.YtfldjfpcefcjdaaDoor
