/- The law's function returns true for every input, and its arguments read afterwards as before. -/
import Derived.Test.YtfldjfpcefcjdaaDoorW3
import Derived.Shelf.Strconv.Itoa4
import Derived.Lib.AppendIntMem
import Derived.Lib.ItoaLen
import Derived.Test.YtfldjfpcefcjdaaDoorProg
import Derived.Lib.LaidTab
import Derived.Lib.ItoaNum
import Derived.Lib.TrailingZeros
import Derived.Shelf.Unicode.DecodeSlow
import Derived.Calls
import Derived.Below
import Derived.Laws.Entries
import Derived.Laws.Build
import Derived.Laws.Concat
import Derived.Laws.AppendOwn
import Derived.Laws.IdiomStrings
import Derived.Laws.BytesString
import Derived.Laws.NewFold
import Derived.Laws.MakeOwn
import Derived.Laws.IdiomCopy
import Derived.Laws.Shifts
import Derived.Laws.Strings
import Derived.Laws.Strings2
import Derived.Laws.Strings3
import Derived.Laws.RangeString
import Derived.Laws.Cover4
import Derived.Lib.DecodeN
import Derived.MapKept
import Derived.Laws.StructEq
import Derived.Orders
import Derived.Scope
import Derived.ProofKit
import Derived.WalkKit
import Derived.OpenShut
import Derived.Recover
import Derived.KernelRfl
import Derived.Shelf.Strings.Builder1
import Derived.Shelf.Strings.Builder2
import Derived.Shelf.Strings.OnBuilder
import Derived.Shelf.Small.Utf8
import Derived.Shelf.Unicode.ValidAny
import Derived.Shelf.Strconv.Itoa0
import Derived.Shelf.Strconv.Itoa1
import Derived.Shelf.LaysM
import Derived.Shelf.Strconv.Itoa2
import Derived.Shelf.Strconv.Itoa3
import Derived.Shelf.Strings.Prefix
import Derived.Shelf.Unicode.Latin
import Derived.Shelf.Unicode.Decode
import Derived.Shelf.Unicode.DecodeAny
import Derived.Shelf.Unicode.CaseLookup
import Derived.Shelf.Unicode.CaseConvert
import Derived.Shelf.Unicode.CaseTo
import Derived.Shelf.Unicode.CaseLaid
import Derived.Lib.Builder
import Derived.Lib.UnsafeStr
import Derived.Lib.MapLaws
import Derived.Lib.Join
import Derived.Test.YtfldjfpcefcjdaaDoorCards
import Derived.Test.YtfldjfpcefcjdaaDoorTie
import Derived.Deep.DeepHandedRow
import Derived.Deep.DeepLaidRun
import Derived.Deep.DeepWitnessRowRef
import Derived.Lib.LaidIn
import Derived.Lib.LaidU8T
import Derived.Lib.LaidCaseMet
import Derived.PinnedBridge
import Derived.Stop.LaidErr
namespace Go.Proofs.YtfldjfpcefcjdaaDoor
open Go Go.Ab
set_option maxRecDepth 100000
theorem sep_dig {b:UInt8} (h:sep b):dig b = false := by rcases h with rfl | rfl <;> rfl
theorem sep_aln {b:UInt8} (h:sep b):aln b = false := by rcases h with rfl | rfl <;> rfl
theorem sep_hex {b:UInt8} (h:sep b):hexB b = false := by rcases h with rfl | rfl <;> rfl
theorem tw_sep {p:UInt8→Bool} {b:UInt8} {m:List UInt8} (hb:p b = false):∀ r:List UInt8,(r ++ b :: m).takeWhile p = r.takeWhile p
  | [] => by simp [hb]
  | c :: r => by
    simp only [List.cons_append,List.takeWhile_cons]
    cases p c with
    | false => rfl
    | true => simp only [if_true]; rw [tw_sep hb r]
theorem dr_sep {x:List UInt8} {r:List UInt8} {k:Nat} (h:k ≤ r.length):(r ++ x).drop k = r.drop k ++ x := by
  rw [List.drop_append]
  have:k - r.length = 0 := by omega
  rw [this]; rfl
theorem gd_lt {x r:List UInt8} {k:Nat} (h:k < r.length):(r ++ x).getD k 0 = r.getD k 0 := by
  simp [List.getD_eq_getElem?_getD,List.getElem?_append_left h]
theorem gd_at {r m:List UInt8} {b:UInt8}:(r ++ b :: m).getD r.length 0 = b := by
  simp [List.getD_eq_getElem?_getD]
theorem at_sep {α:Type} {f:UInt8→α} {b:UInt8} {m r:List UInt8} {k:Nat} (hf:f b = f 0) (h:k ≤ r.length):f ((r ++ b :: m).getD k 0) = f (r.getD k 0) := by
  by_cases hk:k < r.length
  · rw [gd_lt hk]
  · obtain rfl:k = r.length := by omega
    rw [gd_at,gd_ge (Nat.le_refl _),hf]
theorem head_sep {r m:List UInt8} {b:UInt8} (h:r ≠ []):(r ++ b :: m).getD 0 0 = r.getD 0 0 := gd_lt (List.length_pos_iff.2 h)
theorem num_sep {b:UInt8} {m r:List UInt8} (hb:sep b) (h:r ≠ []):numT (r ++ b :: m) = numT r := by
  have h1:1 ≤ r.length := List.length_pos_iff.2 h
  unfold numT
  rw [head_sep h]
  generalize hu:(if r.getD 0 0 = 95 then 1 else 0) = u
  have hu1:u ≤ r.length := by split at hu <;> omega
  simp only
  rw [dr_sep hu1,tw_sep (sep_dig hb)]
  have hl:u + ((r.drop u).takeWhile dig).length ≤ r.length := by
    have := tw_len dig (r.drop u)
    rw [List.length_drop] at this
    omega
  rw [dr_sep hl]
  have e:∀ q:List UInt8,(alp ((q ++ b :: m).getD 0 0) || (q ++ b :: m).getD 0 0 == 95) = (alp (q.getD 0 0) || q.getD 0 0 == 95) := fun q =>
    at_sep (f := fun c => alp c || c == 95) (by rcases hb with rfl | rfl <;> rfl) (Nat.zero_le _)
  rw [e]
theorem word_sep {b:UInt8} {m r:List UInt8} (hb:sep b):wordT (r ++ b :: m) = wordT r := by
  unfold wordT
  rw [tw_sep (sep_aln hb)]
theorem sym_sep2 {b c:UInt8} (hb:sep b):symL.contains [c,b] = false := by
  have:(symL.all fun x => x.length != 2 || (x.getD 1 0 != 10 && x.getD 1 0 != 32)) = true := by decide +kernel
  cases h:symL.contains [c,b] with
  | false => rfl
  | true =>
    have := List.all_eq_true.1 this [c,b] (by simpa using h)
    rcases hb with rfl | rfl <;> simp at this
theorem symT_sep {b:UInt8} {m r:List UInt8} (hb:sep b) (h:r ≠ []):symT (r ++ b :: m) = symT r := by
  unfold symT
  match r,h with
  | [c],_ =>
    have h2 := sym_sep2 (c := c) hb
    simp only [List.cons_append,List.nil_append,List.take_succ_cons,List.take_zero,List.length_cons,List.length_nil,List.take_nil,h2]
    simp
  | c :: d :: r,_ => simp
theorem dec_sep {b:UInt8} {m r:List UInt8} (hb:b.toNat / 64 ≠ 2) (h:r ≠ []):decT (r ++ b :: m) = decT r := by
  unfold decT
  match r,h with
  | [c],_ =>
    simp only [List.cons_append,List.nil_append,List.getD_cons_zero,List.getD_cons_succ,List.length_cons,List.length_nil,List.getD_nil,UInt8.toNat_zero]
    unfold Lib.decodeN
    simp [hb]
  | [c,d],_ =>
    simp only [List.cons_append,List.nil_append,List.getD_cons_zero,List.getD_cons_succ,List.length_cons,List.length_nil,List.getD_nil,UInt8.toNat_zero]
    unfold Lib.decodeN
    simp [hb]
  | [c,d,e],_ =>
    simp only [List.cons_append,List.nil_append,List.getD_cons_zero,List.getD_cons_succ,List.length_cons,List.length_nil,List.getD_nil,UInt8.toNat_zero]
    unfold Lib.decodeN
    simp [hb]
  | c :: d :: e :: f :: r,_ =>
    simp only [List.cons_append,List.getD_cons_zero,List.getD_cons_succ,List.length_cons,List.length_append]
    unfold Lib.decodeN
    have e1:∀ k,(1 < k + 1 + 1 + 1 + 1) = True := fun k => by simp
    have e2:∀ k,(2 < k + 1 + 1 + 1 + 1) = True := fun k => by simp
    have e3:∀ k,(3 < k + 1 + 1 + 1 + 1) = True := fun k => by simp
    simp only [e1,e2,e3]
theorem code_sep {b:UInt8} {m r:List UInt8} (hb:sep b):codeT (r ++ b :: m) = codeT r := by
  unfold codeT
  cases r with
  | nil => rcases hb with rfl | rfl <;> rfl
  | cons c r =>
    rw [head_sep (by simp)]
    by_cases hc:(c :: r).getD 0 0 = 123
    · rw [if_pos hc,if_pos hc,dr_sep (by simp),tw_sep (sep_hex hb)]
      have hl:1 + (((c :: r).drop 1).takeWhile hexB).length ≤ (c :: r).length := by
        have := tw_len hexB ((c :: r).drop 1)
        simp only [List.drop_succ_cons,List.drop_zero,List.length_cons] at this ⊢
        omega
      simp only
      rw [dr_sep hl]
      have e:∀ q:List UInt8,((q ++ b :: m).getD 0 0 = 125) = (q.getD 0 0 = 125) := fun q => at_sep (f := fun c => c = 125) (by rcases hb with rfl | rfl <;> simp) (Nat.zero_le _)
      simp only [e]
    · rw [if_neg hc,if_neg hc]
theorem esc_sep {b:UInt8} {m r:List UInt8} (hb:sep b) (h:r ≠ []):escT (r ++ b :: m) = escT r := by
  match r,h with
  | [c],_ =>
    unfold escT
    rcases hb with rfl | rfl <;> simp
  | c :: d :: r,_ =>
    unfold escT
    have := code_sep (m := m) (r := r) hb
    simp only [List.cons_append,List.getD_cons_succ,List.getD_cons_zero,List.drop_succ_cons,List.drop_zero,this]
theorem let_sep {b:UInt8} {m r:List UInt8} (hb:sep b) (h:r ≠ []):letT (r ++ b :: m) = letT r := by
  unfold letT
  rw [head_sep h,esc_sep hb h,dec_sep (by rcases hb with rfl | rfl <;> decide) h]
end Go.Proofs.YtfldjfpcefcjdaaDoor
namespace Go.Proofs.YtfldjfpcefcjdaaDoor
open Go Go.Ab
set_option maxRecDepth 100000
theorem end_app {q x:List UInt8} (h:q ≠ []):endT (q ++ x) = endT q := by
  match q,h with
  | c :: q,_ => rfl
theorem str_sep {b:UInt8} {m:List UInt8} (hb:sep b):∀ (n:Nat) (q:List UInt8) (p:Nat) (acc:List UInt8) (n':Nat),q.length < n→q.length < n'→(b = 10∨∃ x,strGo n q p acc = .ok x)→strGo n' (q ++ b :: m) p acc = strGo n q p acc
  | 0,_,_,_,_,h,_,_ => absurd h (Nat.not_lt_zero _)
  | n + 1,q,p,acc,0,_,h,_ => absurd h (Nat.not_lt_zero _)
  | n + 1,q,p,acc,n' + 1,h1,h2,ho => by
    by_cases hq:q = []
    · subst hq
      rcases ho with rfl | ⟨x,hx⟩
      · rfl
      · simp [strGo,endT] at hx
    · have he := end_app (x := b :: m) hq
      have hh := head_sep (b := b) (m := m) hq
      have hl := let_sep (m := m) hb hq
      simp only [strGo] at ho ⊢
      rw [he,hh,hl]
      cases hend:endT q with
      | true => rfl
      | false =>
        rw [hend] at ho
        simp only [Bool.false_eq_true,if_false] at ho ⊢
        by_cases h34:q.getD 0 0 = 34
        · rw [if_pos h34,if_pos h34]
        · rw [if_neg h34] at ho ⊢
          rw [if_neg h34]
          cases hlt:letT q with
          | none => rfl
          | some x =>
            obtain ⟨c,w⟩ := x
            rw [hlt] at ho
            obtain ⟨l1,l2⟩ := let_len hq hlt
            have hql:0 < q.length := List.length_pos_iff.2 hq
            simp only at ho ⊢
            rw [dr_sep l2]
            exact str_sep hb n (q.drop w) _ _ n' (by rw [List.length_drop]; omega) (by rw [List.length_drop]; omega) ho
theorem char_sep {b:UInt8} {m r:List UInt8} (hb:sep b) (h:r ≠ []) (ho:b = 10∨∃ x,charT r = .ok x):charT (r ++ b :: m) = charT r := by
  have h1:1 ≤ r.length := List.length_pos_iff.2 h
  unfold charT at ho ⊢
  rw [dr_sep h1]
  generalize r.drop 1 = q at ho ⊢
  simp only at ho ⊢
  by_cases hq:q = []
  · subst hq
    rcases ho with rfl | ⟨x,hx⟩
    · rfl
    · simp [endT] at hx
  · have he := end_app (x := b :: m) hq
    have hh := head_sep (b := b) (m := m) hq
    have hl := let_sep (m := m) hb hq
    rw [he,hh,hl]
    cases hend:endT q with
    | true => rfl
    | false =>
      rw [hend] at ho
      simp only [Bool.false_eq_true,if_false] at ho ⊢
      by_cases h39:q.getD 0 0 = 39
      · rw [if_pos h39,if_pos h39]
      · rw [if_neg h39] at ho ⊢
        rw [if_neg h39]
        cases hlt:letT q with
        | none => rfl
        | some x =>
          obtain ⟨c,w⟩ := x
          rw [hlt] at ho
          obtain ⟨l1,l2⟩ := let_len hq hlt
          simp only at ho ⊢
          rw [dr_sep l2]
          by_cases hd:q.drop w = []
          · rw [hd] at ho ⊢
            rcases ho with rfl | ⟨x,hx⟩
            · rfl
            · simp [endT] at hx
          · rw [end_app hd,head_sep hd]
theorem lex_sep {b:UInt8} {m r:List UInt8} (hb:sep b) (h:r ≠ []) (ho:b = 10∨∃ x,lexT r = .ok x):lexT (r ++ b :: m) = lexT r := by
  unfold lexT at ho ⊢
  rw [head_sep h]
  simp only at ho ⊢
  by_cases c1:r.getD 0 0 = 10∨r.getD 0 0 = 59
  · rw [if_pos c1,if_pos c1]
  rw [if_neg c1] at ho ⊢
  rw [if_neg c1]
  by_cases c2:(dig (r.getD 0 0) || r.getD 0 0 == 95) = true
  · rw [if_pos c2,if_pos c2]; exact num_sep hb h
  rw [if_neg c2] at ho ⊢
  rw [if_neg c2]
  by_cases c3:alp (r.getD 0 0) = true
  · rw [if_pos c3,if_pos c3]; exact word_sep hb
  rw [if_neg c3] at ho ⊢
  rw [if_neg c3]
  by_cases c4:r.getD 0 0 = 34
  · rw [if_pos c4] at ho ⊢
    rw [if_pos c4]
    have h1:1 ≤ r.length := List.length_pos_iff.2 h
    unfold strT at ho ⊢
    rw [dr_sep h1]
    exact str_sep hb _ _ _ _ _ (by rw [List.length_drop]; omega) (by rw [List.length_drop,List.length_append]; omega) ho
  rw [if_neg c4] at ho ⊢
  rw [if_neg c4]
  by_cases c5:r.getD 0 0 = 39
  · rw [if_pos c5] at ho ⊢
    rw [if_pos c5]
    exact char_sep hb h ho
  rw [if_neg c5] at ho ⊢
  rw [if_neg c5]
  exact symT_sep hb h
end Go.Proofs.YtfldjfpcefcjdaaDoor
namespace Go.Proofs.YtfldjfpcefcjdaaDoor
open Go Go.Ab
set_option maxRecDepth 100000
def scanF:Nat→List UInt8→Nat→Except (Int × Nat) (List Tok)
  | 0,_,_ => .ok []
  | n + 1,r,p =>
    let k := skipM false r
    let q := r.drop k
    if q = [] then .ok []
    else match lexT q with
      | .error (e,o) => .error (e,p + k + o)
      | .ok (kd,len,num,text) =>
        match scanF n (q.drop len) (p + k + len) with
        | .error e => .error e
        | .ok l => .ok (⟨kd,((p + k:Nat):Int),len,num,text⟩ :: l)
def preL (l:List Tok):Except (Int × Nat) (List Tok)→Except (Int × Nat) (List Tok)
  | .error e => .error e
  | .ok m => .ok (l ++ m)
theorem scanGo_F:∀ (n:Nat) (r:List UInt8) (p:Nat) (l:List Tok),r.length < n→l.length + r.length ≤ 16384→scanGo n r p l = preL l (scanF n r p)
  | 0,_,_,_,h,_ => absurd h (Nat.not_lt_zero _)
  | n + 1,r,p,l,h1,h2 => by
    simp only [scanF,scanGo]
    split
    · simp [preL]
    · rename_i hq
      have hl := lex_len hq
      have hs := skip_le false r
      revert hl
      generalize lexT (r.drop (skipM false r)) = z
      intro hl
      match z,hl with
      | .error (e,o),_ => rfl
      | .ok (kd,len,num,text),hl =>
        have hl:1 ≤ len∧len ≤ (r.drop (skipM false r)).length := hl
        rw [List.length_drop] at hl
        simp only
        rw [if_neg (by omega),scanGo_F n _ _ _ (by simp only [List.length_drop]; omega) (by simp only [List.length_drop,List.length_append,List.length_cons,List.length_nil]; omega)]
        cases scanF n ((r.drop (skipM false r)).drop len) (p + skipM false r + len) with
        | error e => rfl
        | ok m => simp [preL]
end Go.Proofs.YtfldjfpcefcjdaaDoor
namespace Go.Proofs.YtfldjfpcefcjdaaDoor
open Go Go.Ab
set_option maxRecDepth 100000
def nameB (w:List UInt8):Bool := plainB w && decide (w.length ≤ 32) && !resB w
def TokF (r:List UInt8):Lex→Prop
  | .ok (k,len,_,text) => ((k = 4∨k = 5)→text = r.take len)∧(k = 4→nameB text = true)
  | .error _ => True
theorem word_facts {r:List UInt8} (h:r ≠ []) (ha:alp (r.getD 0 0) = true):TokF r (wordT r) := by
  unfold wordT
  simp only
  split
  · exact ⟨fun _ => (take_tw aln r).symm,fun h => by exact absurd h (by decide)⟩
  · rename_i hres
    split
    · trivial
    · rename_i hup
      split
      · trivial
      · rename_i hlen
        refine ⟨fun _ => (take_tw aln r).symm,fun _ => ?_⟩
        have hno:∀ b ∈ r.takeWhile aln,upp b = false := fun b hb => by
          cases hu:upp b with
          | false => rfl
          | true => exact (hup (List.any_eq_true.2 ⟨b,hb,hu⟩)).elim
        have hall:∀ b ∈ r.takeWhile aln,(low b || dig b) = true := fun b hb => by
          have h1 := tw_all aln r b hb
          unfold aln alp at h1
          rw [hno b hb,Bool.or_false] at h1
          exact h1
        match r,h with
        | c :: r,_ =>
          have ha:alp c = true := ha
          have hc:aln c = true := by unfold aln; rw [ha]; rfl
          have hlow:low c = true := by
            have h1 := hno c (by simp [hc])
            unfold alp at ha
            rw [h1,Bool.or_false] at ha
            exact ha
          unfold nameB plainB
          have e1:((c :: r).takeWhile aln).isEmpty = false := by simp [hc]
          have e2:((c :: r).takeWhile aln).getD 0 0 = c := by simp [hc]
          have e3:(((c :: r).takeWhile aln).all fun b => low b || dig b) = true := List.all_eq_true.2 hall
          have e4:resB ((c :: r).takeWhile aln) = false := by simpa using hres
          rw [e1,e2,e3,e4,hlow]
          simp
          omega
theorem sym_facts {r:List UInt8}:TokF r (symT r) := by
  unfold symT
  split
  · exact ⟨fun _ => rfl,fun h => by exact absurd h (by decide)⟩
  · split
    · exact ⟨fun _ => rfl,fun h => by exact absurd h (by decide)⟩
    · trivial
theorem str_facts (r:List UInt8):∀ (n:Nat) (q:List UInt8) (p:Nat) (acc:List UInt8),TokF r (strGo n q p acc)
  | 0,_,_,_ => trivial
  | n + 1,q,p,acc => by
    simp only [strGo]
    split
    · trivial
    split
    · exact ⟨fun h => by rcases h with h | h <;> exact absurd h (by decide),fun h => by exact absurd h (by decide)⟩
    split
    · trivial
    · exact str_facts r n _ _ _
theorem lex_facts {r:List UInt8} (h:r ≠ []):TokF r (lexT r) := by
  unfold lexT
  simp only
  split
  · exact ⟨fun h => by rcases h with h | h <;> exact absurd h (by decide),fun h => by exact absurd h (by decide)⟩
  split
  · unfold numT
    generalize (if r.getD 0 0 = 95 then 1 else 0) = u
    simp only
    split
    · trivial
    split
    · trivial
    · exact ⟨fun h => by rcases h with h | h <;> exact absurd h (by decide),fun h => by exact absurd h (by decide)⟩
  split
  · rename_i ha
    exact word_facts h ha
  split
  · exact str_facts r _ _ _ _
  split
  · unfold charT
    simp only
    repeat' split
    all_goals first
      | trivial
      | exact ⟨fun h => by rcases h with h | h <;> exact absurd h (by decide),fun h => by exact absurd h (by decide)⟩
  · exact sym_facts
end Go.Proofs.YtfldjfpcefcjdaaDoor
namespace Go.Proofs.YtfldjfpcefcjdaaDoor
open Go Go.Ab
set_option maxRecDepth 100000
theorem showI_len {n:Int} (h:inI64 n):1 ≤ (showI n).length∧(showI n).length ≤ 21 := by
  have := itoa_len h
  unfold showI; unfold Lib.itoa at this
  split <;> simp_all
end Go.Proofs.YtfldjfpcefcjdaaDoor
namespace Go.Proofs.YtfldjfpcefcjdaaDoor
open Go Go.Ab
set_option maxRecDepth 100000
theorem escL_len (q:Int):∀ l:List Int,(escL q l).length ≤ 6 * l.length
  | [] => by simp [escL]
  | c :: l => by
    have h1 := escB_len c q
    have h2 := escL_len q l
    simp only [escL,List.flatMap_cons,List.length_append,List.length_cons] at h2 ⊢
    omega
theorem escL_cons (q c:Int) (l:List Int):escL q (c :: l) = escB c q ++ escL q l := by simp [escL]
theorem escL_nil (q:Int):escL q [] = [] := rfl
end Go.Proofs.YtfldjfpcefcjdaaDoor
namespace Go.Proofs.YtfldjfpcefcjdaaDoor
open Go Go.Ab
set_option maxRecDepth 100000
theorem dec_utf8 {c:Nat} (h:runeP c) (x:List UInt8):decT (utf8 (c:Int) ++ x) = (c,(utf8 (c:Int)).length) := by
  rw [utf8_enc h]
  unfold runeP at h
  unfold enc4 decT
  split
  · rename_i h1
    simp only [List.cons_append,List.nil_append,List.getD_cons_zero,List.length_cons,List.length_nil]
    rw [byteN c (by omega)]
    unfold Lib.decodeN
    rw [if_pos h1]
  split
  · rename_i h1 h2
    simp only [List.cons_append,List.nil_append,List.getD_cons_zero,List.getD_cons_succ,List.length_cons,List.length_nil]
    rw [byteN (192 + c / 64) (by omega),byteN (128 + c % 64) (by omega)]
    unfold Lib.decodeN
    rw [if_neg (by omega),if_pos (by omega),if_pos (by omega)]
    refine Prod.ext ?_ rfl
    simp only; omega
  split
  · rename_i h1 h2 h3
    simp only [List.cons_append,List.nil_append,List.getD_cons_zero,List.getD_cons_succ,List.length_cons,List.length_nil]
    rw [byteN (224 + c / 4096) (by omega),byteN (128 + c / 64 % 64) (by omega),byteN (128 + c % 64) (by omega)]
    unfold Lib.decodeN
    have e:(224 + c / 4096) % 16 * 4096 + (128 + c / 64 % 64) % 64 * 64 + (128 + c % 64) % 64 = c := by omega
    rw [e,if_neg (by omega),if_neg (by omega),if_pos (by omega),if_pos (by omega)]
  · rename_i h1 h2 h3
    simp only [List.cons_append,List.nil_append,List.getD_cons_zero,List.getD_cons_succ,List.length_cons,List.length_nil]
    rw [byteN (240 + c / 262144) (by omega),byteN (128 + c / 4096 % 64) (by omega),byteN (128 + c / 64 % 64) (by omega),byteN (128 + c % 64) (by omega)]
    unfold Lib.decodeN
    have e:(240 + c / 262144) % 8 * 262144 + (128 + c / 4096 % 64) % 64 * 4096 + (128 + c / 64 % 64) % 64 * 64 + (128 + c % 64) % 64 = c := by omega
    rw [e,if_neg (by omega),if_neg (by omega),if_neg (by omega),if_pos (by omega),if_pos (by omega)]
theorem utf8_ne (c:Int):utf8 c ≠ [] := by
  have : ∀ c : Nat, ((if c < 0x80 then ⟨#[UInt8.ofNat c]⟩
      else if c < 0x800 then ⟨#[UInt8.ofNat (0xC0 + c / 64),UInt8.ofNat (0x80 + c % 64)]⟩
      else if c < 0x10000 then ⟨#[UInt8.ofNat (0xE0 + c / 4096),UInt8.ofNat (0x80 + c / 64 % 64),UInt8.ofNat (0x80 + c % 64)]⟩
      else ⟨#[UInt8.ofNat (0xF0 + c / 262144),UInt8.ofNat (0x80 + c / 4096 % 64),UInt8.ofNat (0x80 + c / 64 % 64),UInt8.ofNat (0x80 + c % 64)]⟩:ByteArray).data.toList) ≠ [] := fun c => by
    (repeat' split) <;> simp
  exact this _
theorem utf8_small {c:Nat} (h:c < 128):utf8 (c:Int) = [UInt8.ofNat c] := by
  rw [utf8_enc (.inl (by omega))]
  unfold enc4
  rw [if_pos h]
theorem utf8_head {c:Nat} (h:runeP c) (x:List UInt8):(c < 128→(utf8 (c:Int) ++ x).getD 0 0 = UInt8.ofNat c)∧(128 ≤ c→128 ≤ ((utf8 (c:Int) ++ x).getD 0 0).toNat) := by
  refine ⟨fun hc => by rw [utf8_small hc]; rfl,fun hc => ?_⟩
  rw [utf8_enc h]
  unfold runeP at h
  unfold enc4
  rw [if_neg (by omega)]
  split
  · show 128 ≤ (UInt8.ofNat _).toNat
    rw [byteN _ (by omega)]; omega
  split
  · show 128 ≤ (UInt8.ofNat _).toNat
    rw [byteN _ (by omega)]; omega
  · show 128 ≤ (UInt8.ofNat _).toNat
    rw [byteN _ (by omega)]; omega
theorem hex_all:∀ n,n < 128→(hexN n).all hexB = true∧hxV (hexN n) 0 = n∧1 ≤ (hexN n).length∧(hexN n).length ≤ 2 := by
  have:((List.range 128).all fun n => (hexN n).all hexB && (hxV (hexN n) 0 == n) && decide (1 ≤ (hexN n).length) && decide ((hexN n).length ≤ 2)) = true := by decide +kernel
  intro n hn
  have := List.all_eq_true.1 this n (List.mem_range.2 hn)
  simp only [Bool.and_eq_true,beq_iff_eq,decide_eq_true_eq] at this
  exact ⟨this.1.1.1,this.1.1.2,this.1.2,this.2⟩
theorem tw_hit {p:UInt8→Bool} {b:UInt8} {x:List UInt8} (hb:p b = false):∀ w:List UInt8,w.all p = true→(w ++ b :: x).takeWhile p = w
  | [],_ => by simp [hb]
  | c :: w,h => by
    simp only [List.all_cons,Bool.and_eq_true] at h
    simp only [List.cons_append,List.takeWhile_cons,h.1,if_true]
    rw [tw_hit hb w h.2]
theorem code_hex {n:Nat} (h:n < 128) (x:List UInt8):codeT (123 :: (hexN n ++ 125 :: x)) = some (n,(hexN n).length + 2) := by
  obtain ⟨h1,h2,h3,h4⟩ := hex_all n h
  have e:(123 :: (hexN n ++ 125 :: x)).drop 1 = hexN n ++ 125 :: x := rfl
  have ew:(hexN n ++ 125 :: x).takeWhile hexB = hexN n := tw_hit (by rfl) _ h1
  unfold codeT
  rw [if_pos (show (123 :: (hexN n ++ 125 :: x)).getD 0 0 = 123 from rfl)]
  simp only [e,ew]
  have ed:(123 :: (hexN n ++ 125 :: x)).drop (1 + (hexN n).length) = 125 :: x := by
    rw [Nat.add_comm,List.drop_succ_cons,List.drop_left]
  rw [ed,h2,if_pos ⟨h3,by omega,rfl,runeP_valid.2 (.inl (by omega))⟩]
theorem let_esc {c : Nat} (h : runeP c) {q : Int} (hq : q = 34 ∨ q = 39) (x : List UInt8) :
    letT (escB c q ++ x) = some (c,(escB c q).length)∧endT (escB c q ++ x) = false∧(escB c q ++ x).getD 0 0 ≠ UInt8.ofNat q.toNat := by
  have hq0:UInt8.ofNat q.toNat ≠ 92 := by rcases hq with rfl | rfl <;> decide
  unfold escB
  split
  · rename_i h1
    have:c = 10 := by omega
    subst this
    exact ⟨rfl,rfl,fun e => hq0 e.symm⟩
  split
  · rename_i h1
    have:c = 9 := by omega
    subst this
    exact ⟨rfl,rfl,fun e => hq0 e.symm⟩
  split
  · rename_i h1
    have:c = 13 := by omega
    subst this
    exact ⟨rfl,rfl,fun e => hq0 e.symm⟩
  split
  · rename_i h1
    have h1:c = 92∨c = 34∨c = 39 := by omega
    refine ⟨?_,rfl,fun e => hq0 e.symm⟩
    rcases h1 with rfl | rfl | rfl <;> rfl
  split
  · rename_i h1
    have hc:c < 128 := by omega
    refine ⟨?_,rfl,fun e => hq0 e.symm⟩
    have e:[92,117,123] ++ hexN (c:Int).toNat ++ [125] ++ x = 92 :: 117 :: 123 :: (hexN c ++ 125 :: x) := by simp
    rw [e]
    have e2:letT (92 :: 117 :: 123 :: (hexN c ++ 125 :: x)) = (codeT (123 :: (hexN c ++ 125 :: x))).map fun y => (y.1,y.2 + 2) := rfl
    rw [e2,code_hex hc]
    simp
  · rename_i h1 h2 h3 h4 h5
    have hd := dec_utf8 h x
    obtain ⟨hh1,hh2⟩ := utf8_head h x
    have hn92:(utf8 (c:Int) ++ x).getD 0 0 ≠ 92∧¬ ((utf8 (c:Int) ++ x).getD 0 0).toNat < 32∧(utf8 (c:Int) ++ x).getD 0 0 ≠ 10∧(utf8 (c:Int) ++ x).getD 0 0 ≠ UInt8.ofNat q.toNat := by
      by_cases hc:c < 128
      · have e := hh1 hc
        have e2:((utf8 (c:Int) ++ x).getD 0 0).toNat = c := by rw [e,byteN c (by omega)]
        refine ⟨fun h => ?_,by omega,fun h => ?_,fun h => ?_⟩
        · rw [h] at e2; simp at e2; omega
        · rw [h] at e2; simp at e2; omega
        · rw [h] at e2
          rcases hq with rfl | rfl
          · simp at e2; omega
          · simp at e2; omega
      · have e := hh2 (by omega)
        refine ⟨fun h => ?_,by omega,fun h => ?_,fun h => ?_⟩
        · rw [h] at e; simp at e
        · rw [h] at e; simp at e
        · rw [h] at e
          rcases hq with rfl | rfl <;> simp at e
    refine ⟨?_,?_,hn92.2.2.2⟩
    · unfold letT
      rw [if_neg hn92.1,if_neg hn92.2.1,hd,if_neg ?_]
      intro e
      injection e with e1 e2
      subst e1
      rw [utf8_enc h] at e2
      exact absurd e2 (by decide)
    · unfold endT
      have hne:(utf8 (c:Int) ++ x).isEmpty = false := by
        cases hu:utf8 (c:Int) with
        | nil => exact (utf8_ne _ hu).elim
        | cons => rfl
      rw [hne]
      simpa using hn92.2.2.1
end Go.Proofs.YtfldjfpcefcjdaaDoor
namespace Go.Proofs.YtfldjfpcefcjdaaDoor
open Go Go.Ab
set_option maxRecDepth 100000
theorem utf8_pos (c:Int):1 ≤ (utf8 c).length := List.length_pos_iff.2 (utf8_ne c)
theorem runes_flat (cs:List Nat):(∀ c ∈ cs,runeP c)→∀ n,(flatU cs).length ≤ n→runesF n (flatU cs) = cs∧validF n (flatU cs) = true := by
  induction cs with
  | nil =>
    intro _ n _
    have e:flatU [] = [] := List.flatMap_nil
    rw [e,runesF_nil,validF_nil]
    exact ⟨rfl,rfl⟩
  | cons c cs ih =>
    intro h n hn
    have hc := h c (by simp)
    have hd := dec_utf8 hc (flatU cs)
    have hp := utf8_pos c
    rw [flatU_cons] at hn ⊢
    have hne:utf8 (c:Int) ++ flatU cs ≠ [] := fun e => utf8_ne _ (List.append_eq_nil_iff.1 e).1
    rw [List.length_append] at hn
    obtain ⟨m,rfl⟩:∃ m,n = m + 1 := ⟨n - 1,by omega⟩
    obtain ⟨i1,i2⟩ := ih (fun x hx => h x (by simp [hx])) m (by omega)
    rw [runesF_step hne,validF_step hne,hd]
    simp only
    rw [List.drop_left,i1,i2]
    refine ⟨rfl,if_neg fun e => ?_⟩
    injection e with e1 e2
    subst e1
    rw [utf8_enc hc] at e2
    exact absurd e2 (by decide)
def LexOk:Lex→Prop
  | .error _ => True
  | .ok (k,len,num,text) => (k = 1∧text = []∧num.natAbs ≤ maxNum)∨(k = 2∧text = []∧∃ c,runeP c∧num = (c:Nat)) ∨
    (k = 3∧num = 0∧∃ cs,(∀ c ∈ cs,runeP c)∧cs.length ≤ len∧text = flatU cs)∨(k = 4∧num = 0∧nameB text = true) ∨
    (k = 5∧num = 0∧(resL ++ symL).contains text = true)∨(k = 6∧num = 0∧text = [])
theorem valS_le:∀ (ds:List UInt8) (n v:Nat),n ≤ maxNum→valS ds n = some v→v ≤ maxNum
  | [],n,v,h,e => by injection e with e; omega
  | b :: r,n,v,h,e => by
    simp only [valS] at e
    split at e
    · rename_i hc
      refine valS_le r _ v ?_ e
      have := b.toNat_lt
      unfold maxNum at *
      omega
    · cases e
def StrOk (p:Nat) (acc:List UInt8):Lex→Prop
  | .error _ => True
  | .ok (k,len,num,text) => k = 3∧num = 0∧∃ cs,(∀ c ∈ cs,runeP c)∧p + cs.length ≤ len∧text = acc ++ flatU cs
theorem str_ok:∀ (n:Nat) (q:List UInt8) (p:Nat) (acc:List UInt8),StrOk p acc (strGo n q p acc)
  | 0,_,_,_ => trivial
  | n + 1,q,p,acc => by
    simp only [strGo]
    cases hend:endT q with
    | true => trivial
    | false =>
      have hq:q ≠ [] := fun e => by subst e; cases hend
      simp only [Bool.false_eq_true,if_false]
      split
      · exact ⟨rfl,rfl,[],by simp,by simp,by simp [flatU]⟩
      · split
        · trivial
        · rename_i c w hlt
          obtain ⟨l1,l2⟩ := let_len hq hlt
          have hc := let_rune hlt
          have ih := str_ok n (q.drop w) (p + w) (acc ++ (Utf8.encode c).data.toList)
          revert ih
          generalize strGo n (q.drop w) (p + w) (acc ++ (Utf8.encode c).data.toList) = z
          intro ih
          match z,ih with
          | .error _,_ => trivial
          | .ok (k,len,num,text),⟨i1,i2,cs,i3,i4,i5⟩ =>
            refine ⟨i1,i2,c :: cs,?_,?_,?_⟩
            · intro x hx
              rcases List.mem_cons.1 hx with rfl | hx
              · exact hc
              · exact i3 x hx
            · simp only [List.length_cons]; omega
            · rw [i5,flatU_cons,List.append_assoc]; rfl
theorem lex_ok {r:List UInt8} (h:r ≠ []):LexOk (lexT r) := by
  unfold lexT
  simp only
  split
  · exact .inr (.inr (.inr (.inr (.inr ⟨rfl,rfl,rfl⟩))))
  split
  · unfold numT
    generalize (if r.getD 0 0 = 95 then 1 else 0) = u
    simp only
    split
    · trivial
    split
    · trivial
    · rename_i v hv
      have := valS_le _ _ _ (by decide) hv
      refine .inl ⟨rfl,rfl,?_⟩
      split <;> omega
  split
  · rename_i ha
    have hf := word_facts h ha
    unfold wordT at hf ⊢
    simp only at hf ⊢
    split
    · rename_i hr
      refine .inr (.inr (.inr (.inr (.inl ⟨rfl,rfl,?_⟩))))
      unfold resB at hr
      rw [Bool.or_eq_true] at hr
      rw [List.contains_iff_mem,List.mem_append]
      rcases hr with hr | hr
      · exact .inl (List.contains_iff_mem.1 hr)
      · refine .inr ?_
        unfold symL
        exact List.mem_append.2 (.inl (List.contains_iff_mem.1 hr))
    · rename_i hr
      split
      · trivial
      · rename_i hu
        split
        · trivial
        · rename_i hl
          rw [if_neg hr,if_neg hu,if_neg hl] at hf
          exact .inr (.inr (.inr (.inl ⟨rfl,rfl,hf.2 rfl⟩)))
  split
  · have := str_ok r.length (r.drop 1) 1 []
    unfold strT
    revert this
    generalize strGo r.length (r.drop 1) 1 [] = z
    intro ih
    match z,ih with
    | .error _,_ => trivial
    | .ok (k,len,num,text),⟨i1,i2,cs,i3,i4,i5⟩ => exact .inr (.inr (.inl ⟨i1,i2,cs,i3,by omega,by simpa using i5⟩))
  split
  · unfold charT
    simp only
    split
    · trivial
    split
    · trivial
    split
    · trivial
    · rename_i c w hlt
      split
      · trivial
      split
      · exact .inr (.inl ⟨rfl,rfl,c,let_rune hlt,rfl⟩)
      · trivial
  · have mem:∀ x:List UInt8,symL.contains x = true→(resL ++ symL).contains x = true := fun x hx => by
      rw [List.contains_iff_mem,List.mem_append]
      exact .inr (List.contains_iff_mem.1 hx)
    unfold symT
    split
    · rename_i hs
      exact .inr (.inr (.inr (.inr (.inl ⟨rfl,rfl,mem _ hs.1⟩))))
    split
    · rename_i hs
      exact .inr (.inr (.inr (.inr (.inl ⟨rfl,rfl,mem _ hs⟩))))
    · trivial
end Go.Proofs.YtfldjfpcefcjdaaDoor
namespace Go.Proofs.YtfldjfpcefcjdaaDoor
open Go Go.Ab
set_option maxRecDepth 100000
theorem ok_eq {k n m:Int} {a b:Nat} {t u:List UInt8} (h1:a = b) (h2:n = m) (h3:t = u):(Except.ok (k,a,n,t):Lex) = .ok (k,b,m,u) := by rw [h1,h2,h3]
theorem dig_ofNat {k:Nat} (h:k < 10):dig (UInt8.ofNat (48 + k)) = true∧(UInt8.ofNat (48 + k)).toNat - 48 = k := by
  have := byteN (48 + k) (by omega)
  unfold dig
  rw [this]
  refine ⟨by simp; omega,by omega⟩
theorem dd_facts:∀ k:Nat,(Lib.decDigits k).all dig = true∧Lib.decDigits k ≠ []∧(k ≤ maxNum→valS (Lib.decDigits k) 0 = some k) := by
  intro k
  induction k using Nat.strongRecOn with
  | _ k ih =>
    rw [Lib.decDigits]
    split
    · rename_i h
      obtain ⟨h1,h2⟩ := dig_ofNat h
      refine ⟨by simp only [List.all_cons,List.all_nil,h1,Bool.and_self],by simp,fun hk => ?_⟩
      simp only [valS,h2]
      rw [if_pos (by omega)]
      simp
    · rename_i h
      obtain ⟨i1,i2,i3⟩ := ih (k / 10) (by omega)
      obtain ⟨h1,h2⟩ := dig_ofNat (k := k % 10) (by omega)
      refine ⟨by simp only [List.all_append,List.all_cons,List.all_nil,i1,h1,Bool.and_self],by simp,fun hk => ?_⟩
      rw [valS_app,i3 (by omega)]
      simp only [Option.bind_some,valS,h2]
      rw [if_pos (by unfold maxNum at *; omega)]
      congr 1
      omega
theorem tw_self {p:UInt8→Bool}:∀ {w:List UInt8},w.all p = true→w.takeWhile p = w
  | [],_ => rfl
  | c :: w,h => by
    simp only [List.all_cons,Bool.and_eq_true] at h
    simp only [List.takeWhile_cons,h.1,if_true]
    rw [tw_self h.2]
theorem num_back {n:Int} (h:n.natAbs ≤ maxNum):lexT (showI n) = .ok (1,(showI n).length,n,[]) := by
  by_cases hn:n < 0
  · obtain ⟨d1,d2,d3⟩ := dd_facts n.natAbs
    have e:showI n = 95 :: Lib.decDigits n.natAbs := if_pos hn
    rw [e]
    have e1:lexT (95 :: Lib.decDigits n.natAbs) = numT (95 :: Lib.decDigits n.natAbs) := rfl
    have e2:(95 :: Lib.decDigits n.natAbs).getD 0 0 = 95 := rfl
    have e3:(95 :: Lib.decDigits n.natAbs).drop (1 + (Lib.decDigits n.natAbs).length) = [] := by
      rw [Nat.add_comm,List.drop_succ_cons,List.drop_length]
    rw [e1]
    unfold numT
    rw [e2,if_pos rfl]
    simp only [List.drop_succ_cons,List.drop_zero,tw_self d1,e3,d3 h,if_true]
    rw [if_neg (by
      intro hc
      rcases hc with hc | hc
      · exact d2 hc
      · exact absurd hc (by decide))]
    exact ok_eq (by simp only [List.length_cons]; omega) (by omega) rfl
  · obtain ⟨d1,d2,d3⟩ := dd_facts n.toNat
    have e:showI n = Lib.decDigits n.toNat := if_neg hn
    rw [e]
    have hm:n.toNat ≤ maxNum := by omega
    match hD:Lib.decDigits n.toNat,d2 with
    | b :: D,_ =>
      rw [hD] at d1 d3
      have hb:dig b = true := by
        simp only [List.all_cons,Bool.and_eq_true] at d1
        exact d1.1
      have hb2:48 ≤ b.toNat∧b.toNat ≤ 57 := by
        unfold dig at hb
        simpa using hb
      have n10:b ≠ 10 := fun e => by rw [e] at hb2; exact absurd hb2.1 (by decide)
      have n59:b ≠ 59 := fun e => by rw [e] at hb2; exact absurd hb2.2 (by decide)
      have n95:b ≠ 95 := fun e => by rw [e] at hb2; exact absurd hb2.2 (by decide)
      have e1:lexT (b :: D) = numT (b :: D) := by
        unfold lexT
        simp only [List.getD_cons_zero]
        rw [if_neg (by rintro (h | h); exact n10 h; exact n59 h),if_pos (by rw [hb]; rfl)]
      rw [e1]
      unfold numT
      simp only [List.getD_cons_zero]
      rw [if_neg n95]
      have e3:(b :: D).drop (0 + (b :: D).length) = [] := by rw [Nat.zero_add,List.drop_length]
      simp only [List.drop_zero,tw_self d1,e3,d3 hm]
      rw [if_neg (by
        intro hc
        rcases hc with hc | hc
        · cases hc
        · exact absurd hc (by decide))]
      rw [if_neg (by decide)]
      exact ok_eq (by omega) (by omega) rfl
theorem char_back {c:Nat} (h:runeP c):lexT (quoB 39 [(c:Int)]) = .ok (2,(quoB 39 [(c:Int)]).length,c,[]) := by
  obtain ⟨h1,h2,h3⟩ := let_esc h (.inr rfl) [39]
  have e:quoB 39 [(c:Int)] = 39 :: (escB c 39 ++ [39]) := by
    have:utf8 39 = [39] := rfl
    unfold quoB
    rw [escL_cons,escL_nil,this]
    simp
  rw [e]
  have e1:lexT (39 :: (escB c 39 ++ [39])) = charT (39 :: (escB c 39 ++ [39])) := rfl
  rw [e1]
  unfold charT
  simp only [List.drop_succ_cons,List.drop_zero]
  have h3:(escB c 39 ++ [39]).getD 0 0 ≠ 39 := h3
  rw [h2,h1]
  simp only [Bool.false_eq_true,if_false]
  rw [if_neg h3]
  simp only [List.drop_left]
  have:endT [39] = false := rfl
  rw [this]
  simp only [Bool.false_eq_true,if_false,List.getD_cons_zero,if_true]
  exact ok_eq (by simp only [List.length_cons,List.length_append,List.length_nil]) rfl rfl
theorem strGo_esc : ∀ (cs : List Nat), (∀ c ∈ cs, runeP c) → ∀ (n p : Nat) (acc : List UInt8), (escL 34 (cs.map Int.ofNat)).length < n →
    strGo n (escL 34 (cs.map Int.ofNat) ++ [34]) p acc = .ok (3,p + (escL 34 (cs.map Int.ofNat)).length + 1,0,acc ++ flatU cs) := by
  intro cs
  induction cs with
  | nil =>
    intro _ n p acc hn
    cases n with
    | zero => exact absurd hn (Nat.not_lt_zero _)
    | succ n =>
      have e:strGo (n + 1) [34] p acc = .ok (3,p + 1,0,acc) := rfl
      simp only [List.map_nil,escL_nil,List.nil_append,List.length_nil,Nat.add_zero]
      rw [e]
      simp [flatU]
  | cons c cs ih =>
    intro h n p acc hn
    have hc := h c (by simp)
    obtain ⟨h1,h2,h3⟩ := let_esc hc (.inl rfl) (escL 34 (cs.map Int.ofNat) ++ [34])
    have h3:(escB c 34 ++ (escL 34 (cs.map Int.ofNat) ++ [34])).getD 0 0 ≠ 34 := h3
    have e:escL 34 ((c :: cs).map Int.ofNat) = escB c 34 ++ escL 34 (cs.map Int.ofNat) := by rw [List.map_cons,escL_cons]; rfl
    have hw:1 ≤ (escB c 34).length := by
      have hne:escB (c:Int) 34 ++ (escL 34 (cs.map Int.ofNat) ++ [34]) ≠ [] := by simp
      exact (let_len hne h1).1
    rw [e] at hn ⊢
    rw [List.append_assoc]
    rw [List.length_append] at hn
    cases n with
    | zero => exact absurd hn (Nat.not_lt_zero _)
    | succ n =>
      simp only [strGo]
      rw [h2,h1]
      simp only [Bool.false_eq_true,if_false]
      rw [if_neg h3,List.drop_left,ih (fun x hx => h x (by simp [hx])) n _ _ (by omega),flatU_cons,List.length_append]
      exact ok_eq (by omega) rfl (by rw [List.append_assoc]; rfl)
theorem str_back {cs:List Nat} (h:∀ c ∈ cs,runeP c):lexT (quoB 34 (cs.map Int.ofNat)) = .ok (3,(quoB 34 (cs.map Int.ofNat)).length,0,flatU cs) := by
  have e:quoB 34 (cs.map Int.ofNat) = 34 :: (escL 34 (cs.map Int.ofNat) ++ [34]) := by
    have:utf8 34 = [34] := rfl
    unfold quoB
    rw [this]
    simp
  rw [e]
  have e1:lexT (34 :: (escL 34 (cs.map Int.ofNat) ++ [34])) = strT (34 :: (escL 34 (cs.map Int.ofNat) ++ [34])) := rfl
  rw [e1]
  unfold strT
  simp only [List.drop_succ_cons,List.drop_zero]
  rw [strGo_esc cs h _ _ _ (by simp only [List.length_cons,List.length_append,List.length_nil]; omega),List.nil_append]
  exact ok_eq (by simp only [List.length_cons,List.length_append,List.length_nil]; omega) rfl rfl
theorem name_back {w:List UInt8} (h:nameB w = true):lexT w = .ok (4,w.length,0,w) := by
  unfold nameB plainB at h
  simp only [Bool.and_eq_true,Bool.not_eq_true',decide_eq_true_eq] at h
  obtain ⟨⟨⟨⟨h1,h2⟩,h3⟩,h4⟩,h5⟩ := h
  have hh:97 ≤ (w.getD 0 0).toNat∧(w.getD 0 0).toNat ≤ 122 := by
    unfold low at h2
    simpa using h2
  have hall:w.all aln = true := List.all_eq_true.2 fun b hb => by
    have := List.all_eq_true.1 h3 b hb
    unfold aln alp
    rw [Bool.or_eq_true] at this
    rcases this with h | h <;> rw [h] <;> simp
  have hno:w.any upp = false := by
    cases ha:w.any upp with
    | false => rfl
    | true =>
      obtain ⟨b,hb,hu⟩ := List.any_eq_true.1 ha
      have := List.all_eq_true.1 h3 b hb
      unfold low dig upp at *
      simp at this hu
      omega
  unfold lexT
  simp only
  rw [if_neg (by rintro (h | h) <;> rw [h] at hh <;> exact absurd hh (by decide))]
  have hd:(dig (w.getD 0 0) || w.getD 0 0 == 95) = false := by
    cases hq:(dig (w.getD 0 0) || w.getD 0 0 == 95) with
    | false => rfl
    | true =>
      rw [Bool.or_eq_true] at hq
      rcases hq with h | h
      · unfold dig at h
        rw [Bool.and_eq_true,decide_eq_true_eq,decide_eq_true_eq] at h
        omega
      · rw [beq_iff_eq] at h
        rw [h] at hh
        exact absurd hh (by decide)
  rw [hd,if_neg (by simp),if_pos (by unfold alp; rw [h2]; rfl)]
  unfold wordT
  simp only [tw_self hall,h5,hno,Bool.false_eq_true,if_false]
  rw [if_neg (by omega)]
theorem sym_back:∀ x:List UInt8,(resL ++ symL).contains x = true→lexT x = .ok (5,x.length,0,x) := by
  have:((resL ++ symL).all fun x => match lexT x with | .ok (k,l,n,t) => k == 5 && l == x.length && n == 0 && t == x | _ => false) = true := by decide +kernel
  intro x hx
  have := List.all_eq_true.1 this x (List.contains_iff_mem.1 hx)
  split at this
  · rename_i k l n t e
    simp only [Bool.and_eq_true,beq_iff_eq] at this
    obtain ⟨⟨⟨rfl,rfl⟩,rfl⟩,rfl⟩ := this
    exact e
  · cases this
end Go.Proofs.YtfldjfpcefcjdaaDoor
namespace Go.Proofs.YtfldjfpcefcjdaaDoor
open Go Go.Ab
set_option maxRecDepth 100000
def GoodT (t:Tok):Prop :=
  (t.kind = 1∧t.text = []∧t.num.natAbs ≤ maxNum)∨(t.kind = 2∧t.text = []∧∃ c:Nat,runeP c∧t.num = c) ∨
    (t.kind = 3∧t.num = 0∧∃ cs,(∀ c ∈ cs,runeP c)∧t.text = flatU cs)∨(t.kind = 4∧t.num = 0∧nameB t.text = true) ∨
    (t.kind = 5∧t.num = 0∧(resL ++ symL).contains t.text = true)∨(t.kind = 6∧t.num = 0∧t.text = [])
theorem runes_whole {cs:List Nat} (h:∀ c ∈ cs,runeP c):runesL (flatU cs) = cs∧validL (flatU cs) = true := runes_flat cs h _ (Nat.le_refl _)
theorem tok_back {t:Tok} (h:GoodT t):lexT (showTok t) = .ok (t.kind,(showTok t).length,t.num,t.text) := by
  obtain ⟨k,a,l,n,x⟩ := t
  rcases h with ⟨h1,h2,h3⟩ | ⟨h1,h2,c,h3,h4⟩ | ⟨h1,h2,cs,h3,h4⟩ | ⟨h1,h2,h3⟩ | ⟨h1,h2,h3⟩ | ⟨h1,h2,h3⟩
  · simp only at h1 h2 h3
    subst h1 h2
    have e:showTok ⟨1,a,l,n,[]⟩ = showI n := by
      unfold showTok
      rw [if_pos rfl,if_pos h3]
    rw [e]
    exact num_back h3
  · simp only at h1 h2 h4
    subst h1 h2 h4
    have e:showTok ⟨2,a,l,(c:Int),[]⟩ = quoB 39 [(c:Int)] := by
      unfold showTok
      rw [if_neg (by simp),if_pos rfl,if_pos ⟨by simp only; omega,runeP_valid.2 h3⟩]
    rw [e]
    exact char_back h3
  · simp only at h1 h2 h4
    subst h1 h2 h4
    have e:showTok ⟨3,a,l,0,flatU cs⟩ = quoB 34 (cs.map Int.ofNat) := by
      unfold showTok
      rw [if_neg (by simp),if_neg (by simp),if_pos rfl]
      simp only
      rw [(runes_whole h3).2,(runes_whole h3).1,if_pos rfl]
    rw [e]
    exact str_back h3
  · simp only at h1 h2 h3
    subst h1 h2
    have e:showTok ⟨4,a,l,0,x⟩ = x := by
      unfold showTok
      rw [if_neg (by simp),if_neg (by simp),if_neg (by simp),if_pos (.inl rfl)]
    rw [e]
    exact name_back h3
  · simp only at h1 h2 h3
    subst h1 h2
    have e:showTok ⟨5,a,l,0,x⟩ = x := by
      unfold showTok
      rw [if_neg (by simp),if_neg (by simp),if_neg (by simp),if_pos (.inr rfl)]
    rw [e]
    exact sym_back x h3
  · simp only at h1 h2 h3
    subst h1 h2 h3
    rfl
theorem quo_len (q:Int) (cs:List Int):(quoB q cs).length ≤ 8 + 6 * cs.length := by
  have h1 := utf8_len q
  have h2 := escL_len q cs
  unfold quoB
  simp only [List.length_append]
  omega
theorem maxNum_i64 {n:Int} (h:n.natAbs ≤ maxNum):inI64 n := by
  unfold maxNum at h
  unfold inI64
  omega
def joinS:List Tok→List UInt8
  | [] => []
  | [t] => showTok t
  | t :: u :: l => showTok t ++ 32 :: joinS (u :: l)
theorem joinS_le (t:Tok) (l:List Tok):(joinS (t :: l)).length ≤ (showTok t).length + 1 + (joinS l).length := by
  cases l with
  | nil => simp only [joinS]; omega
  | cons u l => simp only [joinS,List.length_append,List.length_cons]; omega
theorem good_of {r : List UInt8} (h : r ≠ []) {k num : Int} {len : Nat} {text : List UInt8} (e : lexT r = .ok (k, len, num, text)) (a : Int) :
    GoodT ⟨k,a,len,num,text⟩∧(showTok ⟨k,a,len,num,text⟩).length ≤ 6 * len + 21 := by
  have h1 := lex_ok h
  have h2 := lex_len h
  have h3 := lex_facts h
  rw [e] at h1 h2 h3
  have h2:1 ≤ len∧len ≤ r.length := h2
  rcases h1 with ⟨q1,q2,q3⟩ | ⟨q1,q2,c,q3,q4⟩ | ⟨q1,q2,cs,q3,q4,q5⟩ | ⟨q1,q2,q3⟩ | ⟨q1,q2,q3⟩ | ⟨q1,q2,q3⟩
  · refine ⟨.inl ⟨q1,q2,q3⟩,?_⟩
    subst q1
    unfold showTok
    rw [if_pos rfl,if_pos q3]
    have := (showI_len (maxNum_i64 q3)).2
    simp only
    omega
  · refine ⟨.inr (.inl ⟨q1,q2,c,q3,q4⟩),?_⟩
    subst q1 q4
    unfold showTok
    rw [if_neg (by simp),if_pos rfl,if_pos ⟨by simp only; omega,runeP_valid.2 q3⟩]
    have := quo_len 39 [(c:Int)]
    simp only [List.length_cons,List.length_nil] at this ⊢
    omega
  · refine ⟨.inr (.inr (.inl ⟨q1,q2,cs,q3,q5⟩)),?_⟩
    subst q1 q5
    unfold showTok
    rw [if_neg (by simp),if_neg (by simp),if_pos rfl]
    simp only
    rw [(runes_whole q3).2,(runes_whole q3).1,if_pos rfl]
    have := quo_len 34 (cs.map Int.ofNat)
    rw [List.length_map] at this
    omega
  · refine ⟨.inr (.inr (.inr (.inl ⟨q1,q2,q3⟩))),?_⟩
    have hx := h3.1 (.inl q1)
    subst q1
    unfold showTok
    rw [if_neg (by simp),if_neg (by simp),if_neg (by simp),if_pos (.inl rfl)]
    simp only
    rw [hx,List.length_take]
    omega
  · refine ⟨.inr (.inr (.inr (.inr (.inl ⟨q1,q2,q3⟩)))),?_⟩
    have hx := h3.1 (.inr q1)
    subst q1
    unfold showTok
    rw [if_neg (by simp),if_neg (by simp),if_neg (by simp),if_pos (.inr rfl)]
    simp only
    rw [hx,List.length_take]
    omega
  · refine ⟨.inr (.inr (.inr (.inr (.inr ⟨q1,q2,q3⟩)))),?_⟩
    subst q1 q2 q3
    show 1 ≤ _
    omega
theorem scanF_good:∀ (n:Nat) (r:List UInt8) (p:Nat) (l:List Tok),scanF n r p = .ok l→(∀ t ∈ l,GoodT t)∧(joinS l).length ≤ 28 * r.length
  | 0,_,_,l,h => by
    injection h with h; subst h
    exact ⟨by simp,by simp [joinS]⟩
  | n + 1,r,p,l,h => by
    have hs := skip_le false r
    simp only [scanF] at h
    split at h
    · injection h with h; subst h
      exact ⟨by simp,by simp [joinS]⟩
    · rename_i hq
      have hl := lex_len hq
      split at h
      · cases h
      · rename_i kd len num text he
        obtain ⟨g1,g2⟩ := good_of hq he ((p + skipM false r:Nat):Int)
        rw [he] at hl
        have hl:1 ≤ len∧len ≤ (r.drop (skipM false r)).length := hl
        rw [List.length_drop] at hl
        split at h
        · cases h
        · rename_i l' hl'
          injection h with h; subst h
          obtain ⟨i1,i2⟩ := scanF_good n _ _ _ hl'
          refine ⟨fun t ht => ?_,?_⟩
          · rcases List.mem_cons.1 ht with rfl | ht
            · exact g1
            · exact i1 t ht
          · have := joinS_le ⟨kd,((p + skipM false r:Nat):Int),len,num,text⟩ l'
            simp only [List.length_drop] at i2
            omega
def alike (t u:Tok):Prop := t.kind = u.kind∧t.num = u.num∧t.text = u.text
def alikeL:List Tok→List Tok→Prop
  | [],[] => True
  | t :: l,u :: m => alike t u∧alikeL l m
  | _,_ => False
theorem sym_no {b:UInt8} (h:b = 32∨b = 9∨b = 13∨b = 35) (x:List UInt8):symL.contains (b :: x) = false := by
  have:(symL.all fun y => y.getD 0 0 != 32 && y.getD 0 0 != 9 && y.getD 0 0 != 13 && y.getD 0 0 != 35) = true := by decide +kernel
  cases hc:symL.contains (b :: x) with
  | false => rfl
  | true =>
    have := List.all_eq_true.1 this _ (List.contains_iff_mem.1 hc)
    rcases h with rfl | rfl | rfl | rfl <;> simp at this
theorem lex_no {b:UInt8} (h:b = 32∨b = 9∨b = 13∨b = 35) (x:List UInt8):lexT (b :: x) = .error (6,0) := by
  have h1:lexT (b :: x) = symT (b :: x) := by rcases h with rfl | rfl | rfl | rfl <;> rfl
  rw [h1]
  unfold symT
  have e1 := sym_no h []
  have e2:symL.contains ((b :: x).take 2) = false := sym_no h _
  rw [e2,if_neg (by simp)]
  simp only [List.take_succ_cons,List.take_zero,e1]
  simp
theorem skip_tok {x y:List UInt8} {z:Int × Nat × Int × List UInt8} (h:x ≠ []) (he:lexT x = .ok z):skipM false (x ++ y) = 0 := by
  match x,h with
  | b :: x,_ =>
    have hb:¬ (b = 32∨b = 9∨b = 13∨b = 35) := fun hb => by
      rw [lex_no hb] at he
      cases he
    simp only [List.cons_append,skipM]
    rw [if_neg (by unfold blank; simp only [Bool.or_eq_true,beq_iff_eq]; intro h; exact hb (by rcases h with (h | h) | h <;> simp [h])),if_neg (fun h => hb (.inr (.inr (.inr h))))]
theorem scan_blank {n p:Nat} {y:List UInt8}:scanF (n + 1) (32 :: y) p = scanF (n + 1) y (p + 1) := by
  have e:skipM false (32 :: y) = skipM false y + 1 := rfl
  simp only [scanF]
  rw [e,List.drop_succ_cons]
  have e2:p + (skipM false y + 1) = p + 1 + skipM false y := by omega
  rw [e2]
theorem lex_nil:lexT [] = .error (6,0) := by kernel_rfl
theorem scanF_step {n p : Nat} {r : List UInt8} (hs : skipM false r = 0) (hr : r ≠ []) : scanF (n + 1) r p = match lexT r with
    | .error (e,o) => .error (e,p + 0 + o)
    | .ok (kd,len,num,text) => match scanF n (r.drop len) (p + 0 + len) with
      | .error e => .error e
      | .ok l => .ok (⟨kd,((p + 0:Nat):Int),len,num,text⟩ :: l) := by
  simp only [scanF]
  rw [hs,List.drop_zero,if_neg hr]
  all_goals
    cases lexT r with
    | error x => rfl
    | ok x =>
      obtain ⟨kd,len,num,text⟩ := x
      simp only
      cases scanF n (r.drop len) (p + 0 + len) <;> rfl
theorem scan_back:∀ (l:List Tok),(∀ t ∈ l,GoodT t)→∀ (n p:Nat),(joinS l).length < n→∃ l',scanF n (joinS l) p = .ok l'∧alikeL l l'
  | [],_,n,p,hn => by
    cases n with
    | zero => exact absurd hn (Nat.not_lt_zero _)
    | succ n => exact ⟨[],rfl,trivial⟩
  | [t],h,n,p,hn => by
    have hb := tok_back (h t (by simp))
    have hne:showTok t ≠ [] := fun e => by
      rw [e,lex_nil] at hb
      cases hb
    have hl := lex_len hne
    rw [hb] at hl
    have hs:skipM false (showTok t) = 0 := by
      have := skip_tok (y := []) hne hb
      rwa [List.append_nil] at this
    simp only [joinS] at hn ⊢
    match n,hn with
    | n + 1,hn =>
      simp only [scanF]
      rw [hs,List.drop_zero,if_neg hne,hb]
      simp only
      rw [List.drop_length]
      match n,hn with
      | 0,hn => exact ⟨_,rfl,⟨rfl,rfl,rfl⟩,trivial⟩
      | n + 1,_ => exact ⟨_,rfl,⟨rfl,rfl,rfl⟩,trivial⟩
  | t :: u :: l,h,n,p,hn => by
    have hb := tok_back (h t (by simp))
    have hne:showTok t ≠ [] := fun e => by
      rw [e,lex_nil] at hb
      cases hb
    have hl := lex_len hne
    rw [hb] at hl
    have hl1:1 ≤ (showTok t).length := hl.1
    have hs := skip_tok (y := 32 :: joinS (u :: l)) hne hb
    have hsep := lex_sep (m := joinS (u :: l)) (b := 32) (.inr rfl) hne (.inr ⟨_,hb⟩)
    simp only [joinS] at hn ⊢
    rw [List.length_append,List.length_cons] at hn
    match n,hn with
    | n + 2,hn =>
      obtain ⟨l',i1,i2⟩ := scan_back (u :: l) (fun x hx => h x (by simp [hx])) (n + 1) (p + 0 + (showTok t).length + 1) (by omega)
      rw [scanF_step hs (by simp),hsep,hb]
      simp only
      rw [List.drop_left,scan_blank,i1]
      exact ⟨_,rfl,⟨rfl,rfl,rfl⟩,i2⟩
    | 1,hn => exact absurd hn (by omega)
end Go.Proofs.YtfldjfpcefcjdaaDoor
namespace Go.Proofs.YtfldjfpcefcjdaaDoor
open Go Go.Ab
set_option maxRecDepth 100000
theorem toksOf_eq {n:Nat} {l:List Tok} {F:Nat→List D} (hn:n = l.length) (hF:∀ i,i < n→F i = (l.getD i default).row):toksOf n F = l := by
  subst hn
  apply List.ext_getElem
  · simp [toksOf]
  · intro i h1 h2
    simp only [toksOf,List.getElem_map,List.getElem_range,hF i h2,rowTok,Tok.row,List.getD_eq_getElem?_getD,List.getElem?_eq_getElem h2,Option.getD_some]
end Go.Proofs.YtfldjfpcefcjdaaDoor
namespace Go.Proofs.YtfldjfpcefcjdaaDoor
open Go Go.Ab
set_option maxRecDepth 100000
theorem scan_small {s:List UInt8} (h:s.length ≤ 16384):scanT s = scanF (s.length + 1) s 0 := by
  unfold scanT
  rw [if_neg (by omega),scanGo_F _ _ _ _ (by omega) (by simpa using h)]
  cases scanF (s.length + 1) s 0 <;> rfl
theorem scanGo_err:∀ (n:Nat) (r:List UInt8) (p:Nat) (l:List Tok) (e:Int) (a:Nat),scanGo n r p l = .error (e,a)→e ≠ 0
  | 0,r,p,l,e,a,h => by cases h
  | n + 1,r,p,l,e,a,h => by
    simp only [scanGo] at h
    split at h
    · cases h
    · cases hz:lexT (r.drop (skipM false r)) with
      | error z =>
        obtain ⟨e',o⟩ := z
        rw [hz] at h
        have h:Except.error (e',p + skipM false r + o) = Except.error (e,a) := h
        injection h with h; injection h with h _
        rw [← h]
        exact lex_err hz
      | ok z =>
        obtain ⟨kd,len,num,text⟩ := z
        rw [hz] at h
        simp only at h
        split at h
        · injection h with h; injection h with h _
          omega
        · exact scanGo_err n _ _ _ e a h
theorem scanT_err {s:List UInt8} {e:Int} {a:Nat} (h:scanT s = .error (e,a)):e ≠ 0 := by
  unfold scanT at h
  split at h
  · injection h with h; injection h with h _
    omega
  · exact scanGo_err _ _ _ _ _ _ h
theorem scanGo_ok:∀ (n:Nat) (r:List UInt8) (p:Nat) (acc m:List Tok),scanF n r p = .ok m→acc.length + m.length ≤ 16384→scanGo n r p acc = .ok (acc ++ m)
  | 0,r,p,acc,m,h,_ => by
    injection h with h
    subst h; simp [scanGo]
  | n + 1,r,p,acc,m,h,hl => by
    simp only [scanF] at h
    simp only [scanGo]
    by_cases hq:r.drop (skipM false r) = []
    · rw [if_pos hq] at h ⊢
      injection h with h; subst h; simp
    · rw [if_neg hq] at h ⊢
      cases hz:lexT (r.drop (skipM false r)) with
      | error z => rw [hz] at h; cases h
      | ok z =>
        obtain ⟨kd,len,num,text⟩ := z
        rw [hz] at h
        simp only at h ⊢
        cases hf:scanF n ((r.drop (skipM false r)).drop len) (p + skipM false r + len) with
        | error e => rw [hf] at h; cases h
        | ok l2 =>
          rw [hf] at h
          injection h with h
          subst h
          rw [List.length_cons] at hl
          rw [if_neg (by omega),scanGo_ok n _ _ _ l2 hf (by rw [List.length_append,List.length_cons,List.length_nil]; omega),List.append_assoc]
          rfl
theorem strGo_text:∀ (n:Nat) (r:List UInt8) (p:Nat) (acc:List UInt8) (k num:Int) (len:Nat) (text:List UInt8),strGo n r p acc = .ok (k,len,num,text)→text.length ≤ acc.length + 4 * n
  | 0,r,p,acc,k,num,len,text,h => by cases h
  | n + 1,r,p,acc,k,num,len,text,h => by
    simp only [strGo] at h
    split at h
    · cases h
    · split at h
      · injection h with h
        have e:acc = text := congrArg (fun x => x.2.2.2) h
        rw [← e]; omega
      · split at h
        · cases h
        · rename_i c w _
          have h1 := strGo_text n _ _ _ _ _ _ _ h
          have h2 := utf8_len ((c:Nat):Int)
          unfold utf8 at h2
          rw [List.length_append] at h1
          omega
theorem lex_text {r:List UInt8} {k num:Int} {len:Nat} {text:List UInt8} (h:lexT r = .ok (k,len,num,text)):text.length ≤ 4 * r.length := by
  unfold lexT at h
  simp only at h
  split at h
  · injection h with h
    have e:[] = text := congrArg (fun x => x.2.2.2) h
    rw [← e]; exact Nat.zero_le _
  · split at h
    · unfold numT at h
      simp only at h
      repeat' split at h
      all_goals first
        | (injection h with h; have e:[] = text := congrArg (fun x => x.2.2.2) h; rw [← e]; exact Nat.zero_le _)
        | cases h
    · split at h
      · unfold wordT at h
        simp only at h
        have hl := tw_len aln r
        repeat' split at h
        all_goals first
          | (injection h with h; have e:r.takeWhile aln = text := congrArg (fun x => x.2.2.2) h; rw [← e]; omega)
          | cases h
      · split at h
        · exact Nat.le_trans (strGo_text _ _ _ _ _ _ _ _ h) (by simp)
        · split at h
          · unfold charT at h
            simp only at h
            repeat' split at h
            all_goals first
              | (injection h with h; have e:[] = text := congrArg (fun x => x.2.2.2) h; rw [← e]; exact Nat.zero_le _)
              | cases h
          · unfold symT at h
            repeat' split at h
            · injection h with h
              have e:r.take 2 = text := congrArg (fun x => x.2.2.2) h
              rw [← e,List.length_take]; omega
            · injection h with h
              have e:r.take 1 = text := congrArg (fun x => x.2.2.2) h
              rw [← e,List.length_take]; omega
            · cases h
theorem scanF_bnd:∀ (n:Nat) (r:List UInt8) (p:Nat) (m:List Tok),scanF n r p = .ok m→m.length ≤ r.length∧∀ t ∈ m,t.text.length ≤ 4 * r.length
  | 0,r,p,m,h => by
    injection h with h
    subst h; exact ⟨Nat.zero_le _,fun t ht => by cases ht⟩
  | n + 1,r,p,m,h => by
    simp only [scanF] at h
    by_cases hq:r.drop (skipM false r) = []
    · rw [if_pos hq] at h
      injection h with h; subst h
      exact ⟨Nat.zero_le _,fun t ht => by cases ht⟩
    · rw [if_neg hq] at h
      cases hz:lexT (r.drop (skipM false r)) with
      | error z => rw [hz] at h; cases h
      | ok z =>
        obtain ⟨kd,len,num,text⟩ := z
        have hlen := lex_len hq
        rw [hz] at h hlen
        have hlen:1 ≤ len∧len ≤ (r.drop (skipM false r)).length := hlen
        have ht := lex_text hz
        simp only at h
        cases hf:scanF n ((r.drop (skipM false r)).drop len) (p + skipM false r + len) with
        | error e => rw [hf] at h; cases h
        | ok l2 =>
          rw [hf] at h
          injection h with h
          subst h
          obtain ⟨b1,b2⟩ := scanF_bnd n _ _ l2 hf
          rw [List.length_drop,List.length_drop] at b1 b2
          rw [List.length_drop] at hlen ht
          refine ⟨by rw [List.length_cons]; omega,fun t hm => ?_⟩
          rcases List.mem_cons.1 hm with rfl | hm
          · simp only; omega
          · have := b2 t hm; omega
theorem joinS_eq:∀ l:List Tok,joinS l = Lib.join (l.map showTok) [32]
  | [] => by rw [List.map_nil,join_nil]; rfl
  | [t] => by
    rw [List.map_cons,List.map_nil,join_cons]
    simp [joinS,jT]
  | t :: u :: l => by
    have ih := joinS_eq (u :: l)
    rw [joinS,ih,List.map_cons,List.map_cons,join_cons,join_cons]
    simp [jT]
theorem alikeL_B:∀ {a b:List Tok},alikeL a b→alikeB a b = true∧a.length = b.length
  | [],[],_ => ⟨rfl,rfl⟩
  | t :: l,u :: m,h => by
    obtain ⟨h1,h2⟩ := h
    obtain ⟨i1,i2⟩ := alikeL_B h2
    unfold alike at h1
    refine ⟨?_,by simp [i2]⟩
    simp only [alikeB,i1,h1,beq_self_eq_true,Bool.and_true]
  | [],_ :: _,h => h.elim
  | _ :: _,[],h => h.elim
end Go.Proofs.YtfldjfpcefcjdaaDoor
namespace Go.Proofs.YtfldjfpcefcjdaaDoor
open Go Go.Ab
set_option maxRecDepth 100000
noncomputable def El3:Senv := EC conLx 42 1 [2,3,4,5,6,9,18] (fun _ => ([],[]))
noncomputable section
def tr6q0:Prop := ∃ (_x:Unit),True∧(True∧True)∧True∧∀ (_y:Unit),True→True∧∃ (_y:Unit),True∧SM true∧True∧True
def tr6q1 (p0:List UInt8):Nat := LN (scL (scanT p0))
def tr6q2:Prop := True∧∃ (_y:Unit),True∧false = true∧True∧True
def tr6q3:Tok := Tok.mk Z0 Z0 Z0 Z0 []
def tr6q4 (p0:List UInt8) (p1:Nat):List D := Tok.row (List.getD (scL (scanT p0)) p1 tr6q3)
def tr6q5 (p0:List UInt8):Prop := (toksB (tr6q1 p0) fun (i:Nat) => tr6q4 p0 i) = true
def tr6q6 (p0:List UInt8):List Tok := toksOf (tr6q1 p0) fun (i:Nat) => tr6q4 p0 i
def tr6q7 (p0:List UInt8):List UInt8 := Lib.join (List.map showTok (tr6q6 p0)) [(32:UInt8)]
def tr6q8 (p0:List UInt8):Prop := LN (tr6q7 p0) ≤ (140737488355328:Nat)
def tr6q9 (p0:List UInt8):Except (Int × Nat) (List Tok) := scanT (tr6q7 p0)
def tr6q10 (p0:List UInt8):List Tok := scL (tr6q9 p0)
def tr6q11 (p0:List UInt8):Nat := LN (tr6q10 p0)
def tr6q12 (p0:List UInt8) (p1:Nat):List D := Tok.row (List.getD (tr6q10 p0) p1 tr6q3)
end
theorem law_back (s:List UInt8) (hs:s.length ≤ maxB):ACalls Tryd.prog 5 [.str s] ⟨[],[]⟩ (SpecR (sC [.str s] (.bool true)) ()) := by
  refine con_of (A := sC _ _) (x := ()) (E := El3) (eOk conLx_ok rfl) Tryd.func5 rfl (by kernel_rfl) rfl (by simp [sC,El3,EC,E0]) ?_
  refine vc_eq (T :=
    ifB (decide ((2000:Int) < (LI s))) tr6q0 (LN s ≤ (140737488355328:Nat)∧∀ (y:Unit),True→∀ (x:Nat),True→SM x∧SM x∧ifB (scE (scanT s) != Z0) (ifB ((NI (tr6q1 s)) == Z0) tr6q0 tr6q2) ((tr6q5 s∧tr6q1 s ≤ (4294967296:Nat)∧(∀ (t:Tok),t ∈ tr6q6 s→tokOk t)∧tr6q8 s)∧∀ (y:Unit),True→tr6q8 s∧∀ (y:Unit),True→∀ (x_1:Nat),x ≠ x_1∧True→SM x_1∧SM x_1∧ifB (scE (tr6q9 s) == Z0) ((tr6q5 s∧(toksB (tr6q11 s) fun (i:Nat) => tr6q12 s i) = true∧tr6q1 s ≤ (140737488355328:Nat)∧tr6q11 s ≤ (140737488355328:Nat))∧∀ (y:Unit),True→ifB (alikeB (tr6q6 s) (toksOf (tr6q11 s) fun (i:Nat) => tr6q12 s i)) tr6q0 tr6q2) tr6q2))) (by kernel_rfl) ?_
  delta LI LN NI SM Z0 tr6q0 tr6q1 tr6q10 tr6q11 tr6q12 tr6q2 tr6q3 tr6q4 tr6q5 tr6q6 tr6q7 tr6q8 tr6q9
  simp only [eq_self,ne_eq,implies_true,ifB_iff,decide_eq_true_eq,decide_eq_false_iff_not,true_and,and_true,beq_iff_eq,beq_eq_false_iff_ne,exists_const,forall_const]
  have dt:(default:Tok) = { kind := 0,at_ := 0,len := 0,num := 0,text := [] } := rfl
  simp only [← dt]
  have et:∀ l:List Tok,toksOf l.length (fun i => (l.getD i default).row) = l := fun l => toksOf_eq rfl fun _ _ => rfl
  have eb:∀ l:List Tok,toksB l.length (fun i => (l.getD i default).row) = true := fun l => toksB_eq (l := l) rfl fun _ _ => rfl
  simp only [et,eb]
  unfold maxB at hs
  intro h
  refine ⟨by omega,fun _ => ?_⟩
  cases hz:scanT s with
  | error z =>
    obtain ⟨e,a⟩ := z
    have he:(scE (.error (e,a)) != 0) = true := by simpa [scE] using scanT_err hz
    exact ⟨fun _ h => (h rfl).elim,fun h => by rw [he] at h; exact Bool.noConfusion h⟩
  | ok l =>
    refine ⟨fun h => Bool.noConfusion h,fun _ => ?_⟩
    have hf:scanF (s.length + 1) s 0 = .ok l := by rw [← scan_small (by omega)]; exact hz
    obtain ⟨g1,g2⟩ := scanF_good _ _ _ _ hf
    obtain ⟨b1,b2⟩ := scanF_bnd _ _ _ _ hf
    have hL:scL (.ok l) = l := rfl
    rw [hL,← joinS_eq]
    have hok:∀ t ∈ l,tokOk t := fun t ht => by
      refine ⟨?_,by have := b2 t ht; omega⟩
      have mx:maxNum = 4611686018427387903 := rfl
      unfold inI64
      rcases g1 t ht with ⟨_,_,q⟩ | ⟨_,_,c,q1,q2⟩ | ⟨_,q,_⟩ | ⟨_,q,_⟩ | ⟨_,q,_⟩ | ⟨_,q,_⟩
      · omega
      · unfold runeP at q1; omega
      all_goals omega
    obtain ⟨l',h1,h2⟩ := scan_back l g1 ((joinS l).length + 1) 0 (by omega)
    obtain ⟨a1,a2⟩ := alikeL_B h2
    have hS:scanT (joinS l) = .ok l' := by
      unfold scanT
      rw [if_neg (by omega),scanGo_ok _ _ _ [] l' h1 (by rw [List.length_nil]; omega)]
      rfl
    have hL':scL (.ok l') = l' := rfl
    rw [hS,hL',a1]
    exact ⟨⟨trivial,by omega,hok,by omega⟩,by omega,fun _ _ => ⟨fun _ => ⟨⟨trivial,trivial,by omega,by omega⟩,fun h => Bool.noConfusion h⟩,fun h => (h rfl).elim⟩⟩
end Go.Proofs.YtfldjfpcefcjdaaDoor
namespace Go.Proofs.YtfldjfpcefcjdaaDoor
open Go Go.Ab Go.RowKit
set_option maxRecDepth 100000
noncomputable def wit3:Array Value := #[.string ⟨#[]⟩]
theorem laid_met3 (os:Os):laidMet Tryd.prog laidL ((laidWorld os).forCall (fun _ _ => 0) ⟨#[],wit3,[]⟩).memory :=
  laid_metA os wit3
theorem reads3 (os:Os) {H:Type} (enc:TypeId × Value→H):∃ x,DataW.whole enc Tryd.prog ((laidWorld os).forCall (fun _ _ => 0) ⟨#[],wit3,[]⟩).memory [9] [] false (wit3).toList 8 = some x :=
  Option.isSome_iff_exists.1 (by kernel_rfl)
theorem contract3 {H : Type} {enc : TypeId × Value → H}
    (W:World) (base:Nat) (args:Array Value) (ds gs:List (DataW H)) (before:List MemPlace)
    (hval:∀ (j:Nat) t v,Tryd.f5.params[j]? = some t→args[j]? = some v→Value.okWide Tryd.prog W .any base t v)
    (hW:DataW.Whole enc Tryd.prog Tryd.f5.params.toList Rows.tokenBackSpec.vars false W args.toList ds gs before)
    (hsz:(DataW.weightsEach Tryd.prog (Tryd.f5.params.toList ++ Rows.tokenBackSpec.plain.varTypes Tryd.prog) (ds ++ gs)).all (· ≤ reachBytes) = true) (hL:laidMetH Tryd.prog laidL W) :
    Calls Tryd.prog 5 args W fun e W' => ∃ v,e = .returned v∧Rows.tokenBackSpec.post enc Tryd.prog Tryd.f5 false true false false W args v W' := by
  refine law_contract (rs := [(9,RStr)]) laid (by rw [Tryd.params5]; kernel_rfl) rfl (fun ds hd => ?_) (rt := 4) rfl Tryd.underlying4 (by rw [Tryd.params5]; rfl) ?_ W (g0_laid hL) base args ds gs before hval hW hsz ?_
  · rw [Tryd.params5] at hd
    match ds,hd with
    | [_],_ => exact ⟨rfl,rfl,rfl⟩
  · intro r hr
    simp only [List.mem_cons,List.not_mem_nil,or_false] at hr
    subst hr
    exact read_string Tryd.underlying9
  · intro Ds h
    obtain ⟨dx,_,rfl,hx,h⟩ := h.flat (by kernel_rfl)
    obtain rfl := h.nil
    obtain ⟨x,ex,hokx⟩ := hx
    injection ex with ex _
    subst ex
    exact (law_back x hokx).mono fun r S' ⟨_,_,hr,_⟩ => hr
theorem lifted3 (os : Os) (started : os.Started) (H : Type) (enc : TypeId × Value → H) (F : Stop.Interp) :
    ReturnsInHanded {} Tryd.checked os 5 .any ((OpenSpec.ofChange Rows.tokenBackSpec).preRow enc Tryd.prog Tryd.f5 Rows.tokenBackRow.domain false Rows.tokenBackRow.laid) (((OpenSpec.ofChange Rows.tokenBackSpec).at F).post enc Tryd.prog Tryd.f5 false true false false) := by
  obtain ⟨x,hx⟩ := reads3 os enc
  refine returnsInHanded_of_row (C := Tryd.checked) (s := OpenSpec.ofChange Rows.tokenBackSpec) own started (by kernel_rfl) Tryd.func5
    (witness_row_atRef (enc := enc) (C := Tryd.checked) false (laidWorld os) wit3 rfl (by kernel_rfl) (by kernel_rfl) (by kernel_rfl)
      (OpenSpec.preRow_of_cond 8 hx rfl (fun k hk => by cases hk) (by kernel_rfl) (laid_met3 os))) ?_
  intro W base args ds gs before hval hW _ _ hsz hL _ _
  exact contract3 W base args ds gs before hval hW hsz hL
theorem said3:Rows.TokenBackSaid :=
  OpenClaim.holds_of_cond 5 Tryd.f5 rfl rfl rfl rfl rfl rfl rfl ⟨rfl,rfl,rfl,rfl,rfl⟩ rfl rfl rfl rfl rfl (by kernel_rfl) Tryd.func5 (by kernel_rfl)
    (of_decide_eq_true (by kernel_rfl)) (by unfold Func.isWrapper; first | (rw [if_pos (by decide +kernel)]; kernel_rfl) | (rw [if_neg (by decide +kernel)]; exact ⟨rfl,rfl⟩))
    (fun os started H enc _ F => by rw [OpenClaim.pre_eq_preRow]; exact lifted3 os started H enc F)
theorem plain3 (f : FuncId) (fn : Func) (hf : Tryd.pinned.checked.prog.funcNamed "arraylang/arraylanglaw08.TokenBack" = some f) (hfn : Tryd.pinned.checked.prog.funcs[f]? = some fn) :
    true = Tryd.pinned.checked.prog.looks []∧∀ (j:Nat) t,fn.params[j]? = some t→Tryd.pinned.checked.prog.wantsStandIn t = false := by
  obtain rfl : f = 5 := Option.some.inj ((show Tryd.prog.funcNamed "arraylang/arraylanglaw08.TokenBack" = some 5 by kernel_rfl).symm.trans hf) |>.symm
  obtain rfl:fn = Tryd.f5 := (Option.some.inj (Tryd.func5.symm.trans hfn)).symm
  refine ⟨by kernel_rfl,fun j t ht => ?_⟩
  rw [Tryd.params5] at ht
  have hm:t ∈ [9] := by simpa using Array.mem_of_getElem? ht
  simp only [List.mem_cons,List.not_mem_nil,or_false] at hm
  subst hm
  exact (show Tryd.prog.wantsStandIn 9 = false by kernel_rfl)
theorem provedTokenBack:Rows.TokenBackCardSaid :=
  Claim7.holds_tied_plain_at .later [] _ _ _ _ said3 (fun _ h => by cases h) (by kernel_rfl) (fun _ h => by cases h) tokenBack_row_tie rfl ⟨rfl,rfl⟩ (by kernel_rfl) rfl plain3 (by kernel_rfl)
end Go.Proofs.YtfldjfpcefcjdaaDoor
