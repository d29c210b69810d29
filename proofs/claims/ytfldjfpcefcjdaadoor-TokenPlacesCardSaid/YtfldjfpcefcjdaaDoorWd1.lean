/- The law's function returns true for every input, and its arguments read afterwards as before. -/
import Derived.Test.YtfldjfpcefcjdaaDoorW3
import Derived.Test.YtfldjfpcefcjdaaDoorProg
import Derived.Lib.LaidTab
import Derived.Lib.ItoaNum
import Derived.Lib.TrailingZeros
import Derived.Shelf.Unicode.DecodeSlow
import Derived.Calls
import Derived.Below
import Derived.Laws.Entries
import Derived.Laws.Build
import Derived.Laws.Concat
import Derived.Laws.AppendOwn
import Derived.Laws.IdiomStrings
import Derived.Laws.BytesString
import Derived.Laws.NewFold
import Derived.Laws.MakeOwn
import Derived.Laws.IdiomCopy
import Derived.Laws.Shifts
import Derived.Laws.Strings
import Derived.Laws.Strings2
import Derived.Laws.Strings3
import Derived.Laws.RangeString
import Derived.Laws.Cover4
import Derived.Lib.DecodeN
import Derived.MapKept
import Derived.Laws.StructEq
import Derived.Orders
import Derived.Scope
import Derived.ProofKit
import Derived.WalkKit
import Derived.OpenShut
import Derived.Recover
import Derived.KernelRfl
import Derived.Shelf.Strings.Builder1
import Derived.Shelf.Strings.Builder2
import Derived.Shelf.Strings.OnBuilder
import Derived.Shelf.Small.Utf8
import Derived.Shelf.Unicode.ValidAny
import Derived.Shelf.Strconv.Itoa0
import Derived.Shelf.Strconv.Itoa1
import Derived.Shelf.LaysM
import Derived.Shelf.Strconv.Itoa2
import Derived.Shelf.Strconv.Itoa3
import Derived.Shelf.Strconv.Itoa4
import Derived.Shelf.Strings.Prefix
import Derived.Shelf.Unicode.Latin
import Derived.Shelf.Unicode.Decode
import Derived.Shelf.Unicode.DecodeAny
import Derived.Shelf.Unicode.CaseLookup
import Derived.Shelf.Unicode.CaseConvert
import Derived.Shelf.Unicode.CaseTo
import Derived.Shelf.Unicode.CaseLaid
import Derived.Lib.Builder
import Derived.Lib.UnsafeStr
import Derived.Lib.AppendIntMem
import Derived.Lib.ItoaLen
import Derived.Lib.MapLaws
import Derived.Lib.Join
import Derived.Test.YtfldjfpcefcjdaaDoorCards
import Derived.Test.YtfldjfpcefcjdaaDoorTie
import Derived.Deep.DeepHandedRow
import Derived.Deep.DeepLaidRun
import Derived.Deep.DeepWitnessRowRef
import Derived.Lib.LaidIn
import Derived.Lib.LaidU8T
import Derived.Lib.LaidCaseMet
import Derived.PinnedBridge
import Derived.Stop.LaidErr
namespace Go.Proofs.YtfldjfpcefcjdaaDoor
open Go Go.Ab
set_option maxRecDepth 100000
def scanF:Nat→List UInt8→Nat→Except (Int × Nat) (List Tok)
  | 0,_,_ => .ok []
  | n + 1,r,p =>
    let k := skipM false r
    let q := r.drop k
    if q = [] then .ok []
    else match lexT q with
      | .error (e,o) => .error (e,p + k + o)
      | .ok (kd,len,num,text) =>
        match scanF n (q.drop len) (p + k + len) with
        | .error e => .error e
        | .ok l => .ok (⟨kd,((p + k:Nat):Int),len,num,text⟩ :: l)
def preL (l:List Tok):Except (Int × Nat) (List Tok)→Except (Int × Nat) (List Tok)
  | .error e => .error e
  | .ok m => .ok (l ++ m)
theorem scanGo_F:∀ (n:Nat) (r:List UInt8) (p:Nat) (l:List Tok),r.length < n→l.length + r.length ≤ 16384→scanGo n r p l = preL l (scanF n r p)
  | 0,_,_,_,h,_ => absurd h (Nat.not_lt_zero _)
  | n + 1,r,p,l,h1,h2 => by
    simp only [scanF,scanGo]
    split
    · simp [preL]
    · rename_i hq
      have hl := lex_len hq
      have hs := skip_le false r
      revert hl
      generalize lexT (r.drop (skipM false r)) = z
      intro hl
      match z,hl with
      | .error (e,o),_ => rfl
      | .ok (kd,len,num,text),hl =>
        have hl:1 ≤ len∧len ≤ (r.drop (skipM false r)).length := hl
        rw [List.length_drop] at hl
        simp only
        rw [if_neg (by omega),scanGo_F n _ _ _ (by simp only [List.length_drop]; omega) (by simp only [List.length_drop,List.length_append,List.length_cons,List.length_nil]; omega)]
        cases scanF n ((r.drop (skipM false r)).drop len) (p + skipM false r + len) with
        | error e => rfl
        | ok m => simp [preL]
end Go.Proofs.YtfldjfpcefcjdaaDoor
namespace Go.Proofs.YtfldjfpcefcjdaaDoor
open Go Go.Ab
set_option maxRecDepth 100000
def nameB (w:List UInt8):Bool := plainB w && decide (w.length ≤ 32) && !resB w
def TokF (r:List UInt8):Lex→Prop
  | .ok (k,len,_,text) => ((k = 4∨k = 5)→text = r.take len)∧(k = 4→nameB text = true)
  | .error _ => True
theorem word_facts {r:List UInt8} (h:r ≠ []) (ha:alp (r.getD 0 0) = true):TokF r (wordT r) := by
  unfold wordT
  simp only
  split
  · exact ⟨fun _ => (take_tw aln r).symm,fun h => by exact absurd h (by decide)⟩
  · rename_i hres
    split
    · trivial
    · rename_i hup
      split
      · trivial
      · rename_i hlen
        refine ⟨fun _ => (take_tw aln r).symm,fun _ => ?_⟩
        have hno:∀ b ∈ r.takeWhile aln,upp b = false := fun b hb => by
          cases hu:upp b with
          | false => rfl
          | true => exact (hup (List.any_eq_true.2 ⟨b,hb,hu⟩)).elim
        have hall:∀ b ∈ r.takeWhile aln,(low b || dig b) = true := fun b hb => by
          have h1 := tw_all aln r b hb
          unfold aln alp at h1
          rw [hno b hb,Bool.or_false] at h1
          exact h1
        match r,h with
        | c :: r,_ =>
          have ha:alp c = true := ha
          have hc:aln c = true := by unfold aln; rw [ha]; rfl
          have hlow:low c = true := by
            have h1 := hno c (by simp [hc])
            unfold alp at ha
            rw [h1,Bool.or_false] at ha
            exact ha
          unfold nameB plainB
          have e1:((c :: r).takeWhile aln).isEmpty = false := by simp [hc]
          have e2:((c :: r).takeWhile aln).getD 0 0 = c := by simp [hc]
          have e3:(((c :: r).takeWhile aln).all fun b => low b || dig b) = true := List.all_eq_true.2 hall
          have e4:resB ((c :: r).takeWhile aln) = false := by simpa using hres
          rw [e1,e2,e3,e4,hlow]
          simp
          omega
theorem sym_facts {r:List UInt8}:TokF r (symT r) := by
  unfold symT
  split
  · exact ⟨fun _ => rfl,fun h => by exact absurd h (by decide)⟩
  · split
    · exact ⟨fun _ => rfl,fun h => by exact absurd h (by decide)⟩
    · trivial
theorem str_facts (r:List UInt8):∀ (n:Nat) (q:List UInt8) (p:Nat) (acc:List UInt8),TokF r (strGo n q p acc)
  | 0,_,_,_ => trivial
  | n + 1,q,p,acc => by
    simp only [strGo]
    split
    · trivial
    split
    · exact ⟨fun h => by rcases h with h | h <;> exact absurd h (by decide),fun h => by exact absurd h (by decide)⟩
    split
    · trivial
    · exact str_facts r n _ _ _
theorem lex_facts {r:List UInt8} (h:r ≠ []):TokF r (lexT r) := by
  unfold lexT
  simp only
  split
  · exact ⟨fun h => by rcases h with h | h <;> exact absurd h (by decide),fun h => by exact absurd h (by decide)⟩
  split
  · unfold numT
    generalize (if r.getD 0 0 = 95 then 1 else 0) = u
    simp only
    split
    · trivial
    split
    · trivial
    · exact ⟨fun h => by rcases h with h | h <;> exact absurd h (by decide),fun h => by exact absurd h (by decide)⟩
  split
  · rename_i ha
    exact word_facts h ha
  split
  · exact str_facts r _ _ _ _
  split
  · unfold charT
    simp only
    repeat' split
    all_goals first
      | trivial
      | exact ⟨fun h => by rcases h with h | h <;> exact absurd h (by decide),fun h => by exact absurd h (by decide)⟩
  · exact sym_facts
def placed (s:List UInt8):Int→List Tok→Prop
  | _,[] => True
  | e,t :: l => (0 ≤ t.at_∧e ≤ t.at_∧1 ≤ t.len∧t.at_ + t.len ≤ s.length)∧((t.kind = 4∨t.kind = 5)→t.text = (s.drop t.at_.toNat).take t.len.toNat)∧(t.kind = 4→nameB t.text = true)∧placed s (t.at_ + t.len) l
theorem placed_mono {s:List UInt8} {e e':Int} (h:e' ≤ e):∀ {l:List Tok},placed s e l→placed s e' l
  | [],_ => trivial
  | _ :: _,⟨⟨h0,h1,h2,h3⟩,h4⟩ => ⟨⟨h0,Int.le_trans h h1,h2,h3⟩,h4⟩
def PlX (s:List UInt8) (p:Nat):Except (Int × Nat) (List Tok)→Prop
  | .error (_,o) => o ≤ s.length
  | .ok l => placed s p l
theorem scanF_placed (s:List UInt8):∀ (n p:Nat),p ≤ s.length→PlX s p (scanF n (s.drop p) p)
  | 0,_,_ => trivial
  | n + 1,p,hp => by
    have hs := skip_le false (s.drop p)
    rw [List.length_drop] at hs
    simp only [scanF]
    rw [List.drop_drop]
    split
    · trivial
    · rename_i hq
      have hl := lex_len hq
      have hf := lex_facts hq
      revert hl hf
      generalize lexT (s.drop (p + skipM false (s.drop p))) = z
      intro hl hf
      match z,hl,hf with
      | .error (e,o),hl,_ =>
        have hl:o ≤ (s.drop (p + skipM false (s.drop p))).length := hl
        rw [List.length_drop] at hl
        show p + skipM false (s.drop p) + o ≤ s.length
        omega
      | .ok (kd,len,num,text),hl,⟨f1,f2⟩ =>
        have hl:1 ≤ len∧len ≤ (s.drop (p + skipM false (s.drop p))).length := hl
        rw [List.length_drop] at hl
        have ih := scanF_placed s n (p + skipM false (s.drop p) + len) (by omega)
        simp only
        rw [List.drop_drop]
        revert ih
        generalize scanF n (s.drop (p + skipM false (s.drop p) + len)) (p + skipM false (s.drop p) + len) = y
        intro ih
        match y,ih with
        | .error (e,o),ih => exact ih
        | .ok l,ih =>
          refine ⟨⟨by simp only; omega,by simp only; omega,by simp only; omega,by simp only; omega⟩,fun h => ?_,fun h => f2 h,?_⟩
          · have := f1 h
            show text = (s.drop (((p + skipM false (s.drop p):Nat):Int)).toNat).take ((len:Int)).toNat
            rw [Int.toNat_natCast,Int.toNat_natCast]
            exact this
          · have:placed s ((p + skipM false (s.drop p) + len:Nat):Int) l := ih
            refine placed_mono ?_ this
            simp only; omega
end Go.Proofs.YtfldjfpcefcjdaaDoor
namespace Go.Proofs.YtfldjfpcefcjdaaDoor
open Go Go.Ab
set_option maxRecDepth 100000
theorem scan_small {s:List UInt8} (h:s.length ≤ 16384):scanT s = scanF (s.length + 1) s 0 := by
  unfold scanT
  rw [if_neg (by omega),scanGo_F _ _ _ _ (by omega) (by simpa using h)]
  cases scanF (s.length + 1) s 0 <;> rfl
theorem strGo_text:∀ (n:Nat) (r:List UInt8) (p:Nat) (acc:List UInt8) (k num:Int) (len:Nat) (text:List UInt8),strGo n r p acc = .ok (k,len,num,text)→text.length ≤ acc.length + 4 * n
  | 0,r,p,acc,k,num,len,text,h => by cases h
  | n + 1,r,p,acc,k,num,len,text,h => by
    simp only [strGo] at h
    split at h
    · cases h
    · split at h
      · injection h with h
        have e:acc = text := congrArg (fun x => x.2.2.2) h
        rw [← e]; omega
      · split at h
        · cases h
        · rename_i c w _
          have h1 := strGo_text n _ _ _ _ _ _ _ h
          have h2 := utf8_len ((c:Nat):Int)
          unfold utf8 at h2
          rw [List.length_append] at h1
          omega
theorem lex_text {r:List UInt8} {k num:Int} {len:Nat} {text:List UInt8} (h:lexT r = .ok (k,len,num,text)):text.length ≤ 4 * r.length := by
  unfold lexT at h
  simp only at h
  split at h
  · injection h with h
    have e:[] = text := congrArg (fun x => x.2.2.2) h
    rw [← e]; exact Nat.zero_le _
  · split at h
    · unfold numT at h
      simp only at h
      repeat' split at h
      all_goals first
        | (injection h with h; have e:[] = text := congrArg (fun x => x.2.2.2) h; rw [← e]; exact Nat.zero_le _)
        | cases h
    · split at h
      · unfold wordT at h
        simp only at h
        have hl := tw_len aln r
        repeat' split at h
        all_goals first
          | (injection h with h; have e:r.takeWhile aln = text := congrArg (fun x => x.2.2.2) h; rw [← e]; omega)
          | cases h
      · split at h
        · exact Nat.le_trans (strGo_text _ _ _ _ _ _ _ _ h) (by simp)
        · split at h
          · unfold charT at h
            simp only at h
            repeat' split at h
            all_goals first
              | (injection h with h; have e:[] = text := congrArg (fun x => x.2.2.2) h; rw [← e]; exact Nat.zero_le _)
              | cases h
          · unfold symT at h
            repeat' split at h
            · injection h with h
              have e:r.take 2 = text := congrArg (fun x => x.2.2.2) h
              rw [← e,List.length_take]; omega
            · injection h with h
              have e:r.take 1 = text := congrArg (fun x => x.2.2.2) h
              rw [← e,List.length_take]; omega
            · cases h
theorem scanF_bnd:∀ (n:Nat) (r:List UInt8) (p:Nat) (m:List Tok),scanF n r p = .ok m→m.length ≤ r.length∧∀ t ∈ m,t.text.length ≤ 4 * r.length
  | 0,r,p,m,h => by
    injection h with h
    subst h; exact ⟨Nat.zero_le _,fun t ht => by cases ht⟩
  | n + 1,r,p,m,h => by
    simp only [scanF] at h
    by_cases hq:r.drop (skipM false r) = []
    · rw [if_pos hq] at h
      injection h with h; subst h
      exact ⟨Nat.zero_le _,fun t ht => by cases ht⟩
    · rw [if_neg hq] at h
      cases hz:lexT (r.drop (skipM false r)) with
      | error z => rw [hz] at h; cases h
      | ok z =>
        obtain ⟨kd,len,num,text⟩ := z
        have hlen := lex_len hq
        rw [hz] at h hlen
        have hlen:1 ≤ len∧len ≤ (r.drop (skipM false r)).length := hlen
        have ht := lex_text hz
        simp only at h
        cases hf:scanF n ((r.drop (skipM false r)).drop len) (p + skipM false r + len) with
        | error e => rw [hf] at h; cases h
        | ok l2 =>
          rw [hf] at h
          injection h with h
          subst h
          obtain ⟨b1,b2⟩ := scanF_bnd n _ _ l2 hf
          rw [List.length_drop,List.length_drop] at b1 b2
          rw [List.length_drop] at hlen ht
          refine ⟨by rw [List.length_cons]; omega,fun t hm => ?_⟩
          rcases List.mem_cons.1 hm with rfl | hm
          · simp only; omega
          · have := b2 t hm; omega
end Go.Proofs.YtfldjfpcefcjdaaDoor
namespace Go.Proofs.YtfldjfpcefcjdaaDoor
open Go Go.Ab
set_option maxRecDepth 100000
noncomputable def El4 (s:List UInt8):Senv := { EC conLx 94 1 [2,3,4,5,6,7,10,26,30,55,78,92] (fun id => match id with | 14 => ([0,1,2,3,4,5,6,7,8,9,10,11,12,13,14,15,16,17],[]) | _ => ([],[])) with
  ann := fun k _ S => match k with
    | 0 => some { slots := [6,5],keep := [0,3],α := Nat × Int,st := fun y => ([.int .i64 y.1,.int .i64 y.2],S),inv := fun y => y.1 ≤ (scL (scanT s)).length∧0 ≤ y.2∧placed s y.2 ((scL (scanT s)).drop y.1),mu := fun y => (scL (scanT s)).length - y.1 }
    | _ => none }
noncomputable section
def tr8q0:Prop := ∃ (_x:Unit),True∧(True∧True)∧True∧∀ (_y:Unit),True→True∧∃ (_y:Unit),True∧SM true∧True∧True
def tr8q1 (p0:List UInt8):Int := scA (scanT p0)
def tr8q2 (p0:List UInt8):Bool := decide (tr8q1 p0 < Z0)
def tr8q3 (p0:List UInt8):Bool := decide ((LI p0) < tr8q1 p0)
def tr8q4 (p0:List UInt8):Bool := bif tr8q2 p0 then true else tr8q3 p0
def tr8q5:Prop := True∧∃ (_y:Unit),True∧false = true∧True∧True
def tr8q6 (p0:List UInt8):List Tok := scL (scanT p0)
def tr8q7 (p0:List UInt8):Nat := LN (tr8q6 p0)
def tr8q8 (p0:Nat) (p1:List UInt8) (p2:Int):Prop := p0 ≤ tr8q7 p1∧Z0 ≤ p2∧placed p1 p2 (List.drop p0 (tr8q6 p1))
def tr8q9:Prop := SM N0∧(∀ (i:Nat),i < N0→eqOf (List D) [] [])∧True
def tr8q10 (p0:Nat) (p1:List UInt8):Prop := (SM p0∧(SM (scE (scanT p1))∧SM (tr8q1 p1)∧tr8q9∧tr8q9∧eqOf (List UInt8) [] []∧True)∧True)∧True
def tr8q11 (p0:List UInt8):Int := (NI (tr8q7 p0))
def tr8q12:Tok := Tok.mk Z0 Z0 Z0 Z0 []
def tr8q13 (p0:List UInt8) (p1:Nat):Tok := List.getD (tr8q6 p0) (Int.toNat (↑p1:Int)) tr8q12
def tr8q14 (p0:List UInt8) (p1:Nat):Int := Tok.at_ (tr8q13 p0 p1)
def tr8q15 (p0:List UInt8) (p1:Nat) (p2:Int):Bool := decide (tr8q14 p0 p1 < p2)
def tr8q16 (p0:List UInt8) (p1:Nat):Int := Tok.len (tr8q13 p0 p1)
def tr8q17 (p0:List UInt8) (p1:Nat):Bool := decide (tr8q16 p0 p1 < Z1)
def tr8q18 (p0:List UInt8) (p1:Nat):Bool := decide (IntKind.wrap IntKind.i64 ((LI p0) - tr8q14 p0 p1) < tr8q16 p0 p1)
def tr8q19 (p0:List UInt8) (p1:Nat) (p2:Int):Bool := bif bif tr8q15 p0 p1 p2 then true else tr8q17 p0 p1 then true else tr8q18 p0 p1
def tr8q20 (p0:List UInt8) (p1:Nat) (p2:Int):Prop := true = tr8q19 p0 p1 p2∧True
def tr8q21 (p0:List UInt8) (p1:Nat):Int := Tok.kind (tr8q13 p0 p1)
def tr8q22 (p0:List UInt8) (p1:Nat):Bool := tr8q21 p0 p1 == (4:Int)
def tr8q23 (p0:List UInt8) (p1:Nat):Int := IntKind.wrap IntKind.i64 (tr8q14 p0 p1 + tr8q16 p0 p1)
def tr8q24 (p0:List UInt8) (p1:Nat):List UInt8 := Tok.text (tr8q13 p0 p1)
def tr8q25 (p0:List UInt8) (p1:Nat):Bool := tr8q24 p0 p1 != List.drop (Int.toNat (tr8q14 p0 p1)) (List.take (Int.toNat (tr8q23 p0 p1)) p0)
def tr8q26 (p0:List UInt8) (p1:Nat):Bool := tr8q21 p0 p1 == (5:Int)
def tr8q27 (p0:List UInt8) (p1:Nat):Bool := bif bif tr8q22 p0 p1 then true else tr8q26 p0 p1 then tr8q25 p0 p1 else false
def tr8q28 (p0:Nat) (p1:List UInt8) (p2:Nat):Prop := SM p0∧SM p0∧side (Z0 ≤ tr8q14 p1 p2∧tr8q14 p1 p2 ≤ tr8q23 p1 p2∧tr8q23 p1 p2 ≤ (LI p1)) (tr8q25 p1 p2 = tr8q27 p1 p2∧True)
def tr8q29 (p0:List UInt8) (p1:Nat):Bool := resB (tr8q24 p0 p1)
def tr8q30 (p0:List UInt8) (p1:Nat):Nat := LN (tr8q24 p0 p1)
def tr8q31 (p0:List UInt8):D := D.sl (5:Nat) (tr8q7 p0) (fun (i:Nat) => Tok.row (List.getD (tr8q6 p0) i tr8q12)) Mode.any
def tr8q32 (p0:List UInt8) (p1 p2:Nat):Prop := (SM (D.str p0)∧SM (tr8q31 p0)∧True)∧∃ (y:Nat × Int),tr8q8 y.1 p0 y.2∧tr8q7 p0 - y.1 < tr8q7 p0 - p1∧(IntKind.wrap IntKind.i64 ((↑p1:Int) + Z1) = (NI y.1)∧tr8q23 p0 p1 = y.2∧True)∧tr8q10 p2 p0
def tr8q33:Prop := True∧tr8q5
end
theorem law_places (s:List UInt8) (hs:s.length ≤ maxB):ACalls Tryd.prog 6 [.str s] ⟨[],[]⟩ (SpecR (sC [.str s] (.bool true)) ()) := by
  refine con_of (A := sC _ _) (x := ()) (E := El4 s) (eOk conLx_ok rfl) Tryd.func6 rfl (by kernel_rfl) rfl (by simp [sC,El4,EC,E0]) ?_
  refine vc_eq (T :=
    ifB (decide ((2000:Int) < (LI s))) tr8q0 (LN s ≤ (140737488355328:Nat)∧∀ (y:Unit),True→∀ (x:Nat),True→SM x∧(SM x∧ifB (tr8q2 s) (true = tr8q4 s∧True) (SM x∧tr8q3 s = tr8q4 s∧True))∧ifB (tr8q4 s) tr8q5 ((∃ (x_1:Nat × Int),tr8q8 x_1.1 s x_1.2∧(Z0 = (NI x_1.1)∧Z0 = x_1.2∧True)∧tr8q10 x s)∧∀ (x_1:Nat × Int),tr8q8 x_1.1 s x_1.2→ifB (decide ((NI x_1.1) < tr8q11 s)) (side (Z0 ≤ (NI x_1.1)∧(NI x_1.1) < tr8q11 s) (∀ (x_2:Nat),x ≠ x_2∧True→SM x_2∧(SM x_2∧ifB (tr8q15 s x_1.1 x_1.2) (tr8q20 s x_1.1 x_1.2) (SM x_2∧ifB (tr8q17 s x_1.1) (tr8q20 s x_1.1 x_1.2) (SM x_2∧SM x_2∧tr8q18 s x_1.1 = tr8q19 s x_1.1 x_1.2∧True)))∧ifB (tr8q19 s x_1.1 x_1.2) tr8q5 (SM x_2∧SM x_2∧(SM x_2∧ifB (tr8q22 s x_1.1) (tr8q28 x_2 s x_1.1) (SM x_2∧ifB (tr8q26 s x_1.1) (tr8q28 x_2 s x_1.1) (false = tr8q27 s x_1.1∧True)))∧ifB (tr8q27 s x_1.1) tr8q5 (SM x_2∧ifB (tr8q22 s x_1.1) (SM x_2∧True∧∀ (y:Unit),True→ifB (tr8q29 s x_1.1) tr8q5 (SM x_2∧tr8q30 s x_1.1 ≤ (140737488355328:Nat)∧∀ (y:Unit),True→ifB (plainB (tr8q24 s x_1.1)) (ifB (decide ((NI (tr8q30 s x_1.1)) ≤ (32:Int))) (tr8q30 s x_1.1 ≤ (140737488351232:Nat)∧∀ (y:Unit),True→True∧ifB (!!tr8q29 s x_1.1) tr8q5 (tr8q32 s x_1.1 x)) tr8q33) tr8q33)) (tr8q32 s x_1.1 x))))) tr8q0))) (by kernel_rfl) ?_
  delta LI LN N0 NI SM Z0 Z1 tr8q0 tr8q1 tr8q10 tr8q11 tr8q12 tr8q13 tr8q14 tr8q15 tr8q16 tr8q17 tr8q18 tr8q19 tr8q2 tr8q20 tr8q21 tr8q22 tr8q23 tr8q24 tr8q25 tr8q26 tr8q27 tr8q28 tr8q29 tr8q3 tr8q30 tr8q31 tr8q32 tr8q33 tr8q4 tr8q5 tr8q6 tr8q7 tr8q8 tr8q9
  simp only [eq_self,ne_eq,implies_true,Int.toNat_natCast,ifB_iff,side_iff,decide_eq_true_eq,decide_eq_false_iff_not,true_and,and_true,beq_iff_eq,Bool.cond_false_right,Bool.cond_true_left,Bool.and_eq_true,Bool.and_eq_false_iff,Bool.or_eq_true,Bool.or_eq_false_iff,beq_eq_false_iff_ne,exists_const,forall_const]
  have dt:(default:Tok) = { kind := 0,at_ := 0,len := 0,num := 0,text := [] } := rfl
  simp only [← dt]
  unfold maxB at hs
  intro h
  have hP := scanF_placed s (s.length + 1) 0 (Nat.zero_le _)
  rw [List.drop_zero,← scan_small (by omega)] at hP
  have hA:0 ≤ scA (scanT s)∧scA (scanT s) ≤ s.length∧placed s 0 (scL (scanT s)) := by
    cases hz:scanT s with
    | error z =>
      obtain ⟨e,a⟩ := z
      rw [hz] at hP
      have hP:a ≤ s.length := hP
      have e1:scA (.error (e,a)) = (a:Int) := rfl
      rw [e1]
      exact ⟨by omega,by omega,trivial⟩
    | ok l =>
      rw [hz] at hP
      have e1:scA (.ok l) = 0 := rfl
      rw [e1]
      exact ⟨by omega,by omega,hP⟩
  obtain ⟨a1,a2,a3⟩ := hA
  have hc:(scL (scanT s)).length ≤ s.length := by
    cases hz:scanT s with
    | error z => exact Nat.zero_le _
    | ok l =>
      rw [scan_small (by omega)] at hz
      exact (scanF_bnd _ _ _ _ hz).1
  refine ⟨by omega,fun x => ⟨⟨fun h => by omega,fun h => by rw [decide_eq_false h]; rfl⟩,fun h => by omega,fun _ => ⟨⟨(0,0),⟨Nat.zero_le _,Int.le_refl _,a3⟩,rfl,rfl⟩,?_⟩⟩⟩
  rintro ⟨i,e⟩ ⟨i1,i2,i3⟩
  simp only at i1 i2 i3 ⊢
  intro hlt
  have hi:i < (scL (scanT s)).length := by omega
  rw [drop_step hi] at i3
  revert i3
  generalize (scL (scanT s)).getD i default = t
  generalize (scL (scanT s)).length = n at *
  intro i3
  obtain ⟨⟨p0,p1,p2,p3⟩,p4,p5,p6⟩ := i3
  have w1:IntKind.i64.wrap ((s.length:Int) - t.at_) = (s.length:Int) - t.at_ := wrap_i64' (by omega) (by omega)
  have w2:IntKind.i64.wrap (t.at_ + t.len) = t.at_ + t.len := wrap_i64' (by omega) (by omega)
  have hsl:List.drop t.at_.toNat (List.take (t.at_ + t.len).toNat s) = (s.drop t.at_.toNat).take t.len.toNat := by
    rw [List.drop_take]; congr 1; omega
  have d1:¬ t.at_ < e := by omega
  have d2:¬ t.len < 1 := by omega
  have d3:¬ (s.length:Int) - t.at_ < t.len := by omega
  rw [w1,w2,hsl]
  refine ⟨by omega,fun x2 _ => ⟨⟨fun h => (d1 h).elim,fun _ => ⟨fun h => (d2 h).elim,fun _ => ?_⟩⟩,fun h => ?_,fun _ => ?_⟩⟩
  · rw [decide_eq_false d1,decide_eq_false d2]; rfl
  · rcases h with (h | h) | h
    · exact (d1 h).elim
    · exact (d2 h).elim
    · exact (d3 h).elim
  have nx:∃ y:Nat × Int,(y.1 ≤ n∧0 ≤ y.2∧placed s y.2 ((scL (scanT s)).drop y.1))∧n - y.1 < n - i∧IntKind.i64.wrap ((i:Int) + 1) = (y.1:Int)∧t.at_ + t.len = y.2 := ⟨(i + 1,t.at_ + t.len),⟨by simp only; omega,by simp only; omega,p6⟩,by simp only; omega,wrap_i64' (by omega) (by omega),rfl⟩
  have hpl:t.text.length ≤ 4294967296∨t.kind ≠ 4 := by
    by_cases hk:t.kind = 4
    · left
      rw [p4 (.inl hk),List.length_take,List.length_drop]; omega
    · exact .inr hk
  have hne:t.kind = 4∨t.kind = 5→(t.text != List.take t.len.toNat (List.drop t.at_.toNat s)) = false := fun hk => by
    rw [p4 hk]; simp
  have ha:t.kind = 4→(t.kind == 4 || t.kind == 5) = true := fun hk => by rw [hk]; rfl
  have hb:t.kind = 5→(t.kind == 4 || t.kind == 5) = true := fun hk => by rw [hk]; rfl
  have hc:¬ t.kind = 4→¬ t.kind = 5→(t.kind == 4 || t.kind == 5) = false := fun h4 h5 => by simp [h4,h5]
  refine ⟨⟨fun h4 => ⟨by omega,by rw [ha h4,Bool.true_and]⟩,fun h4 => ⟨fun h5 => ⟨by omega,by rw [hb h5,Bool.true_and]⟩,fun h5 => by rw [hc h4 h5]; rfl⟩⟩,fun h => ?_,fun _ => ⟨fun h4 => ?_,fun _ => nx⟩⟩
  · rw [hne h.1] at h
    exact h.2
  · have hnm := p5 h4
    unfold nameB at hnm
    rw [Bool.and_eq_true,Bool.and_eq_true,decide_eq_true_eq] at hnm
    obtain ⟨⟨n1,n2⟩,n3⟩ := hnm
    have n3:resB t.text = false := by simpa using n3
    rw [n1,n3]
    exact ⟨fun h => Bool.noConfusion h,fun _ => ⟨by omega,fun _ => ⟨fun _ => ⟨by omega,fun h => Bool.noConfusion h,fun _ => nx⟩,fun h => by omega⟩,fun h => Bool.noConfusion h⟩⟩
end Go.Proofs.YtfldjfpcefcjdaaDoor
namespace Go.Proofs.YtfldjfpcefcjdaaDoor
open Go Go.Ab Go.RowKit
set_option maxRecDepth 100000
noncomputable def wit4:Array Value := #[.string ⟨#[]⟩]
theorem laid_met4 (os:Os):laidMet Tryd.prog laidL ((laidWorld os).forCall (fun _ _ => 0) ⟨#[],wit4,[]⟩).memory :=
  laid_metA os wit4
theorem reads4 (os:Os) {H:Type} (enc:TypeId × Value→H):∃ x,DataW.whole enc Tryd.prog ((laidWorld os).forCall (fun _ _ => 0) ⟨#[],wit4,[]⟩).memory [9] [] false (wit4).toList 8 = some x :=
  Option.isSome_iff_exists.1 (by kernel_rfl)
theorem contract4 {H : Type} {enc : TypeId × Value → H}
    (W:World) (base:Nat) (args:Array Value) (ds gs:List (DataW H)) (before:List MemPlace)
    (hval:∀ (j:Nat) t v,Tryd.f6.params[j]? = some t→args[j]? = some v→Value.okWide Tryd.prog W .any base t v)
    (hW:DataW.Whole enc Tryd.prog Tryd.f6.params.toList Rows.tokenPlacesSpec.vars false W args.toList ds gs before)
    (hsz:(DataW.weightsEach Tryd.prog (Tryd.f6.params.toList ++ Rows.tokenPlacesSpec.plain.varTypes Tryd.prog) (ds ++ gs)).all (· ≤ reachBytes) = true) (hL:laidMetH Tryd.prog laidL W) :
    Calls Tryd.prog 6 args W fun e W' => ∃ v,e = .returned v∧Rows.tokenPlacesSpec.post enc Tryd.prog Tryd.f6 false true false false W args v W' := by
  refine law_contract (rs := [(9,RStr)]) laid (by rw [Tryd.params6]; kernel_rfl) rfl (fun ds hd => ?_) (rt := 4) rfl Tryd.underlying4 (by rw [Tryd.params6]; rfl) ?_ W (g0_laid hL) base args ds gs before hval hW hsz ?_
  · rw [Tryd.params6] at hd
    match ds,hd with
    | [_],_ => exact ⟨rfl,rfl,rfl⟩
  · intro r hr
    simp only [List.mem_cons,List.not_mem_nil,or_false,or_self] at hr
    subst hr
    exact read_string Tryd.underlying9
  · intro Ds h
    obtain ⟨dx,_,rfl,hx,h⟩ := h.flat (by kernel_rfl)
    obtain rfl := h.nil
    obtain ⟨x,ex,hokx⟩ := hx
    injection ex with ex _
    subst ex
    exact (law_places x hokx).mono fun r S' ⟨_,_,hr,_⟩ => hr
theorem lifted4 (os : Os) (started : os.Started) (H : Type) (enc : TypeId × Value → H) (F : Stop.Interp) :
    ReturnsInHanded {} Tryd.checked os 6 .any ((OpenSpec.ofChange Rows.tokenPlacesSpec).preRow enc Tryd.prog Tryd.f6 Rows.tokenPlacesRow.domain false Rows.tokenPlacesRow.laid) (((OpenSpec.ofChange Rows.tokenPlacesSpec).at F).post enc Tryd.prog Tryd.f6 false true false false) := by
  obtain ⟨x,hx⟩ := reads4 os enc
  refine returnsInHanded_of_row (C := Tryd.checked) (s := OpenSpec.ofChange Rows.tokenPlacesSpec) own started (by kernel_rfl) Tryd.func6
    (witness_row_atRef (enc := enc) (C := Tryd.checked) false (laidWorld os) wit4 rfl (by kernel_rfl) (by kernel_rfl) (by kernel_rfl)
      (OpenSpec.preRow_of_cond 8 hx rfl (fun k hk => by cases hk) (by kernel_rfl) (laid_met4 os))) ?_
  intro W base args ds gs before hval hW _ _ hsz hL _ _
  exact contract4 W base args ds gs before hval hW hsz hL
theorem said4:Rows.TokenPlacesSaid :=
  OpenClaim.holds_of_cond 6 Tryd.f6 rfl rfl rfl rfl rfl rfl rfl ⟨rfl,rfl,rfl,rfl,rfl⟩ rfl rfl rfl rfl rfl (by kernel_rfl) Tryd.func6 (by kernel_rfl)
    (of_decide_eq_true (by kernel_rfl)) (by unfold Func.isWrapper; first | (rw [if_pos (by decide +kernel)]; kernel_rfl) | (rw [if_neg (by decide +kernel)]; exact ⟨rfl,rfl⟩))
    (fun os started H enc _ F => by rw [OpenClaim.pre_eq_preRow]; exact lifted4 os started H enc F)
theorem plain4 (f : FuncId) (fn : Func) (hf : Tryd.pinned.checked.prog.funcNamed "arraylang/arraylanglaw08.TokenPlaces" = some f) (hfn : Tryd.pinned.checked.prog.funcs[f]? = some fn) :
    true = Tryd.pinned.checked.prog.looks []∧∀ (j:Nat) t,fn.params[j]? = some t→Tryd.pinned.checked.prog.wantsStandIn t = false := by
  obtain rfl : f = 6 := Option.some.inj ((show Tryd.prog.funcNamed "arraylang/arraylanglaw08.TokenPlaces" = some 6 by kernel_rfl).symm.trans hf) |>.symm
  obtain rfl:fn = Tryd.f6 := (Option.some.inj (Tryd.func6.symm.trans hfn)).symm
  refine ⟨by kernel_rfl,fun j t ht => ?_⟩
  rw [Tryd.params6] at ht
  have hm:t ∈ [9] := by simpa using Array.mem_of_getElem? ht
  simp only [List.mem_cons,List.not_mem_nil,or_false,or_self] at hm
  subst hm
  exact (show Tryd.prog.wantsStandIn 9 = false by kernel_rfl)
theorem provedTokenPlaces:Rows.TokenPlacesCardSaid :=
  Claim7.holds_tied_plain_at .later [] _ _ _ _ said4 (fun _ h => by cases h) (by kernel_rfl) (fun _ h => by cases h) tokenPlaces_row_tie rfl ⟨rfl,rfl⟩ (by kernel_rfl) rfl plain4 (by kernel_rfl)
end Go.Proofs.YtfldjfpcefcjdaaDoor
