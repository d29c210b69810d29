/- The law's function returns true for every input, and its arguments read afterwards as before. -/
import Derived.Test.YtfldjfpcefcjdaaDoorWb1
import Derived.Shelf.Strconv.Itoa4
import Derived.Lib.AppendIntMem
import Derived.Lib.ItoaLen
import Derived.Test.YtfldjfpcefcjdaaDoorCards
import Derived.Test.YtfldjfpcefcjdaaDoorTie
import Derived.WalkKit
import Derived.ProofKit
import Derived.OpenShut
import Derived.Deep.DeepHandedRow
import Derived.Deep.DeepLaidRun
import Derived.Deep.DeepWitnessRowRef
import Derived.Lib.LaidTab
import Derived.Lib.LaidIn
import Derived.Lib.LaidU8T
import Derived.Lib.LaidCaseMet
import Derived.PinnedBridge
import Derived.Stop.LaidErr
import Derived.Test.YtfldjfpcefcjdaaDoorProg
import Derived.Lib.ItoaNum
import Derived.Lib.TrailingZeros
import Derived.Shelf.Unicode.DecodeSlow
import Derived.Calls
import Derived.Below
import Derived.Laws.Entries
import Derived.Laws.Build
import Derived.Laws.Concat
import Derived.Laws.AppendOwn
import Derived.Laws.IdiomStrings
import Derived.Laws.BytesString
import Derived.Laws.NewFold
import Derived.Laws.MakeOwn
import Derived.Laws.IdiomCopy
import Derived.Laws.Shifts
import Derived.Laws.Strings
import Derived.Laws.Strings2
import Derived.Laws.Strings3
import Derived.Laws.RangeString
import Derived.Laws.Cover4
import Derived.Lib.DecodeN
import Derived.MapKept
import Derived.Laws.StructEq
import Derived.Orders
import Derived.Scope
import Derived.Recover
import Derived.KernelRfl
import Derived.Shelf.Strings.Builder1
import Derived.Shelf.Strings.Builder2
import Derived.Shelf.Strings.OnBuilder
import Derived.Shelf.Small.Utf8
import Derived.Shelf.Unicode.ValidAny
import Derived.Shelf.Strconv.Itoa0
import Derived.Shelf.Strconv.Itoa1
import Derived.Shelf.LaysM
import Derived.Shelf.Strconv.Itoa2
import Derived.Shelf.Strconv.Itoa3
import Derived.Shelf.Strings.Prefix
import Derived.Shelf.Unicode.Latin
import Derived.Shelf.Unicode.Decode
import Derived.Shelf.Unicode.DecodeAny
import Derived.Shelf.Unicode.CaseLookup
import Derived.Shelf.Unicode.CaseConvert
import Derived.Shelf.Unicode.CaseTo
import Derived.Shelf.Unicode.CaseLaid
import Derived.Lib.Builder
import Derived.Lib.UnsafeStr
import Derived.Lib.MapLaws
import Derived.Lib.Join
namespace Go.Proofs.YtfldjfpcefcjdaaDoor
open Go Go.Ab
set_option maxRecDepth 100000
theorem showI_len {n:Int} (h:inI64 n):1 ≤ (showI n).length∧(showI n).length ≤ 21 := by
  have := itoa_len h
  unfold showI; unfold Lib.itoa at this
  split <;> simp_all
end Go.Proofs.YtfldjfpcefcjdaaDoor
namespace Go.Proofs.YtfldjfpcefcjdaaDoor
open Go Go.Ab
set_option maxRecDepth 100000
theorem escL_len (q:Int):∀ l:List Int,(escL q l).length ≤ 6 * l.length
  | [] => by simp [escL]
  | c :: l => by
    have h1 := escB_len c q
    have h2 := escL_len q l
    simp only [escL,List.flatMap_cons,List.length_append,List.length_cons] at h2 ⊢
    omega
end Go.Proofs.YtfldjfpcefcjdaaDoor
namespace Go.Proofs.YtfldjfpcefcjdaaDoor
open Go Go.Ab
set_option maxRecDepth 100000
theorem toksOf_eq {n:Nat} {l:List Tok} {F:Nat→List D} (hn:n = l.length) (hF:∀ i,i < n→F i = (l.getD i default).row):toksOf n F = l := by
  subst hn
  apply List.ext_getElem
  · simp [toksOf]
  · intro i h1 h2
    simp only [toksOf,List.getElem_map,List.getElem_range,hF i h2,rowTok,Tok.row,List.getD_eq_getElem?_getD,List.getElem?_eq_getElem h2,Option.getD_some]
end Go.Proofs.YtfldjfpcefcjdaaDoor
namespace Go.Proofs.YtfldjfpcefcjdaaDoor
open Go Go.Ab Go.RowKit Go.Lib Go.Shelf
set_option maxRecDepth 100000
theorem read_tok (W:World) (n:Nat):ReadAt Tryd.prog W n 36 (fun ds => ∃ t:Tok,(inI64 t.num∧t.text.length ≤ maxB)∧ds = t.row) := by
  cases n with
  | zero => exact .zero _ _
  | succ n =>
    refine (read_struct Tryd.underlying36 (by kernel_rfl) (Rs := [RInt .i64,RInt .i64,RInt .i64,RInt .i64,RStr]) ⟨read_int (by kernel_rfl) W n,read_int Tryd.underlying3 W n,read_int Tryd.underlying3 W n,read_int Tryd.underlying3 W n,read_string (by kernel_rfl) W n,trivial⟩).mono ?_
    rintro ds ⟨_,_,⟨k,rfl,_,_⟩,⟨_,_,⟨a,rfl,_,_⟩,⟨_,_,⟨l,rfl,_,_⟩,⟨_,_,⟨m,rfl,m1,m2⟩,⟨_,_,⟨t,rfl,ht⟩,h5,rfl⟩,rfl⟩,rfl⟩,rfl⟩,rfl⟩
    obtain rfl:_ = [] := h5
    refine ⟨⟨k,a,l,m,t⟩,⟨?_,ht⟩,rfl⟩
    simp only [IntKind.min,IntKind.max,IntKind.signed,IntKind.bits] at m1 m2
    unfold inI64
    simp at m1 m2
    simp only
    omega
end Go.Proofs.YtfldjfpcefcjdaaDoor
namespace Go.Proofs.YtfldjfpcefcjdaaDoor
open Go Go.Ab
set_option maxRecDepth 100000
theorem showTok_len (t:Tok):(showTok t).length ≤ 30 + 6 * t.text.length := by
  have u34 := utf8_len 34
  have u39 := utf8_len 39
  unfold showTok
  split
  · split
    · rename_i h
      have mx:maxNum = 4611686018427387903 := rfl
      have := (showI_len (n := t.num) (by unfold inI64; omega)).2
      omega
    · exact Nat.zero_le _
  · split
    · split
      · have := escL_len 39 [t.num]
        simp only [quoB,List.length_append,List.length_cons,List.length_nil] at this ⊢
        omega
      · exact Nat.zero_le _
    · split
      · split
        · have h1 := escL_len 34 ((runesL t.text).map Int.ofNat)
          have h2:(runesL t.text).length ≤ t.text.length := runesF_len _ _
          simp only [quoB,List.length_append,List.length_map] at h1 ⊢
          omega
        · exact Nat.zero_le _
      · split
        · omega
        · split
          · simp only [List.length_cons,List.length_nil]; omega
          · exact Nat.zero_le _
theorem join_le (B:Nat):∀ (L:List (List UInt8)),(∀ w ∈ L,w.length ≤ B)→(Lib.join L [32]).length ≤ L.length * (B + 1)
  | [],_ => by rw [join_nil]; exact Nat.zero_le _
  | w :: L,h => by
    have k:∀ M:List (List UInt8),(∀ w ∈ M,w.length ≤ B)→(jT [32] M).length ≤ M.length * (B + 1) := by
      intro M
      induction M with
      | nil => intro _; exact Nat.zero_le _
      | cons v M ih =>
        intro hM
        have h1 := ih fun w hw => hM w (by simp [hw])
        have h2 := hM v (by simp)
        simp only [jT,List.flatMap_cons,List.length_append,List.length_cons,List.length_nil] at h1 ⊢
        rw [Nat.add_mul]
        omega
    have h1 := k L fun v hv => h v (by simp [hv])
    have h2 := h w (by simp)
    rw [join_cons,List.length_append,List.length_cons,Nat.add_mul]
    omega
noncomputable def El2:Senv := EC conLx 15 1 [2,5] (fun _ => ([],[]))
noncomputable section
def tr5q1 (p0:List Tok) (p1:Nat):List D := Tok.row (List.getD p0 p1 (Tok.mk Z0 Z0 Z0 Z0 []))
def tr5q2 (p0:List Tok):Prop := (toksB (LN p0) fun (i:Nat) => tr5q1 p0 i) = true
def tr5q3 (p0:List Tok):List Tok := toksOf (LN p0) fun (i:Nat) => tr5q1 p0 i
def tr5q4 (p0:List Tok) (p1:Tok):Prop := p1 ∈ tr5q3 p0
def tr5q5:Prop := ∃ (_x:Unit),True∧(True∧True)∧True∧∀ (_y:Unit),True→True∧∃ (_y:Unit),True∧SM true∧True∧True
def tr5q6 (p0:List Tok):List UInt8 := Lib.join (List.map showTok (tr5q3 p0)) [(32:UInt8)]
def tr5q7 (p0:List Tok):Prop := tr5q2 p0∧LN p0 ≤ (4294967296:Nat)∧(∀ (t:Tok),tr5q4 p0 t→tokOk t)∧LN (tr5q6 p0) ≤ (140737488355328:Nat)
end
theorem law_shows (l:List Tok) (hl:l.length ≤ maxB) (ht:∀ t ∈ l,inI64 t.num∧t.text.length ≤ maxB):ACalls Tryd.prog 3 [tsl l .any] ⟨[],[]⟩ (SpecR (sC [tsl l .any] (.bool true)) ()) := by
  refine con_of (A := sC _ _) (x := ()) (E := El2) (eOk conLx_ok rfl) Tryd.func3 rfl (by kernel_rfl) rfl (by simp [sC,El2,EC,E0]) ?_
  refine vc_eq (T :=
    (tr5q2 l∧LN l ≤ (140737488355328:Nat)∧∀ (t:Tok),tr5q4 l t→LN (Tok.text t) ≤ (140737488355328:Nat))∧∀ (y:Bool),(y = true→LN l ≤ (200:Nat)∧∀ (t:Tok),tr5q4 l t→LN (Tok.text t) ≤ (4000:Nat))→ifB (!y) tr5q5 (tr5q7 l∧∀ (y:Unit),True→tr5q7 l∧∀ (y:Unit),True→ifB (tr5q6 l == tr5q6 l) tr5q5 (True∧∃ (y:Unit),True∧false = true∧True∧True))) (by kernel_rfl) ?_
  delta LN SM Z0 tr5q1 tr5q2 tr5q3 tr5q4 tr5q5 tr5q6 tr5q7
  simp only [eq_self,ne_eq,implies_true,ifB_iff,true_and,and_true,beq_iff_eq,beq_eq_false_iff_ne,exists_const,forall_const]
  have dt:(default:Tok) = { kind := 0,at_ := 0,len := 0,num := 0,text := [] } := rfl
  simp only [← dt]
  have et:toksOf l.length (fun i => (l.getD i default).row) = l := toksOf_eq rfl fun _ _ => rfl
  have eb:toksB l.length (fun i => (l.getD i default).row) = true := toksB_eq (l := l) rfl fun _ _ => rfl
  rw [et,eb]
  unfold maxB at hl ht
  refine ⟨⟨rfl,by omega,fun t h => by have := (ht t h).2; omega⟩,fun y hy hb => ?_⟩
  obtain ⟨h1,h2⟩ := hy (by simpa using hb)
  have hok:∀ t ∈ l,tokOk t := fun t h => ⟨(ht t h).1,by have := h2 t h; omega⟩
  have hj:(Lib.join (l.map showTok) [32]).length ≤ 140737488355328 := by
    have := join_le 24030 (l.map showTok) fun w hw => by
      obtain ⟨t,m1,m2⟩ := List.mem_map.1 hw
      have k1 := showTok_len t
      have k2 := h2 t m1
      rw [← m2]; omega
    rw [List.length_map] at this
    omega
  exact ⟨⟨rfl,by omega,hok,hj⟩,⟨rfl,by omega,hok,hj⟩,fun h => (h trivial).elim⟩
end Go.Proofs.YtfldjfpcefcjdaaDoor
namespace Go.Proofs.YtfldjfpcefcjdaaDoor
open Go Go.Ab Go.RowKit
set_option maxRecDepth 100000
noncomputable def wit1:Array Value := #[.slice none 0 0]
theorem laid_met1 (os:Os):laidMet Tryd.prog laidL ((laidWorld os).forCall (fun _ _ => 0) ⟨#[],wit1,[]⟩).memory :=
  laid_metA os wit1
theorem reads1 (os:Os) {H:Type} (enc:TypeId × Value→H):∃ x,DataW.whole enc Tryd.prog ((laidWorld os).forCall (fun _ _ => 0) ⟨#[],wit1,[]⟩).memory [22] [] false (wit1).toList 8 = some x :=
  Option.isSome_iff_exists.1 (by kernel_rfl)
theorem contract1 {H : Type} {enc : TypeId × Value → H}
    (W:World) (base:Nat) (args:Array Value) (ds gs:List (DataW H)) (before:List MemPlace)
    (hval:∀ (j:Nat) t v,Tryd.f3.params[j]? = some t→args[j]? = some v→Value.okWide Tryd.prog W .any base t v)
    (hW:DataW.Whole enc Tryd.prog Tryd.f3.params.toList Rows.tokenShowsSpec.vars false W args.toList ds gs before)
    (hsz:(DataW.weightsEach Tryd.prog (Tryd.f3.params.toList ++ Rows.tokenShowsSpec.plain.varTypes Tryd.prog) (ds ++ gs)).all (· ≤ reachBytes) = true) (hL:laidMetH Tryd.prog laidL W) :
    Calls Tryd.prog 3 args W fun e W' => ∃ v,e = .returned v∧Rows.tokenShowsSpec.post enc Tryd.prog Tryd.f3 false true false false W args v W' := by
  refine law_contract (rs := [(22,RSliceA 5 (fun ds => ∃ t:Tok,(inI64 t.num∧t.text.length ≤ maxB)∧ds = t.row))]) laid (by rw [Tryd.params3]; kernel_rfl) rfl (fun ds hd => ?_) (rt := 4) rfl Tryd.underlying4 (by rw [Tryd.params3]; rfl) ?_ W (g0_laid hL) base args ds gs before hval hW hsz ?_
  · rw [Tryd.params3] at hd
    match ds,hd with
    | [_],_ => exact ⟨rfl,rfl,rfl⟩
  · intro r hr
    simp only [List.mem_cons,List.not_mem_nil,or_false,or_self] at hr
    subst hr
    exact fun W n => match n with | 0 => .zero _ _ | n + 1 => read_sliceA Tryd.underlying22 (by kernel_rfl) (by decide) (by decide +kernel) (read_tok W n)
  · intro Ds h
    obtain ⟨dx,_,rfl,hx,h⟩ := h.flat (by kernel_rfl)
    obtain rfl := h.nil
    obtain ⟨rsx,hrx,hlenx,ex⟩ := hx
    injection ex with ex _
    subst ex
    obtain ⟨x,hqx,rfl⟩ := rows_of (Q := fun t:Tok => inI64 t.num∧t.text.length ≤ maxB) (g := Tok.row) (fun x ⟨b,hq,hb⟩ => ⟨b,hq,hb⟩) rsx hrx
    have hwx:weakD (.sl 5 (x.map Tok.row).length (fun i => (x.map Tok.row).getD i []) .any) (tsl x .any) := by
      refine chk_iff.2 ⟨rfl,by simp,fun i hi => ?_,trivial⟩
      have hi:i < x.length := by simpa using hi
      simp [List.getD_eq_getElem?_getD,hi]
    refine ((law_shows x (by simpa using hlenx) hqx).weakArgs (show weakL [_] [_] from ⟨hwx,trivial⟩)).mono fun r S' ⟨_,_,hr,_⟩ => hr
theorem lifted1 (os : Os) (started : os.Started) (H : Type) (enc : TypeId × Value → H) (F : Stop.Interp) :
    ReturnsInHanded {} Tryd.checked os 3 .any ((OpenSpec.ofChange Rows.tokenShowsSpec).preRow enc Tryd.prog Tryd.f3 Rows.tokenShowsRow.domain false Rows.tokenShowsRow.laid) (((OpenSpec.ofChange Rows.tokenShowsSpec).at F).post enc Tryd.prog Tryd.f3 false true false false) := by
  obtain ⟨x,hx⟩ := reads1 os enc
  refine returnsInHanded_of_row (C := Tryd.checked) (s := OpenSpec.ofChange Rows.tokenShowsSpec) own started (by kernel_rfl) Tryd.func3
    (witness_row_atRef (enc := enc) (C := Tryd.checked) false (laidWorld os) wit1 rfl (by kernel_rfl) (by kernel_rfl) (by kernel_rfl)
      (OpenSpec.preRow_of_cond 8 hx rfl (fun k hk => by cases hk) (by kernel_rfl) (laid_met1 os))) ?_
  intro W base args ds gs before hval hW _ _ hsz hL _ _
  exact contract1 W base args ds gs before hval hW hsz hL
theorem said1:Rows.TokenShowsSaid :=
  OpenClaim.holds_of_cond 3 Tryd.f3 rfl rfl rfl rfl rfl rfl rfl ⟨rfl,rfl,rfl,rfl,rfl⟩ rfl rfl rfl rfl rfl (by kernel_rfl) Tryd.func3 (by kernel_rfl)
    (of_decide_eq_true (by kernel_rfl)) (by unfold Func.isWrapper; first | (rw [if_pos (by decide +kernel)]; kernel_rfl) | (rw [if_neg (by decide +kernel)]; exact ⟨rfl,rfl⟩))
    (fun os started H enc _ F => by rw [OpenClaim.pre_eq_preRow]; exact lifted1 os started H enc F)
theorem plain1 (f : FuncId) (fn : Func) (hf : Tryd.pinned.checked.prog.funcNamed "arraylang/arraylanglaw08.TokenShows" = some f) (hfn : Tryd.pinned.checked.prog.funcs[f]? = some fn) :
    true = Tryd.pinned.checked.prog.looks []∧∀ (j:Nat) t,fn.params[j]? = some t→Tryd.pinned.checked.prog.wantsStandIn t = false := by
  obtain rfl : f = 3 := Option.some.inj ((show Tryd.prog.funcNamed "arraylang/arraylanglaw08.TokenShows" = some 3 by kernel_rfl).symm.trans hf) |>.symm
  obtain rfl:fn = Tryd.f3 := (Option.some.inj (Tryd.func3.symm.trans hfn)).symm
  refine ⟨by kernel_rfl,fun j t ht => ?_⟩
  rw [Tryd.params3] at ht
  have hm:t ∈ [22] := by simpa using Array.mem_of_getElem? ht
  simp only [List.mem_cons,List.not_mem_nil,or_false,or_self] at hm
  subst hm
  exact (show Tryd.prog.wantsStandIn 22 = false by kernel_rfl)
theorem provedTokenShows:Rows.TokenShowsCardSaid :=
  Claim7.holds_tied_plain_at .later [] _ _ _ _ said1 (fun _ h => by cases h) (by kernel_rfl) (fun _ h => by cases h) tokenShows_row_tie rfl ⟨rfl,rfl⟩ (by kernel_rfl) rfl plain1 (by kernel_rfl)
end Go.Proofs.YtfldjfpcefcjdaaDoor
