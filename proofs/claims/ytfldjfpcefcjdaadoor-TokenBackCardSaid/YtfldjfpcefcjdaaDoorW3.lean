/- Functions of the given program and what each of them computes: lemmas towards the statement, their conditions stated with each of them. -/
import Derived.Test.YtfldjfpcefcjdaaDoorW2
import Derived.Test.YtfldjfpcefcjdaaDoorCards
import Derived.Test.YtfldjfpcefcjdaaDoorTie
import Derived.WalkKit
import Derived.ProofKit
import Derived.OpenShut
import Derived.Deep.DeepHandedRow
import Derived.Deep.DeepLaidRun
import Derived.Deep.DeepWitnessRowRef
import Derived.Lib.LaidTab
import Derived.Lib.LaidIn
import Derived.Lib.LaidU8T
import Derived.Lib.LaidCaseMet
import Derived.PinnedBridge
import Derived.Stop.LaidErr
import Derived.Test.YtfldjfpcefcjdaaDoorProg
import Derived.Lib.ItoaNum
import Derived.Lib.TrailingZeros
import Derived.Shelf.Unicode.DecodeSlow
import Derived.Calls
import Derived.Below
import Derived.Laws.Entries
import Derived.Laws.Build
import Derived.Laws.Concat
import Derived.Laws.AppendOwn
import Derived.Laws.IdiomStrings
import Derived.Laws.BytesString
import Derived.Laws.NewFold
import Derived.Laws.MakeOwn
import Derived.Laws.IdiomCopy
import Derived.Laws.Shifts
import Derived.Laws.Strings
import Derived.Laws.Strings2
import Derived.Laws.Strings3
import Derived.Laws.RangeString
import Derived.Laws.Cover4
import Derived.Lib.DecodeN
import Derived.MapKept
import Derived.Laws.StructEq
import Derived.Orders
import Derived.Scope
import Derived.Recover
import Derived.KernelRfl
import Derived.Shelf.Strings.Builder1
import Derived.Shelf.Strings.Builder2
import Derived.Shelf.Strings.OnBuilder
import Derived.Shelf.Small.Utf8
import Derived.Shelf.Unicode.ValidAny
import Derived.Shelf.Strconv.Itoa0
import Derived.Shelf.Strconv.Itoa1
import Derived.Shelf.LaysM
import Derived.Shelf.Strconv.Itoa2
import Derived.Shelf.Strconv.Itoa3
import Derived.Shelf.Strconv.Itoa4
import Derived.Shelf.Strings.Prefix
import Derived.Shelf.Unicode.Latin
import Derived.Shelf.Unicode.Decode
import Derived.Shelf.Unicode.DecodeAny
import Derived.Shelf.Unicode.CaseLookup
import Derived.Shelf.Unicode.CaseConvert
import Derived.Shelf.Unicode.CaseTo
import Derived.Shelf.Unicode.CaseLaid
import Derived.Lib.Builder
import Derived.Lib.UnsafeStr
import Derived.Lib.AppendIntMem
import Derived.Lib.ItoaLen
import Derived.Lib.MapLaws
import Derived.Lib.Join
namespace Go.Proofs.YtfldjfpcefcjdaaDoor
open Go Go.Ab
set_option maxRecDepth 100000
def conDk:Con := fun k ds _S => match k with
  | 40 => match ds with
    | [.int .i64 n,.int .i64 10] => some (pC [.int .i64 n,.int .i64 10] (.str (Lib.decDigits n.toNat)) (0 ≤ n∧n ≤ 9223372036854775807))
    | [.int .i64 n,.int .i64 16] => some (pC [.int .i64 n,.int .i64 16] (.str (hexN n.toNat)) (0 ≤ n∧n < 128))
    | _ => none
  | _ => none
theorem conDk_ok:ConOk Tryd.prog conDk := by
  intro k ds S A h
  unfold conDk at h
  split at h
  · split at h
    · rename_i m
      injection h with h; subst h
      refine pC_ok fun ⟨h1,h2⟩ => ⟨weakL_refl _,?_⟩
      have := di_all _ m.toNat (by omega) (Nat.lt_succ_self _)
      rw [show ((m.toNat:Nat):Int) = m by omega] at this
      exact this
    · rename_i m
      injection h with h; subst h
      refine pC_ok fun ⟨h1,h2⟩ => ⟨weakL_refl _,?_⟩
      have := dj_ok m.toNat (by omega)
      rw [show ((m.toNat:Nat):Int) = m by omega] at this
      exact this
    · cases h
  · cases h
theorem utf8_byte {b:UInt8} (hb:b.toNat < 128):utf8 (b.toNat:Int) = [b] := by
  rw [utf8_enc (Or.inl (by omega))]
  unfold enc4
  rw [if_pos hb]
  simp
noncomputable def Ewt:Senv := EC conDk 34 2 [4,5,6,8,10,12,18,26] (fun _ => ([],[]))
noncomputable section
def tq6q0 (p0:Int) (p1:UInt8):List UInt8 := escB p0 (NI (UInt8.toNat p1))
def tq6q1 (p0:Int):Bool := bif decide (p0 < (32:Int)) then true else p0 == (127:Int)
def tq6q2 (p0:Int):List UInt8 := List.append [] (hexN (Int.toNat p0))
end
theorem written_ok (c:Int) (b:UInt8) (h0:0 ≤ c) (hc:c ≤ 1114111) (hb:b.toNat < 128):ACalls Tryd.prog 60 [.int .i64 c,.str [b]] ⟨[],[]⟩ (SpecR (sC [.int .i64 c,.str [b]] (.str (escB c (b.toNat:Int)))) ()) := by
  refine con_of (A := sC _ _) (x := ()) (E := Ewt) (eOk conDk_ok rfl) Tryd.func60 rfl (by kernel_rfl) rfl (by simp [sC,Ewt,EC,E0]) ?_
  refine vc_eq (T :=
    ifB (c == (10:Int)) (True∧∃ (y:Unit),True∧[(92:UInt8),(110:UInt8)] = tq6q0 c b∧True∧True) (ifB (c == (9:Int)) (True∧∃ (y:Unit),True∧[(92:UInt8),(116:UInt8)] = tq6q0 c b∧True∧True) (ifB (c == (13:Int)) (True∧∃ (y:Unit),True∧[(92:UInt8),(114:UInt8)] = tq6q0 c b∧True∧True) (ifB (c == (92:Int)) (True∧∃ (y:Unit),True∧[(92:UInt8),(92:UInt8)] = tq6q0 c b∧True∧True) (ifB (c == IntKind.wrap IntKind.i64 (BI [b] N0)) (True∧∃ (y:Unit),True∧[(92:UInt8),b] = tq6q0 c b∧True∧True) (ifB (decide (c < (32:Int))) (true = tq6q1 c∧True) ((c == (127:Int)) = tq6q1 c∧True)∧ifB (tq6q1 c) ((Z0 ≤ c∧c < (128:Int))∧∀ (y:Unit),True→side ((3:Nat) + LN (hexN (Int.toNat c)) ≤ (9223372036854775807:Nat)) (side (LN ((92:UInt8) :: (117:UInt8) :: (123:UInt8) :: tq6q2 c) + N1 ≤ (9223372036854775807:Nat)) (True∧∃ (y:Unit),True∧(92:UInt8) :: (117:UInt8) :: (123:UInt8) :: List.append (tq6q2 c) [(125:UInt8)] = tq6q0 c b∧True∧True))) (True∧∃ (y:Unit),True∧Array.toList (ByteArray.data (Utf8.encode (IntKind.wrap IntKind.i32 c))) = tq6q0 c b∧True∧True))))))) (by kernel_rfl) ?_
  delta BI LN N0 N1 NI U0 Z0 tq6q0 tq6q1 tq6q2
  have a1:∀ l:List UInt8,[].append l = l := fun _ => rfl
  have a2:∀ l r:List UInt8,l.append r = l ++ r := fun _ _ => rfl
  simp only [List.getD_cons_zero,a1,a2,ne_eq,ifB_iff,side_iff,decide_eq_true_eq,decide_eq_false_iff_not,true_and,and_true,beq_iff_eq,Bool.cond_true_left,Bool.or_eq_true,Bool.or_eq_false_iff,beq_eq_false_iff_ne,exists_const,forall_const]
  have hlt := b.toNat_lt
  have hw:IntKind.i64.wrap (b.toNat:Int) = (b.toNat:Int) := wrap_i64' (by omega) (by omega)
  have hi:IntKind.i32.wrap c = c := Go.Ab.wrap_small (k := .i32) rfl (by simp only [IntKind.bits]; omega) (by simp only [IntKind.bits]; omega)
  have orT:∀ {P Q:Bool},P = true→true = (P || Q) := fun h => by rw [h]; rfl
  have orF:∀ {P Q:Bool},P = false→Q = (P || Q) := fun h => by rw [h]; rfl
  have l2 := hexN_len c.toNat
  rw [hw,hi]
  refine ⟨fun h => ?_,fun h1 => ⟨fun h => ?_,fun h2 => ⟨fun h => ?_,fun h3 => ⟨fun h => ?_,fun h4 => ⟨fun h => ?_,fun h5 => ⟨⟨fun h => orT (by simpa using h),fun h => orF (by simpa using h)⟩,fun h => ⟨by omega,by omega,by simp only [List.length_cons]; omega,?_⟩,fun h => ?_⟩⟩⟩⟩⟩⟩
  · unfold escB; rw [if_pos h]
  · unfold escB; rw [if_neg h1,if_pos h]
  · unfold escB; rw [if_neg h1,if_neg h2,if_pos h]
  · unfold escB; rw [if_neg h1,if_neg h2,if_neg h3,if_pos (.inl h),h]; decide +kernel
  · unfold escB; rw [if_neg h1,if_neg h2,if_neg h3,if_pos (.inr h),h,utf8_byte hb]
  · unfold escB; rw [if_neg h1,if_neg h2,if_neg h3,if_neg (by omega),if_pos h]; rfl
  · unfold escB; rw [if_neg h1,if_neg h2,if_neg h3,if_neg (by omega),if_neg (by omega)]; rfl
def conQd:Con := fun k ds S => match k with
  | 60 => match ds with
    | [.int .i64 c,.str [b]] => some (pC [.int .i64 c,.str [b]] (.str (escB c (b.toNat:Int))) (0 ≤ c∧c ≤ 1114111∧b.toNat < 128))
    | _ => none
  | k => conDk k ds S
theorem conQd_ok:ConOk Tryd.prog conQd := by
  intro k ds S A h
  unfold conQd at h
  split at h
  · split at h
    · injection h with h; subst h
      exact pC_ok fun ⟨h1,h2,h3⟩ => ⟨weakL_refl _,written_ok _ _ h1 h2 h3⟩
    · cases h
  · exact conDk_ok _ _ _ _ h
noncomputable def Eqd (l:List Nat) (b:UInt8):Senv := { EC conQd 26 2 [4,5,6,11] (fun _ => ([],[])) with
  ann := fun k _ S => match k with
    | 0 => some { slots := [6,5],keep := [0,1],α := Nat × List UInt8,st := fun y => ([.int .i64 y.1,.str y.2],S),inv := fun y => y.1 ≤ l.length∧y.2 = b :: escN (b.toNat:Int) (l.take y.1),mu := fun y => l.length - y.1 }
    | _ => none }
noncomputable section
def tq6q3 (p0:Nat) (p1:List Nat) (p2:List UInt8) (p3:UInt8):Prop := p0 ≤ LN p1∧p2 = p3 :: escN (NI (UInt8.toNat p3)) (List.take p0 p1)
def tq6q4 (p0:List Nat) (p1:Nat):Int := IntKind.wrap IntKind.i64 (NI (List.getD p0 (Int.toNat (↑p1:Int)) N0))
def tq6q5 (p0:List Nat) (p1:Nat) (p2:UInt8):List UInt8 := escB (tq6q4 p0 p1) (NI (UInt8.toNat p2))
def tq6q6 (p0:List Nat):D := D.sl N1 (LN p0) (fun (i:Nat) => [D.int IntKind.i32 (NI (List.getD p0 i N0))]) Mode.any
end
theorem rquoted_ok (l:List Nat) (b:UInt8) (hl:l.length ≤ 1099511627776) (hc:∀ c ∈ l,runeP c) (hb:b.toNat < 128):ACalls Tryd.prog 42 [rsl l .any,.str [b]] ⟨[],[]⟩ (SpecR (sC [rsl l .any,.str [b]] (.str (quoN (b.toNat:Int) l))) ()) := by
  refine con_of (A := sC _ _) (x := ()) (E := Eqd l b) (eOk conQd_ok rfl) Tryd.func42 rfl (by kernel_rfl) rfl (by simp [sC,Eqd,EC,E0]) ?_
  refine vc_eq (T :=
    (∃ (x:Nat × List UInt8),tq6q3 x.1 l x.2 b∧(Z0 = (NI x.1)∧[b] = x.2∧True)∧True∧True)∧∀ (x:Nat × List UInt8),tq6q3 x.1 l x.2 b→ifB (decide ((NI x.1) < (LI l))) (side (Z0 ≤ (NI x.1)∧(NI x.1) < (LI l)) ((Z0 ≤ tq6q4 l x.1∧tq6q4 l x.1 ≤ (1114111:Int)∧UInt8.toNat b < (128:Nat))∧∀ (y:Unit),True→side (LN x.2 + LN (tq6q5 l x.1 b) ≤ (9223372036854775807:Nat)) ((SM (tq6q6 l)∧SM (D.str [b])∧True)∧∃ (y:Nat × List UInt8),tq6q3 y.1 l y.2 b∧LN l - y.1 < LN l - x.1∧(IntKind.wrap IntKind.i64 ((NI x.1) + Z1) = (NI y.1)∧x.2 ++ tq6q5 l x.1 b = y.2∧True)∧True∧True))) (side (LN x.2 + N1 ≤ (9223372036854775807:Nat)) (True∧∃ (y:Unit),True∧x.2 ++ [b] = quoN (NI (UInt8.toNat b)) l∧True∧True))) (by kernel_rfl) ?_
  delta LI LN N0 N1 NI SM Z0 Z1 tq6q3 tq6q4 tq6q5 tq6q6
  simp only [eq_self,Int.toNat_natCast,ifB_iff,side_iff,decide_eq_true_eq,decide_eq_false_iff_not,true_and,and_true,exists_const,forall_const]
  refine ⟨⟨(0,[b]),⟨Nat.zero_le _,by simp [escN]⟩,rfl,rfl⟩,?_⟩
  rintro ⟨i,out⟩ ⟨i1,i2⟩
  simp only at i1 i2 ⊢
  have hlen:out.length ≤ 1 + 6 * l.length := by
    have := escN_len (b.toNat:Int) (l.take i)
    rw [List.length_take] at this
    rw [i2,List.length_cons]; omega
  refine ⟨fun hlt => ?_,fun hge => ⟨by omega,?_⟩⟩
  · have hi:i < l.length := by omega
    have hm:l.getD i 0 ∈ l := by
      rw [List.getD_eq_getElem?_getD,List.getElem?_eq_getElem hi]
      exact List.getElem_mem hi
    have hr := hc _ hm
    have hr1:l.getD i 0 ≤ 1114111 := by unfold runeP at hr; omega
    have hw:IntKind.i64.wrap ((l.getD i 0:Nat):Int) = ((l.getD i 0:Nat):Int) := wrap_i64' (by omega) (by omega)
    rw [hw]
    have he := escB_len ((l.getD i 0:Nat):Int) (b.toNat:Int)
    refine ⟨by omega,⟨by omega,by omega,hb⟩,by omega,(i + 1,out ++ escB ((l.getD i 0:Nat):Int) (b.toNat:Int)),⟨by simp only; omega,?_⟩,by simp only; omega,wrap_i64' (by omega) (by omega),rfl⟩
    simp only
    rw [escN_step hi,i2]; rfl
  · rw [i2,List.take_of_length_le (by omega)]
    unfold quoN
    rw [utf8_byte hb]; rfl
end Go.Proofs.YtfldjfpcefcjdaaDoor
namespace Go.Proofs.YtfldjfpcefcjdaaDoor
open Go Go.Ab
set_option maxRecDepth 100000
def conOt:Con := fun k ds S => match k with
  | 42 => match ds with
    | [.sl 1 n f m,.str [b]] => some (pC [.sl 1 n f m,.str [b]] (.str (quoN (b.toNat:Int) (rnsOf n f))) (rnsB n f = true∧runesOk (rnsOf n f) = true∧b.toNat < 128∧n ≤ 1099511627776))
    | _ => none
  | k => conDk k ds S
theorem conOt_ok:ConOk Tryd.prog conOt := by
  intro k ds S A h
  unfold conOt at h
  split at h
  · split at h
    · injection h with h; subst h
      exact pC_ok fun ⟨h1,h2,h3,h4⟩ => ⟨weakL_refl _,sC_weak (us := [rsl (rnsOf _ _) .any,_]) ⟨rsl_weak h1,weakD_refl _,trivial⟩ (rquoted_ok _ _ (by simpa [rnsOf] using h4) (runesOk_mem h2) h3)⟩
    · cases h
  · exact conDk_ok _ _ _ _ h
noncomputable def Eot:Senv := EC conOt 56 3 [4,5,14,22,26,30,36,44,49,54] (fun _ => ([],[]))
noncomputable section
def tq7q0 (p0:Int):Bool := bif decide ((-4611686018427387903:Int) ≤ p0) then decide (p0 ≤ (4611686018427387903:Int)) else false
def tq7q1 (p0:Int):Prop := ifB (decide ((-4611686018427387903:Int) ≤ p0)) (decide (p0 ≤ (4611686018427387903:Int)) = tq7q0 p0∧True) (false = tq7q0 p0∧True)
def tq7q2 (p0 p1 p2 p3:Int) (p4:List UInt8):List UInt8 := showTok (Tok.mk p0 p1 p2 p3 p4)
def tq7q3 (p0 p1 p2 p3:Int) (p4:List UInt8):Prop := True∧∃ (_y:Unit),True∧eqOf (List UInt8) [] (tq7q2 p0 p1 p2 p3 p4)∧True∧True
def tq7q4 (p0:Nat) (p1 p2 p3 p4:Int) (p5:List UInt8):Prop := SM p0∧tq7q1 p1∧True∧ifB (tq7q0 p1) (SM p0∧(Z0 ≤ p1∧p1 ≤ (9223372036854775807:Int))∧∀ (_y:Unit),True→True∧∃ (_y:Unit),True∧Lib.decDigits (Int.toNat p1) = tq7q2 p2 p3 p4 p1 p5∧True∧True) (tq7q3 p2 p3 p4 p1 p5)
def tq7q5 (p0:Int):Bool := bif bif decide (Z0 ≤ p0) then decide (p0 ≤ (1114111:Int)) else false then bif decide (p0 < (55296:Int)) then true else decide ((57343:Int) < p0) else false
def tq7q6 (p0:Int):Prop := false = tq7q5 p0∧True
def tq7q7 (p0:Int):List Nat := rnsOf N1 fun (i:Nat) => List.getD [[D.int IntKind.i32 (IntKind.wrap IntKind.i32 p0)]] i []
def tq7q8 (p0:List UInt8) (p1:Nat):List D := [D.int IntKind.i32 (NI (List.getD (runesU p0) p1 N0))]
def tq7q9 (p0:List UInt8):List Nat := rnsOf (LN (runesU p0)) fun (i:Nat) => tq7q8 p0 i
def tq7q10 (p0:Nat) (p1:List UInt8) (p2 p3 p4 p5:Int):Prop := SM p0∧True∧∃ (_y:Unit),True∧p1 = tq7q2 p2 p3 p4 p5 p1∧True∧True
def tq7q11 (p0 p1 p2 p3:Int) (p4:List UInt8):Prop := ifB (p0 == (6:Int)) (True∧∃ (_y:Unit),True∧[(59:UInt8)] = tq7q2 p0 p1 p2 p3 p4∧True∧True) (tq7q3 p0 p1 p2 p3 p4)
end
theorem one_ref (t:Tok) (hn:inI64 t.num) (hl:t.text.length ≤ 1099511627776):ACalls Tryd.prog 22 [.agg t.row] ⟨[],[]⟩ (SpecR (sC [.agg t.row] (.str (showTok t))) ()) := by
  obtain ⟨kd,at_,len,num,text⟩ := t
  refine con_of (A := sC _ _) (x := ()) (E := Eot) (eOk conOt_ok rfl) Tryd.func22 rfl (by kernel_rfl) rfl (by simp [sC,Eot,EC,E0]) ?_
  refine vc_eq (T :=
    ∀ (x:Nat),True→SM x∧ifB (kd == Z1) (SM x∧tq7q1 num∧True∧ifB (tq7q0 num) (SM x∧ifB (decide (num < Z0)) (SM x∧(Z0 ≤ IntKind.wrap IntKind.i64 (Z0 - num)∧IntKind.wrap IntKind.i64 (Z0 - num) ≤ (9223372036854775807:Int))∧∀ (y:Unit),True→side (N1 + LN (Lib.decDigits (Int.toNat (IntKind.wrap IntKind.i64 (Z0 - num)))) ≤ (9223372036854775807:Nat)) (True∧∃ (y:Unit),True∧(95:UInt8) :: List.append [] (Lib.decDigits (Int.toNat (IntKind.wrap IntKind.i64 (Z0 - num)))) = tq7q2 kd at_ len num text∧True∧True)) (tq7q4 x num kd at_ len text)) (tq7q4 x num kd at_ len text)) (ifB (kd == (2:Int)) (SM x∧ifB (decide (Z0 ≤ num)) (ifB (decide (num ≤ (1114111:Int))) (ifB (decide (num < (55296:Int))) (true = tq7q5 num∧True) (decide ((57343:Int) < num) = tq7q5 num∧True)) (tq7q6 num)) (tq7q6 num)∧True∧ifB (tq7q5 num) (SM x∧((rnsB N1 fun (i:Nat) => List.getD [[D.int IntKind.i32 (IntKind.wrap IntKind.i32 num)]] i []) = true∧runesOk (tq7q7 num) = true∧(39:Nat) < (128:Nat)∧N1 ≤ (1099511627776:Nat))∧∀ (y:Unit),True→True∧∃ (y:Unit),True∧quoN (39:Int) (tq7q7 num) = tq7q2 kd at_ len num text∧True∧True) (tq7q3 kd at_ len num text)) (ifB (kd == (3:Int)) (SM x∧side (LN (runesU text) ≤ (70368744177664:Nat)) (∀ (t:Nat),chk (true && rowsR (LN (runesU text)) fun (i:Nat) => tq7q8 text i) (SM x∧ifB (encU (intsU (LN (runesU text)) fun (i:Nat) => tq7q8 text i) == text) (SM x∧side (LN (runesU text) ≤ (70368744177664:Nat)) (∀ (t:Nat),((rnsB (LN (runesU text)) fun (i:Nat) => tq7q8 text i) = true∧runesOk (tq7q9 text) = true∧(34:Nat) < (128:Nat)∧LN (runesU text) ≤ (1099511627776:Nat))∧∀ (y:Unit),True→True∧∃ (y:Unit),True∧quoN (34:Int) (tq7q9 text) = tq7q2 kd at_ len num text∧True∧True)) (tq7q3 kd at_ len num text)))) (ifB (kd == (4:Int)) (ifB (kd == (4:Int)) (tq7q10 x text kd at_ len num) (tq7q11 kd at_ len num text)) (ifB (kd == (5:Int)) (tq7q10 x text kd at_ len num) (tq7q11 kd at_ len num text)))))) (by kernel_rfl) ?_
  delta LN N0 N1 NI SM Z0 Z1 tq7q0 tq7q1 tq7q10 tq7q11 tq7q2 tq7q3 tq7q4 tq7q5 tq7q6 tq7q7 tq7q8 tq7q9
  simp only [eq_self,ne_eq,ifB_iff,side_iff,decide_eq_true_eq,decide_eq_false_iff_not,true_and,and_true,beq_iff_eq,Bool.cond_false_right,Bool.cond_true_left,Bool.and_eq_true,Bool.and_eq_false_iff,Bool.or_eq_true,Bool.or_eq_false_iff,beq_eq_false_iff_ne,exists_const,forall_const]
  have hn:inI64 num := hn
  have hl:text.length ≤ 1099511627776 := hl
  unfold inI64 at hn
  have hru:runesU text = runesL text := runesN_eq _ _
  have hrl:(runesL text).length ≤ text.length := runesF_len _ _
  have e3:rnsOf (runesL text).length (fun i => [D.int .i32 (((runesL text).getD i 0:Nat):Int)]) = runesL text := rnsOf_eq rfl fun _ _ => rfl
  have b3:rnsB (runesL text).length (fun i => [D.int .i32 (((runesL text).getD i 0:Nat):Int)]) = true := rnsB_eq (l := runesL text) rfl fun _ _ => rfl
  have r3:rowsR (runesL text).length (fun i => [D.int .i32 (((runesL text).getD i 0:Nat):Int)]) = true := by
    simp only [rowsR,List.all_eq_true,List.mem_range]
    intro i _; rfl
  have u3:encU (intsU (runesL text).length (fun i => [D.int .i32 (((runesL text).getD i 0:Nat):Int)])) = flatU (runesL text) := by
    have e:intsU (runesL text).length (fun i => [D.int .i32 (((runesL text).getD i 0:Nat):Int)]) = (runesL text).map Int.ofNat := by
      unfold intsU
      apply List.ext_getElem
      · simp
      · intro i h1 h2
        have h3:i < (runesL text).length := by simpa using h1
        simp [rowInt,List.getD_eq_getElem?_getD,List.getElem?_eq_getElem h3]
    rw [e]
    unfold encU flatU
    rw [List.flatMap_map]
    exact congrArg (fun f => List.flatMap f (runesL text)) (funext fun c => by
      unfold utf8
      rw [Int.ofNat_eq_natCast])
  have hiff:flatU (runesL text) = text↔validL text = true := by
    rw [← runes_iff,beq_iff_eq]
  have ck:∀ {b:Bool} {P:Prop},b = true→P→chk b P := fun h p => chk_iff.2 ⟨h,p⟩
  have em:∀ {l:List UInt8},l = []→eqOf (List UInt8) [] l := fun h => h.symm
  have a1:∀ l:List UInt8,[].append l = l := fun _ => rfl
  have sh:showTok { kind := kd,at_ := at_,len := len,num := num,text := text } = (if kd = 1 then (if num.natAbs ≤ maxNum then showI num else [])
    else if kd = 2 then (if 0 ≤ num∧Utf8.valid num = true then quoB 39 [num] else [])
    else if kd = 3 then (if validL text = true then quoB 34 ((runesL text).map Int.ofNat) else [])
    else if kd = 4∨kd = 5 then text else if kd = 6 then [59] else []) := rfl
  rw [sh,hru,e3,b3,r3,u3,hiff]
  simp only [a1]
  have mx:maxNum = 4611686018427387903 := rfl
  have rng:∀ {A B:Prop} [Decidable A] [Decidable B],(A→decide B = (decide A && decide B))∧(¬ A→false = (decide A && decide B)) := ⟨fun h => dec_and1 h,fun h => dec_and0 h⟩
  have hval:0 ≤ num→(Utf8.valid num = true↔num ≤ 1114111∧(num < 55296∨57343 < num)) := fun h0 => by
    obtain ⟨c,rfl⟩:∃ c:Nat,num = c := ⟨num.toNat,by omega⟩
    rw [runeP_valid]
    unfold runeP
    omega
  have dlen:∀ u,u < 18446744073709551616→(Lib.decDigits u).length ≤ 20 := fun u hu => by
    rw [Lib.decDigits_length]; exact Lib.nDigits_le20 u hu
  refine ⟨fun h => ⟨rng,fun h2 => ⟨fun h3 => ?_,fun h3 => ⟨rng,fun h4 => ⟨by omega,?_⟩,fun h4 => by omega⟩⟩,fun h2 => ⟨rng,fun h4 => by omega,fun h4 => em ?_⟩⟩,fun n1 => ⟨fun h => ⟨?_,fun h2 => ?_,fun h2 => em ?_⟩,fun n2 => ⟨fun h => ⟨by omega,ck rfl ⟨fun hv => ⟨by omega,⟨by first | rfl | trivial,runesF_ok _ _ hv,by omega,by omega⟩,?_⟩,fun hv => em ?_⟩⟩,fun n3 => ⟨fun h => ⟨fun _ => ?_,fun h2 => (h2 h).elim⟩,fun n4 => ⟨fun h => ?_,fun n5 => ⟨fun h => ?_,fun n6 => em ?_⟩⟩⟩⟩⟩⟩
  · have e1:IntKind.i64.wrap (0 - num) = ((num.natAbs:Nat):Int) := by rw [wrap_i64' (by omega) (by omega)]; omega
    rw [e1,Int.toNat_natCast,if_pos h,if_pos (by omega)]
    have := dlen num.natAbs (by omega)
    refine ⟨by omega,by omega,?_⟩
    unfold showI
    rw [if_pos h3]
  · rw [if_pos h,if_pos (by omega)]
    unfold showI
    rw [if_neg h3]
  · rw [if_pos h,if_neg (by omega)]
  · refine ⟨fun h0 => ⟨fun h1 => ⟨fun h2 => ?_,fun h2 => ?_⟩,fun h1 => ?_⟩,fun h0 => ?_⟩
    · rw [decide_eq_true h0,decide_eq_true h1,decide_eq_true h2]; rfl
    · rw [decide_eq_true h0,decide_eq_true h1,decide_eq_false h2]; rfl
    · rw [decide_eq_true h0,decide_eq_false h1]; rfl
    · rw [decide_eq_false h0]; rfl
  · have hw:IntKind.i32.wrap num = num := Go.Ab.wrap_small (k := .i32) rfl (by simp only [IntKind.bits]; omega) (by simp only [IntKind.bits]; omega)
    have hv := (hval (by omega)).2 ⟨h2.1.2,h2.2⟩
    rw [hw,if_neg n1,if_pos h,if_pos ⟨h2.1.1,hv⟩]
    obtain ⟨c,rfl⟩:∃ c:Nat,num = c := ⟨num.toNat,by omega⟩
    have e1:rnsOf 1 (fun i => [[D.int .i32 (c:Int)]].getD i []) = [c] := rnsOf_eq (l := [c]) rfl fun i hi => by
      obtain rfl:i = 0 := by omega
      rfl
    have b1:rnsB 1 (fun i => [[D.int .i32 (c:Int)]].getD i []) = true := rnsB_eq (l := [c]) rfl fun i hi => by
      obtain rfl:i = 0 := by omega
      rfl
    rw [e1,b1]
    refine ⟨⟨rfl,?_,by omega,by omega⟩,?_⟩
    · unfold runesOk; rw [List.all_cons,hv]; rfl
    · rw [quoN_eq]; rfl
  · rw [if_neg n1,if_pos h,if_neg (fun hc => ?_)]
    have := (hval hc.1).1 hc.2
    omega
  · rw [if_neg n1,if_neg n2,if_pos h,if_pos hv,quoN_eq]
  · rw [if_neg n1,if_neg n2,if_pos h,if_neg hv]
  · rw [if_neg n1,if_neg n2,if_neg n3,if_pos (.inl h)]
  · rw [if_neg n1,if_neg n2,if_neg n3,if_pos (.inr h)]
  · rw [if_neg n1,if_neg n2,if_neg n3,if_neg (by omega),if_pos h]
  · rw [if_neg n1,if_neg n2,if_neg n3,if_neg (by omega),if_neg n6]
end Go.Proofs.YtfldjfpcefcjdaaDoor
namespace Go.Proofs.YtfldjfpcefcjdaaDoor
open Go Go.Ab
set_option maxRecDepth 100000
def jT (sep:List UInt8) (l:List (List UInt8)):List UInt8 := l.flatMap fun x => sep ++ x
theorem join_cons (x:List UInt8) (l:List (List UInt8)) (sep:List UInt8):Lib.join (x :: l) sep = x ++ jT sep l := by
  unfold Lib.join
  induction l generalizing x with
  | nil => simp [jT,List.intercalate]
  | cons y l ih =>
    have := ih y
    simp only [List.intercalate,List.intersperse_cons_cons,List.flatten_cons] at this ⊢
    rw [this]
    simp [jT]
theorem join_nil (sep:List UInt8):Lib.join [] sep = [] := by simp [Lib.join,List.intercalate]
def jR (sep:List UInt8) (i:Nat) (l:List (List UInt8)):List UInt8 := if i = 0 then Lib.join l sep else jT sep l
structure JHd (sep:List UInt8) (l:List (List UInt8)) (i:Nat) (out:List UInt8):Prop where
  hi:i ≤ l.length
  ho:out ++ jR sep i (l.drop i) = Lib.join l sep
theorem JHd.init (sep:List UInt8) (l:List (List UInt8)):JHd sep l 0 [] := ⟨Nat.zero_le _,by simp [jR]⟩
theorem drop_stepS {l:List (List UInt8)} {i:Nat} (h:i < l.length):l.drop i = l.getD i [] :: l.drop (i + 1) := by
  rw [List.drop_eq_getElem_cons h,List.getD_eq_getElem?_getD,List.getElem?_eq_getElem h]; rfl
theorem JHd.step0 {sep:List UInt8} {l:List (List UInt8)} {out:List UInt8} (h:JHd sep l 0 out) (hlt:0 < l.length):JHd sep l (0 + 1) (out ++ l.getD 0 []) := by
  refine ⟨by omega,?_⟩
  have := h.ho
  rw [drop_stepS hlt,jR,if_pos rfl,join_cons] at this
  rw [← this,jR,if_neg (by omega),List.append_assoc]
theorem JHd.step {sep:List UInt8} {l:List (List UInt8)} {i:Nat} {out:List UInt8} (h:JHd sep l i out) (h0:i ≠ 0) (hlt:i < l.length):JHd sep l (i + 1) (out ++ sep ++ l.getD i []) := by
  refine ⟨by omega,?_⟩
  have := h.ho
  rw [drop_stepS hlt,jR,if_neg h0] at this
  rw [← this,jR,if_neg (by omega)]
  simp [jT]
theorem JHd.len {sep:List UInt8} {l:List (List UInt8)} {i:Nat} {out:List UInt8} (h:JHd sep l i out):out.length ≤ (Lib.join l sep).length := by
  have := congrArg List.length h.ho
  simp only [List.length_append] at this; omega
theorem JHd.done {sep:List UInt8} {l:List (List UInt8)} {i:Nat} {out:List UInt8} (h:JHd sep l i out) (hge:¬ i < l.length):out = Lib.join l sep := by
  have := h.ho
  rw [List.drop_of_length_le (by omega)] at this
  have e:jR sep i [] = [] := by unfold jR; split <;> simp [jT,join_nil]
  rw [e,List.append_nil] at this
  exact this
end Go.Proofs.YtfldjfpcefcjdaaDoor
namespace Go.Proofs.YtfldjfpcefcjdaaDoor
open Go Go.Ab
set_option maxRecDepth 100000
def conRt (base:Con):Con := fun k ds S => match k with
  | 22 => match ds with
    | [.agg [.int .i64 kd,.int .i64 a,.int .i64 ln,.int .i64 nm,.str t]] => some (pC [.agg [.int .i64 kd,.int .i64 a,.int .i64 ln,.int .i64 nm,.str t]] (.str (showTok ⟨kd,a,ln,nm,t⟩)) (inI64 nm∧t.length ≤ 1099511627776))
    | _ => none
  | k => base k ds S
theorem conRt_ok {base:Con} (hb:ConOk Tryd.prog base):ConOk Tryd.prog (conRt base) := by
  intro k ds S A h
  unfold conRt at h
  split at h
  · split at h
    · injection h with h; subst h
      exact pC_ok fun ⟨h1,h2⟩ => ⟨weakL_refl _,one_ref ⟨_,_,_,_,_⟩ h1 h2⟩
    · cases h
  · exact hb _ _ _ _ h
noncomputable def Ers (l:List Tok):Senv := { EC (conRt con0) 23 1 [2,3,4,8,12] (fun _ => ([],[])) with
  ann := fun b _ S => match b with
    | 0 => some { slots := [4,3],keep := [0],α := Nat × List UInt8,st := fun y => ([.int .i64 y.1,.str y.2],S),inv := fun y => JHd [32] (l.map showTok) y.1 y.2,mu := fun y => l.length - y.1 }
    | _ => none }
noncomputable section
def tq8q0 (p0:List Tok) (p1:Nat) (p2:List UInt8):Prop := JHd [(32:UInt8)] (List.map showTok p0) p1 p2
def tq8q1:Tok := Tok.mk Z0 Z0 Z0 Z0 []
def tq8q2 (p0:List Tok) (p1:Nat):Tok := List.getD p0 (Int.toNat (↑p1:Int)) tq8q1
def tq8q3 (p0:List Tok) (p1:Nat):Int := Tok.num (tq8q2 p0 p1)
def tq8q4 (p0:List Tok) (p1:Nat):List UInt8 := Tok.text (tq8q2 p0 p1)
def tq8q5 (p0:List Tok) (p1:Nat):Prop := inI64 (tq8q3 p0 p1)∧LN (tq8q4 p0 p1) ≤ (1099511627776:Nat)
def tq8q6 (p0:List Tok) (p1:Nat):List UInt8 := showTok (Tok.mk (Tok.kind (tq8q2 p0 p1)) (Tok.at_ (tq8q2 p0 p1)) (Tok.len (tq8q2 p0 p1)) (tq8q3 p0 p1) (tq8q4 p0 p1))
def tq8q7 (p0:List Tok) (p1:Nat):Nat := LN (tq8q6 p0 p1)
def tq8q8 (p0:List Tok) (p1:Nat):Tok := List.getD p0 p1 tq8q1
def tq8q9 (p0:List Tok):D := D.sl (5:Nat) (LN p0) (fun (i:Nat) => [ZI (Tok.kind (tq8q8 p0 i)),ZI (Tok.at_ (tq8q8 p0 i)),ZI (Tok.len (tq8q8 p0 i)),ZI (Tok.num (tq8q8 p0 i)),D.str (Tok.text (tq8q8 p0 i))]) Mode.any
def tq8q10 (p0:List Tok):Prop := SM (tq8q9 p0)∧True
end
theorem rshow_ok (l:List Tok) (hl:l.length ≤ 4294967296) (ht:∀ t ∈ l,tokOk t) (hj:(Lib.join (l.map showTok) [32]).length ≤ 140737488355328):ACalls Tryd.prog 11 [tsl l .any] ⟨[],[]⟩ (SpecR (sC [tsl l .any] (.str (Lib.join (l.map showTok) [32]))) ()) := by
  refine con_of (A := sC _ _) (x := ()) (E := Ers l) (eOk (conRt_ok con0_ok) rfl) Tryd.func11 rfl (by kernel_rfl) rfl (by simp [sC,Ers,EC,E0]) ?_
  refine vc_eq (T :=
    (∃ (x:Nat × List UInt8),tq8q0 l x.1 x.2∧(Z0 = (NI x.1)∧eqOf (List UInt8) [] x.2∧True)∧True∧True)∧∀ (x:Nat × List UInt8),tq8q0 l x.1 x.2→ifB (decide ((NI x.1) < (LI l))) (ifB (decide (Z0 < (NI x.1))) (side (LN x.2 + N1 ≤ (9223372036854775807:Nat)) (side (Z0 ≤ (NI x.1)∧(NI x.1) < (LI l)) (tq8q5 l x.1∧∀ (y:Unit),True→side (LN (x.2 ++ [(32:UInt8)]) + tq8q7 l x.1 ≤ (9223372036854775807:Nat)) (tq8q10 l∧∃ (y:Nat × List UInt8),tq8q0 l y.1 y.2∧LN l - y.1 < LN l - x.1∧(IntKind.wrap IntKind.i64 ((NI x.1) + Z1) = (NI y.1)∧x.2 ++ [(32:UInt8)] ++ tq8q6 l x.1 = y.2∧True)∧True∧True)))) (side (Z0 ≤ (NI x.1)∧(NI x.1) < (LI l)) (tq8q5 l x.1∧∀ (y:Unit),True→side (LN x.2 + tq8q7 l x.1 ≤ (9223372036854775807:Nat)) (tq8q10 l∧∃ (y:Nat × List UInt8),tq8q0 l y.1 y.2∧LN l - y.1 < LN l - x.1∧(IntKind.wrap IntKind.i64 ((NI x.1) + Z1) = (NI y.1)∧x.2 ++ tq8q6 l x.1 = y.2∧True)∧True∧True)))) (True∧∃ (y:Unit),True∧x.2 = Lib.join (List.map showTok l) [(32:UInt8)]∧True∧True)) (by kernel_rfl) ?_
  delta LI LN N1 NI SM Z0 Z1 ZI tq8q0 tq8q1 tq8q10 tq8q2 tq8q3 tq8q4 tq8q5 tq8q6 tq8q7 tq8q8 tq8q9
  simp only [eq_self,Int.toNat_natCast,ifB_iff,side_iff,decide_eq_true_eq,decide_eq_false_iff_not,true_and,and_true,exists_const,forall_const]
  have dt:(default:Tok) = { kind := 0,at_ := 0,len := 0,num := 0,text := [] } := rfl
  simp only [← dt]
  have ex:∀ t:Tok,(showTok (Tok.mk t.kind t.at_ t.len t.num t.text)).length = (showTok t).length := fun _ => rfl
  refine ⟨⟨(0,[]),JHd.init _ _,rfl,rfl⟩,?_⟩
  rintro ⟨i,out⟩ hh
  simp only at hh ⊢
  have hil:i ≤ l.length := by have := hh.hi; rw [List.length_map] at this; exact this
  refine ⟨fun hlt => ?_,fun hge => hh.done (by rw [List.length_map]; omega)⟩
  have hi:i < l.length := by omega
  have hm:l.getD i default ∈ l := by
    rw [List.getD_eq_getElem?_getD,List.getElem?_eq_getElem hi]; exact List.getElem_mem hi
  have hg:(l.map showTok).getD i [] = showTok (l.getD i default) := by
    rw [List.getD_eq_getElem?_getD,List.getElem?_map,List.getElem?_eq_getElem hi,List.getD_eq_getElem?_getD,List.getElem?_eq_getElem hi]; rfl
  have hil':i < (l.map showTok).length := by rw [List.length_map]; exact hi
  have exi := ex (l.getD i default)
  refine ⟨fun h0 => ?_,fun h0 => ?_⟩
  · have hs := hh.step (by omega) hil'
    rw [hg] at hs
    have hn := hs.len
    simp only [List.length_append,List.length_cons,List.length_nil] at hn
    exact ⟨by omega,by omega,ht _ hm,by simp only [List.length_append,List.length_cons,List.length_nil]; omega,(i + 1,out ++ [32] ++ showTok (l.getD i default)),hs,by simp only; omega,wrap_i64' (by omega) (by omega),rfl⟩
  · obtain rfl:i = 0 := by omega
    have hs := hh.step0 hil'
    rw [hg] at hs
    have hn := hs.len
    simp only [List.length_append] at hn
    exact ⟨by omega,ht _ hm,by omega,(0 + 1,out ++ showTok (l.getD 0 default)),hs,by simp only; omega,wrap_i64' (by omega) (by omega),rfl⟩
end Go.Proofs.YtfldjfpcefcjdaaDoor
namespace Go.Proofs.YtfldjfpcefcjdaaDoor
open Go Go.Ab
set_option maxRecDepth 100000
def rowTok:List D→Tok
  | [.int .i64 k,.int .i64 a,.int .i64 n,.int .i64 m,.str t] => ⟨k,a,n,m,t⟩
  | _ => default
def rowTB:List D→Bool
  | [.int .i64 _,.int .i64 _,.int .i64 _,.int .i64 _,.str _] => true
  | _ => false
def toksOf (n:Nat) (f:Nat→List D):List Tok := (List.range n).map fun i => rowTok (f i)
def toksB (n:Nat) (f:Nat→List D):Bool := (List.range n).all fun i => rowTB (f i)
theorem tsl_weak {n:Nat} {f:Nat→List D} {m:Ab.Mode} (h:toksB n f = true):weakD (.sl 5 n f m) (tsl (toksOf n f) .any) := by
  simp only [tsl,weakD,chk_iff]
  refine ⟨by simp,by simp [toksOf],fun i hi => ?_,by cases m <;> simp [weakM]⟩
  have hb:rowTB (f i) = true := List.all_eq_true.1 h i (List.mem_range.2 hi)
  have hg:(toksOf n f).getD i default = rowTok (f i) := by simp [toksOf,List.getD_eq_getElem?_getD,hi]
  rw [hg]
  unfold rowTB at hb
  split at hb
  · rename_i hd; rw [hd]; rfl
  · cases hb
theorem toksB_eq {n:Nat} {l:List Tok} {F:Nat→List D} (hn:n = l.length) (hF:∀ i,i < n→F i = (l.getD i default).row):toksB n F = true := by
  subst hn
  simp only [toksB,List.all_eq_true,List.mem_range]
  intro i hi
  rw [hF i hi]; rfl
theorem eqTok (t u:Tok):(t.kind == u.kind && (t.at_ == u.at_ && (t.len == u.len && (t.num == u.num && (t.text == u.text && true))))) = decide (t = u) := by
  obtain ⟨a1,a2,a3,a4,a5⟩ := t
  obtain ⟨b1,b2,b3,b4,b5⟩ := u
  rw [Bool.eq_iff_iff]
  simp only [Bool.and_eq_true,beq_iff_eq,decide_eq_true_eq,Bool.and_true,Tok.mk.injEq]
theorem take_grow {α:Type} [Inhabited α] {a b:List α} {i:Nat} (ha:i < a.length) (hb:i < b.length) (h:a.take i = b.take i) (he:a.getD i default = b.getD i default):a.take (i + 1) = b.take (i + 1) := by
  rw [take_step ha,take_step hb,h,he]
theorem take_all {α:Type} {a b:List α} {i:Nat} (hl:a.length = b.length) (hi:a.length ≤ i) (h:a.take i = b.take i):a = b := by
  rw [List.take_of_length_le hi,List.take_of_length_le (by omega)] at h
  exact h
noncomputable def Esm (a b:List Tok):Senv := { EC con0 26 2 [4,5,10,14,25] (fun id => match id with | 6 => ([0,1,2,3,4,5,6,7,8],[]) | _ => ([],[])) with
  ann := fun k _ S => match k with
    | 0 => some { slots := [5],keep := [0,1],α := Nat,st := fun y => ([.int .i64 y],S),inv := fun y => y ≤ a.length∧a.take y = b.take y,mu := fun y => a.length - y }
    | _ => none }
noncomputable section
def tr1q0 (p0 p1:List Tok):Prop := True∧∃ (_y:Unit),True∧false = decide (p0 = p1)∧True∧True
def tr1q1:Tok := Tok.mk Z0 Z0 Z0 Z0 []
def tr1q2 (p0:List Tok) (p1:Nat):Tok := List.getD p0 (Int.toNat (↑p1:Int)) tr1q1
def tr1q3 (p0:List Tok) (p1:Nat):Int := Tok.kind (tr1q2 p0 p1)
def tr1q4 (p0:List Tok) (p1:Nat):Int := Tok.at_ (tr1q2 p0 p1)
def tr1q5 (p0:List Tok) (p1:Nat):Int := Tok.len (tr1q2 p0 p1)
def tr1q6 (p0:List Tok) (p1:Nat):Int := Tok.num (tr1q2 p0 p1)
def tr1q7 (p0:List Tok) (p1:Nat):List UInt8 := Tok.text (tr1q2 p0 p1)
def tr1q8 (p0:List Tok) (p1:Nat):Tok := List.getD p0 p1 tr1q1
def tr1q9 (p0:List Tok):D := D.sl (5:Nat) (LN p0) (fun (i:Nat) => [ZI (Tok.kind (tr1q8 p0 i)),ZI (Tok.at_ (tr1q8 p0 i)),ZI (Tok.len (tr1q8 p0 i)),ZI (Tok.num (tr1q8 p0 i)),D.str (Tok.text (tr1q8 p0 i))]) Mode.any
def tr1q10 (p0:List Tok):Prop := SM (tr1q9 p0)
end
theorem same_ok (a b:List Tok) (ha:a.length ≤ 140737488355328) (_hb:b.length ≤ 140737488355328):ACalls Tryd.prog 19 [tsl a .any,tsl b .any] ⟨[],[]⟩ (SpecR (sC [tsl a .any,tsl b .any] (.bool (decide (a = b)))) ()) := by
  refine con_of (A := sC _ _) (x := ()) (E := Esm a b) (eOk con0_ok rfl) Tryd.func19 rfl (by kernel_rfl) rfl (by simp [sC,Esm,EC,E0]) ?_
  refine vc_eq (T :=
    ifB ((LI a) != (LI b)) (tr1q0 a b) ((∃ (x:Nat),(x ≤ LN a∧List.take x a = List.take x b)∧(Z0 = (↑x:Int)∧True)∧True∧True)∧∀ (x:Nat),x ≤ LN a∧List.take x a = List.take x b→ifB (decide ((↑x:Int) < (LI a))) (side (Z0 ≤ (↑x:Int)∧(↑x:Int) < (LI a)) (side (Z0 ≤ (↑x:Int)∧(↑x:Int) < (LI b)) (ifB (! (tr1q3 a x == tr1q3 b x && (tr1q4 a x == tr1q4 b x && (tr1q5 a x == tr1q5 b x && (tr1q6 a x == tr1q6 b x && (tr1q7 a x == tr1q7 b x && true)))))) (tr1q0 a b) ((tr1q10 a∧tr1q10 b∧True)∧∃ (y:Nat),(y ≤ LN a∧List.take y a = List.take y b)∧LN a - y < LN a - x∧(IntKind.wrap IntKind.i64 ((↑x:Int) + Z1) = (↑y:Int)∧True)∧True∧True)))) (True∧∃ (y:Unit),True∧true = decide (a = b)∧True∧True))) (by kernel_rfl) ?_
  delta LI LN SM Z0 Z1 ZI tr1q0 tr1q1 tr1q10 tr1q2 tr1q3 tr1q4 tr1q5 tr1q6 tr1q7 tr1q8 tr1q9
  simp only [eq_self,Int.toNat_natCast,ifB_iff,side_iff,decide_eq_true_eq,decide_eq_false_iff_not,true_and,and_true,exists_const]
  have dt:(default:Tok) = { kind := 0,at_ := 0,len := 0,num := 0,text := [] } := rfl
  simp only [← dt,eqTok]
  refine ⟨fun h => ?_,fun h => ⟨⟨0,⟨Nat.zero_le _,by simp⟩,rfl⟩,fun i ⟨i1,i2⟩ => ⟨fun hlt => ?_,fun hge => ?_⟩⟩⟩
  · have h:¬ a = b := fun e => by rw [e] at h; simp at h
    rw [decide_eq_false h]
  · have hl:a.length = b.length := by
      have:(a.length:Int) = (b.length:Int) := by simpa using h
      omega
    refine ⟨by omega,by omega,fun hd => ?_,fun hd => ?_⟩
    · have hne:¬ a.getD i default = b.getD i default := by simpa using hd
      rw [decide_eq_false (fun e => hne (by rw [e]))]
    · have he:a.getD i default = b.getD i default := by simpa using hd
      exact ⟨i + 1,⟨by omega,take_grow (by omega) (by omega) i2 he⟩,by omega,by rw [wrap_i64' (by omega) (by omega)]; rfl⟩
  · have hl:a.length = b.length := by
      have:(a.length:Int) = (b.length:Int) := by simpa using h
      omega
    rw [decide_eq_true (take_all hl (by omega) i2)]
end Go.Proofs.YtfldjfpcefcjdaaDoor
namespace Go.Proofs.YtfldjfpcefcjdaaDoor
open Go Go.Ab
set_option maxRecDepth 100000
def alikeB:List Tok→List Tok→Bool
  | [],[] => true
  | t :: l,u :: m => (t.kind == u.kind && (t.num == u.num && t.text == u.text)) && alikeB l m
  | _,_ => false
theorem alikeB_len:∀ {a b:List Tok},alikeB a b = true→a.length = b.length
  | [],[],_ => rfl
  | t :: l,u :: m,h => by
    simp only [alikeB,Bool.and_eq_true] at h
    simp [alikeB_len h.2]
  | [],_ :: _,h => by cases h
  | _ :: _,[],h => by cases h
theorem eqAl (t u:Tok):(t.kind == u.kind && (u.at_ == u.at_ && (u.len == u.len && (t.num == u.num && (t.text == u.text && true))))) = (t.kind == u.kind && (t.num == u.num && t.text == u.text)) := by
  simp
theorem app_tok1 {l:List Tok} (t:Tok) {r:List D} (hr:r = t.row):∀ i,i < l.length + 1→appF l.length (fun i => (l.getD i default).row) (fun i => [r].getD i []) i = ((l ++ [t]).getD i default).row := by
  intro i hi
  simp only [appF]
  by_cases h:i < l.length
  · rw [if_pos h]
    simp [List.getD_eq_getElem?_getD,List.getElem?_append_left h]
  · have e:i = l.length := by omega
    subst e hr
    rw [if_neg h,Nat.sub_self]
    simp [List.getD_eq_getElem?_getD]
noncomputable def Eal (a b:List Tok):Senv := { EC con0 40 2 [4,5,6,11,15,39] (fun id => match id with | 9 => ([0,1,2,3,4,5],[]) | _ => ([],[])) with
  ann := fun k _ S => match k with
    | 0 => some { slots := [5],keep := [0,1],α := Nat,st := fun y => ([.int .i64 y],S),inv := fun y => y ≤ a.length∧alikeB (a.drop y) (b.drop y) = alikeB a b,mu := fun y => a.length - y }
    | _ => none }
noncomputable section
def tr2q0 (p0 p1:List Tok):Prop := True∧∃ (_y:Unit),True∧false = alikeB p0 p1∧True∧True
def tr2q1 (p0:Nat) (p1 p2:List Tok):Prop := p0 ≤ LN p1∧alikeB (List.drop p0 p1) (List.drop p0 p2) = alikeB p1 p2
def tr2q2:Tok := Tok.mk Z0 Z0 Z0 Z0 []
def tr2q3 (p0:List Tok) (p1:Nat):Tok := List.getD p0 (Int.toNat (↑p1:Int)) tr2q2
def tr2q4 (p0:List Tok) (p1:Nat):Int := Tok.kind (tr2q3 p0 p1)
def tr2q5 (p0:List Tok) (p1:Nat):Int := Tok.at_ (tr2q3 p0 p1)
def tr2q6 (p0:List Tok) (p1:Nat):Int := Tok.len (tr2q3 p0 p1)
def tr2q7 (p0:List Tok) (p1:Nat):Int := Tok.num (tr2q3 p0 p1)
def tr2q8 (p0:List Tok) (p1:Nat):List UInt8 := Tok.text (tr2q3 p0 p1)
def tr2q9 (p0:List Tok) (p1:Nat):Tok := List.getD p0 p1 tr2q2
def tr2q10 (p0:List Tok):D := D.sl (5:Nat) (LN p0) (fun (i:Nat) => [ZI (Tok.kind (tr2q9 p0 i)),ZI (Tok.at_ (tr2q9 p0 i)),ZI (Tok.len (tr2q9 p0 i)),ZI (Tok.num (tr2q9 p0 i)),D.str (Tok.text (tr2q9 p0 i))]) Mode.any
def tr2q11 (p0:List Tok):Prop := SM (tr2q10 p0)
end
theorem alike_ok (a b:List Tok) (ha:a.length ≤ 140737488355328) (_hb:b.length ≤ 140737488355328):ACalls Tryd.prog 15 [tsl a .any,tsl b .any] ⟨[],[]⟩ (SpecR (sC [tsl a .any,tsl b .any] (.bool (alikeB a b))) ()) := by
  refine con_of (A := sC _ _) (x := ()) (E := Eal a b) (eOk con0_ok rfl) Tryd.func15 rfl (by kernel_rfl) rfl (by simp [sC,Eal,EC,E0]) ?_
  refine vc_eq (T :=
    ifB ((LI a) != (LI b)) (tr2q0 a b) ((∃ (x:Nat),tr2q1 x a b∧(Z0 = (↑x:Int)∧True)∧True∧True)∧∀ (x:Nat),tr2q1 x a b→ifB (decide ((↑x:Int) < (LI a))) (side (Z0 ≤ (↑x:Int)∧(↑x:Int) < (LI a)) (∀ (x_1:Nat),True→SM x_1∧side (Z0 ≤ (↑x:Int)∧(↑x:Int) < (LI b)) (SM x_1∧side (Z0 ≤ (↑x:Int)∧(↑x:Int) < (LI b)) (SM x_1∧SM x_1∧side (Z0 ≤ (↑x:Int)∧(↑x:Int) < (LI b)) (ifB (! (tr2q4 a x == tr2q4 b x && (tr2q5 b x == tr2q5 b x && (tr2q6 b x == tr2q6 b x && (tr2q7 a x == tr2q7 b x && (tr2q8 a x == tr2q8 b x && true)))))) (tr2q0 a b) ((tr2q11 a∧tr2q11 b∧True)∧∃ (y:Nat),tr2q1 y a b∧LN a - y < LN a - x∧(IntKind.wrap IntKind.i64 ((↑x:Int) + Z1) = (↑y:Int)∧True)∧True∧True)))))) (True∧∃ (y:Unit),True∧true = alikeB a b∧True∧True))) (by kernel_rfl) ?_
  delta LI LN SM Z0 Z1 ZI tr2q0 tr2q1 tr2q10 tr2q11 tr2q2 tr2q3 tr2q4 tr2q5 tr2q6 tr2q7 tr2q8 tr2q9
  simp only [eq_self,Int.toNat_natCast,ifB_iff,side_iff,decide_eq_true_eq,decide_eq_false_iff_not,true_and,and_true,exists_const,forall_const]
  have dt:(default:Tok) = { kind := 0,at_ := 0,len := 0,num := 0,text := [] } := rfl
  simp only [← dt,eqAl]
  refine ⟨fun h => ?_,fun h => ⟨⟨0,⟨Nat.zero_le _,rfl⟩,rfl⟩,fun i ⟨i1,i2⟩ => ?_⟩⟩
  · cases hq:alikeB a b with
    | false => rfl
    | true => rw [alikeB_len hq] at h; simp at h
  · have hl:a.length = b.length := by
      have:(a.length:Int) = (b.length:Int) := by simpa using h
      omega
    refine ⟨fun hlt => ?_,fun hge => ?_⟩
    · have hia:i < a.length := by omega
      have hib:i < b.length := by omega
      rw [drop_step hia,drop_step hib,alikeB] at i2
      refine ⟨by omega,by omega,by omega,by omega,fun hd => ?_,fun hd => ⟨i + 1,⟨by omega,?_⟩,by omega,by rw [wrap_i64' (by omega) (by omega)]; rfl⟩⟩
      · rw [← i2]
        have hd:((a.getD i default).kind == (b.getD i default).kind && ((a.getD i default).num == (b.getD i default).num && (a.getD i default).text == (b.getD i default).text)) = false := by simpa only [Bool.not_eq_true'] using hd
        rw [hd]; rfl
      · rw [← i2]
        have hd:((a.getD i default).kind == (b.getD i default).kind && ((a.getD i default).num == (b.getD i default).num && (a.getD i default).text == (b.getD i default).text)) = true := by simpa only [Bool.not_eq_false'] using hd
        rw [hd]; rfl
    · rw [← i2,List.drop_of_length_le (by omega),List.drop_of_length_le (by omega)]; rfl
noncomputable def Emv (l:List Tok) (n:Nat):Senv := { EC con0 28 2 [4,5,6,7,11] (fun _ => ([],[])) with
  gh := fun b => match b with
    | 0 => [.slot 500005]
    | _ => []
  ann := fun k _ S => match k with
    | 0 => some { slots := [6,5],keep := [0,1],α := Nat × Nat,st := fun y => ([.int .i64 y.1,tsl ((l.take y.1).map (shT n)) (.tok 0 y.2)],⟨S.objs,[(0,y.2)]⟩),inv := fun y => y.1 ≤ l.length,mu := fun y => l.length - y.1 }
    | _ => none }
noncomputable section
def tr2q12 (p0 p1:Nat) (p2:List Tok):Nat := LN (List.map (shT p0) (List.take p1 p2))
def tr2q13:Tok := Tok.mk Z0 Z0 Z0 Z0 []
def tr2q14 (p0 p1:Nat) (p2:List Tok) (p3:Nat):List D := Tok.row (List.getD (List.map (shT p0) (List.take p1 p2)) p3 tr2q13)
def tr2q15 (p0 p1:Nat) (p2:List Tok):Nat := tr2q12 p0 p1 p2 + N1
def tr2q16 (p0:List Tok):D := D.sl (5:Nat) (LN p0) (fun (i:Nat) => Tok.row (List.getD p0 i tr2q13)) Mode.any
def tr2q17 (p0:List Tok) (p1:Nat):Tok := List.getD p0 (Int.toNat (↑p1:Int)) tr2q13
end
theorem moved_ok (l:List Tok) (n:Nat) (hl:l.length ≤ 4294967296) (hn:n ≤ 4294967296) (ht:∀ t ∈ l,0 ≤ t.at_∧t.at_ ≤ 4294967296):ACalls Tryd.prog 18 [tsl l .any,.int .i64 (n:Int)] ⟨[],[]⟩ (SpecR (sC [tsl l .any,.int .i64 (n:Int)] (tsl (l.map (shT n)) .any)) ()) := by
  refine con_of (A := sC _ _) (x := ()) (E := Emv l n) (eOk con0_ok rfl) Tryd.func18 rfl (by kernel_rfl) rfl (by simp [sC,Emv,EC,E0]) ?_
  refine vc_eq (T :=
    ∀ (t:Nat),(∃ (x:Nat × Nat),x.1 ≤ LN l∧(Z0 = (NI x.1)∧(N0 = tr2q12 n x.1 l∧(∀ (i:Nat),i < N0→eqOf (List D) [] (tr2q14 n x.1 l i))∧t = x.2)∧True)∧True∧t = x.2∧True)∧∀ (x:Nat × Nat),x.1 ≤ LN l→ifB (decide ((NI x.1) < (LI l))) (side (Z0 ≤ (NI x.1)∧(NI x.1) < (LI l)) (∀ (x_1:Nat),True→SM x_1∧SM x_1∧SM x_1∧SM x_1∧SM x.2∧side (tr2q15 n x.1 l * (48:Nat) ≤ (140737488355328:Nat)∧tr2q15 n x.1 l ≤ (9223372036854775807:Nat)) (∀ (t:Nat),(SM (tr2q16 l)∧SM (ZI (↑n:Int))∧True)∧∃ (y:Nat × Nat),y.1 ≤ LN l∧LN l - y.1 < LN l - x.1∧(IntKind.wrap IntKind.i64 ((NI x.1) + Z1) = (NI y.1)∧(tr2q15 n x.1 l = tr2q12 n y.1 l∧(∀ (i:Nat),i < tr2q15 n x.1 l→appF (tr2q12 n x.1 l) (fun (i:Nat) => tr2q14 n x.1 l i) (fun (i:Nat) => List.getD [[ZI (Tok.kind (tr2q17 l x.1)),ZI (IntKind.wrap IntKind.i64 (Tok.at_ (tr2q17 l x.1) + (↑n:Int))),ZI (Tok.len (tr2q17 l x.1)),ZI (Tok.num (tr2q17 l x.1)),D.str (Tok.text (tr2q17 l x.1))]] i []) i = tr2q14 n y.1 l i)∧t = y.2)∧True)∧True∧t = y.2∧True))) (True∧∃ (y:Unit),True∧(tr2q12 n x.1 l = LN (List.map (shT n) l)∧(∀ (i:Nat),i < tr2q12 n x.1 l→tr2q14 n x.1 l i = Tok.row (List.getD (List.map (shT n) l) i tr2q13))∧True)∧True∧True)) (by kernel_rfl) ?_
  delta LI LN N0 N1 NI SM Z0 Z1 ZI tr2q12 tr2q13 tr2q14 tr2q15 tr2q16 tr2q17
  simp only [eq_self,Int.toNat_natCast,ifB_iff,side_iff,decide_eq_true_eq,decide_eq_false_iff_not,true_and,and_true,exists_const,forall_const]
  have dt:(default:Tok) = { kind := 0,at_ := 0,len := 0,num := 0,text := [] } := rfl
  simp only [← dt]
  have stp:∀ i,i < l.length→(l.take (i + 1)).map (shT n) = (l.take i).map (shT n) ++ [shT n (l.getD i default)] := fun i hi => by
    rw [take_step hi,List.map_append]; rfl
  have hln:∀ i,((l.take i).map (shT n)).length ≤ l.length := fun i => by rw [List.length_map,List.length_take]; omega
  intro t
  refine ⟨⟨(0,t),Nat.zero_le _,⟨rfl,rfl,fun i hi => absurd hi (by omega),rfl⟩,rfl⟩,?_⟩
  rintro ⟨i,t1⟩ hi
  simp only at hi ⊢
  have hli := hln i
  refine ⟨fun hlt => ⟨by omega,by omega,fun t2 => ⟨(i + 1,t2),by simp only; omega,by simp only; omega,⟨wrap_i64' (by omega) (by omega),?_,?_,rfl⟩,rfl⟩⟩,fun hge => ?_⟩
  · rw [stp i (by omega),List.length_append]; rfl
  · have hi':i < l.length := by omega
    have hm:l.getD i default ∈ l := by
      rw [List.getD_eq_getElem?_getD,List.getElem?_eq_getElem hi']; exact List.getElem_mem hi'
    have hb := ht _ hm
    have hw:IntKind.i64.wrap ((l.getD i default).at_ + (n:Int)) = (l.getD i default).at_ + (n:Int) := wrap_i64' (by omega) (by omega)
    rw [stp i hi',hw]
    exact app_tok1 (shT n (l.getD i default)) rfl
  · rw [List.take_of_length_le (by omega)]
    exact ⟨rfl,fun _ _ => rfl⟩
noncomputable def Epl (s:List UInt8):Senv := { EC con0 31 1 [2,3,12,16,30] (fun _ => ([],[])) with
  ann := fun k _ S => match k with
    | 0 => some { slots := [3],keep := [0],α := Nat,st := fun y => ([.int .i64 y],S),inv := fun y => y ≤ s.length∧(s.drop y).all (fun b => low b || dig b) = s.all (fun b => low b || dig b),mu := fun y => s.length - y }
    | _ => none }
noncomputable section
def tr2q18 (p0:List UInt8):Prop := True∧∃ (_y:Unit),True∧false = plainB p0∧True∧True
def tr2q19 (p0:List UInt8):Bool := bif decide ((97:Int) ≤ (BI p0 N0)) then decide ((BI p0 N0) ≤ (122:Int)) else false
def tr2q20 (p0:UInt8):Bool := low p0 || dig p0
def tr2q21 (p0:Nat) (p1:List UInt8):Prop := p0 ≤ LN p1∧(List.all (List.drop p0 p1) fun (b:UInt8) => tr2q20 b) = List.all p1 fun (b:UInt8) => tr2q20 b
def tr2q22 (p0:List UInt8) (p1:Nat):Int := (BI p0 (Int.toNat (↑p1:Int)))
def tr2q23 (p0:List UInt8) (p1:Nat):Bool := bif decide ((97:Int) ≤ tr2q22 p0 p1) then decide (tr2q22 p0 p1 ≤ (122:Int)) else false
def tr2q24 (p0:List UInt8) (p1:Nat):Bool := bif decide ((48:Int) ≤ tr2q22 p0 p1) then decide (tr2q22 p0 p1 ≤ (57:Int)) else false
def tr2q25 (p0:List UInt8) (p1:Nat):Prop := (SM (D.str p0)∧True)∧∃ (y:Nat),tr2q21 y p0∧LN p0 - y < LN p0 - p1∧(IntKind.wrap IntKind.i64 ((↑p1:Int) + Z1) = (↑y:Int)∧True)∧True∧True
end
theorem plain_ok (s:List UInt8) (hs:s.length ≤ 140737488355328):ACalls Tryd.prog 29 [.str s] ⟨[],[]⟩ (SpecR (sC [.str s] (.bool (plainB s))) ()) := by
  refine con_of (A := sC _ _) (x := ()) (E := Epl s) (eOk con0_ok rfl) Tryd.func29 rfl (by kernel_rfl) rfl (by simp [sC,Epl,EC,E0]) ?_
  refine vc_eq (T :=
    ifB ((LI s) == Z0) (tr2q18 s) (side (Z0 ≤ Z0∧Z0 < (LI s)) (ifB (decide ((97:Int) ≤ (BI s N0))) (decide ((BI s N0) ≤ (122:Int)) = tr2q19 s∧True) (false = tr2q19 s∧True)∧True∧ifB (!tr2q19 s) (tr2q18 s) ((∃ (x:Nat),tr2q21 x s∧(Z0 = (↑x:Int)∧True)∧True∧True)∧∀ (x:Nat),tr2q21 x s→ifB (decide ((↑x:Int) < (LI s))) (side (Z0 ≤ (↑x:Int)∧(↑x:Int) < (LI s)) (ifB (decide ((97:Int) ≤ tr2q22 s x)) (decide (tr2q22 s x ≤ (122:Int)) = tr2q23 s x∧True) (false = tr2q23 s x∧True)∧True∧ifB (!tr2q23 s x) (side (Z0 ≤ (↑x:Int)∧(↑x:Int) < (LI s)) (ifB (decide ((48:Int) ≤ tr2q22 s x)) (decide (tr2q22 s x ≤ (57:Int)) = tr2q24 s x∧True) (false = tr2q24 s x∧True)∧True∧ifB (!tr2q24 s x) (tr2q18 s) (tr2q25 s x))) (tr2q25 s x))) (True∧∃ (y:Unit),True∧true = plainB s∧True∧True))))) (by kernel_rfl) ?_
  delta BI LI LN N0 SM U0 Z0 Z1 tr2q18 tr2q19 tr2q20 tr2q21 tr2q22 tr2q23 tr2q24 tr2q25
  simp only [eq_self,ne_eq,Int.toNat_natCast,ifB_iff,side_iff,decide_eq_true_eq,decide_eq_false_iff_not,true_and,and_true,beq_iff_eq,Bool.cond_false_right,beq_eq_false_iff_ne,exists_const]
  have lowI:∀ b:UInt8,(decide (97 ≤ (b.toNat:Int)) && decide ((b.toNat:Int) ≤ 122)) = low b := fun b => by
    unfold low
    rw [Bool.eq_iff_iff]
    simp only [Bool.and_eq_true,decide_eq_true_eq]
    omega
  have digI:∀ b:UInt8,(decide (48 ≤ (b.toNat:Int)) && decide ((b.toNat:Int) ≤ 57)) = dig b := fun b => by
    rw [Bool.eq_iff_iff,dig_iff]
    simp only [Bool.and_eq_true,decide_eq_true_eq]
  have rng:∀ {A B:Prop} [Decidable A] [Decidable B],(A→decide B = (decide A && decide B))∧(¬ A→false = (decide A && decide B)) := ⟨fun h => dec_and1 h,fun h => dec_and0 h⟩
  refine ⟨fun h => ?_,fun h => ⟨by omega,rng,?_⟩⟩
  · have:s = [] := List.length_eq_zero_iff.1 (by omega)
    subst this; rfl
  have hne:s.isEmpty = false := by
    cases s with
    | nil => exact (h rfl).elim
    | cons => rfl
  rw [lowI]
  refine ⟨fun h0 => ?_,fun h0 => ⟨⟨0,⟨Nat.zero_le _,rfl⟩,rfl⟩,fun i ⟨i1,i2⟩ => ⟨fun hlt => ⟨by omega,rng,?_⟩,fun hge => ?_⟩⟩⟩
  · have h0:low (s.getD 0 0) = false := by simpa using h0
    unfold plainB
    rw [h0,hne]; rfl
  · have hi:i < s.length := by omega
    have hd:s.drop i = s.getD i 0 :: s.drop (i + 1) := by
      rw [List.drop_eq_getElem_cons hi,List.getD_eq_getElem?_getD,List.getElem?_eq_getElem hi]; rfl
    rw [hd,List.all_cons] at i2
    rw [lowI]
    have nx:(low (s.getD i 0) || dig (s.getD i 0)) = true→∃ y,(y ≤ s.length∧(s.drop y).all (fun b => low b || dig b) = s.all (fun b => low b || dig b))∧s.length - y < s.length - i∧IntKind.i64.wrap ((i:Int) + 1) = (y:Int) := fun hc => by
      rw [hc,Bool.true_and] at i2
      exact ⟨i + 1,⟨by omega,i2⟩,by omega,by rw [wrap_i64' (by omega) (by omega)]; rfl⟩
    refine ⟨fun hl => ⟨by omega, rng, ?_⟩, fun hl => nx (by have : low (s.getD i 0) = true := by simpa using hl
                                                            rw [this]; rfl)⟩
    have hl:low (s.getD i 0) = false := by simpa using hl
    rw [digI]
    refine ⟨fun hg => ?_, fun hg => nx (by have : dig (s.getD i 0) = true := by simpa using hg
                                           rw [this,hl]; rfl)⟩
    have hg:dig (s.getD i 0) = false := by simpa using hg
    rw [hl,hg] at i2
    unfold plainB
    rw [← i2]
    cases (!s.isEmpty && low (s.getD 0 0)) <;> rfl
  · have h0:low (s.getD 0 0) = true := by simpa using h0
    rw [List.drop_of_length_le (by omega)] at i2
    unfold plainB
    rw [← i2,h0,hne]; rfl
noncomputable def Eft (l:List Tok):Senv := { EC con0 31 1 [2,3,4,12] (fun _ => ([],[])) with
  ann := fun k _ S => match k with
    | 0 => some { slots := [4,3],keep := [0],α := Nat × Nat,st := fun y => ([.int .i64 y.1,.int .i64 y.2],S),inv := fun y => y.1 ≤ l.length∧y.1 ≤ 201∧y.2 ≤ 4001 * y.1∧∀ j,j < y.1→min (l.getD j default).text.length 4001 ≤ y.2,mu := fun y => l.length - y.1 }
    | _ => none }
noncomputable section
def tr2q26:Tok := Tok.mk Z0 Z0 Z0 Z0 []
def tr2q27 (p0:List Tok) (p1:Nat):Tok := List.getD p0 p1 tr2q26
def tr2q28 (p0:List Tok) (p1:Nat):List UInt8 := Tok.text (tr2q27 p0 p1)
def tr2q29 (p0:Nat) (p1:List Tok) (p2:Nat):Prop := p0 ≤ LN p1∧p0 ≤ (201:Nat)∧p2 ≤ (4001:Nat) * p0∧∀ (j:Nat),j < p0→min (LN (tr2q28 p1 j)) (4001:Nat) ≤ p2
def tr2q30 (p0:Nat) (p1:List Tok):Bool := bif decide ((↑p0:Int) < (LI p1)) then decide ((↑p0:Int) < (201:Int)) else false
def tr2q31 (p0:List Tok):D := D.sl (5:Nat) (LN p0) (fun (i:Nat) => [ZI (Tok.kind (tr2q27 p0 i)),ZI (Tok.at_ (tr2q27 p0 i)),ZI (Tok.len (tr2q27 p0 i)),ZI (Tok.num (tr2q27 p0 i)),D.str (tr2q28 p0 i)]) Mode.any
def tr2q32 (p0:List Tok) (p1:Nat):Int := (LI (Tok.text (List.getD p0 (Int.toNat (↑p1:Int)) tr2q26)))
def tr2q33 (p0:List Tok) (p1:Nat):Bool := bif decide ((LI p0) ≤ (200:Int)) then decide ((↑p1:Int) ≤ (4000:Int)) else false
end
theorem few_ok (l:List Tok) (hl:l.length ≤ 140737488355328) (_ht:∀ t ∈ l,t.text.length ≤ 140737488355328):ACalls Tryd.prog 8 [tsl l .any] ⟨[],[]⟩ (SpecR (pQ [tsl l .any] (fun b:Bool => .bool b) (fun b => b = true→l.length ≤ 200∧∀ t ∈ l,t.text.length ≤ 4000) True) ()) := by
  refine con_of (A := pQ _ _ _ _) (x := ()) (E := Eft l) (eOk con0_ok rfl) Tryd.func8 rfl (by kernel_rfl) rfl (by simp [pQ,Eft,EC,E0]) ?_
  refine vc_eq (T :=
    (∃ (x:Nat × Nat),tr2q29 x.1 l x.2∧(Z0 = (NI x.1)∧Z0 = (NI x.2)∧True)∧True∧True)∧∀ (x:Nat × Nat),tr2q29 x.1 l x.2→ifB (decide ((NI x.1) < (LI l))) (decide ((NI x.1) < (201:Int)) = tr2q30 x.1 l∧True) (false = tr2q30 x.1 l∧True)∧ifB (tr2q30 x.1 l) (side (Z0 ≤ (NI x.1)∧(NI x.1) < (LI l)) ((SM (tr2q31 l)∧True)∧∃ (y:Nat × Nat),tr2q29 y.1 l y.2∧LN l - y.1 < LN l - x.1∧(IntKind.wrap IntKind.i64 ((NI x.1) + Z1) = (NI y.1)∧IntKind.wrap IntKind.i64 ((NI x.2) + if (4001:Int) < tr2q32 l x.1 then (4001:Int) else tr2q32 l x.1) = (NI y.2)∧True)∧True∧True)) (ifB (decide ((LI l) ≤ (200:Int))) (decide ((NI x.2) ≤ (4000:Int)) = tr2q33 l x.2∧True) (false = tr2q33 l x.2∧True)∧True∧∃ (y:Bool),(y = true→LN l ≤ (200:Nat)∧∀ (t:Tok),t ∈ l→LN (Tok.text t) ≤ (4000:Nat))∧tr2q33 l x.2 = y∧True∧True)) (by kernel_rfl) ?_
  delta LI LN NI SM Z0 Z1 ZI tr2q26 tr2q27 tr2q28 tr2q29 tr2q30 tr2q31 tr2q32 tr2q33
  simp only [eq_self,Int.toNat_natCast,ifB_iff,side_iff,decide_eq_true_eq,decide_eq_false_iff_not,true_and,and_true,Bool.cond_false_right,Bool.and_eq_true,Bool.and_eq_false_iff]
  have dt:(default:Tok) = { kind := 0,at_ := 0,len := 0,num := 0,text := [] } := rfl
  simp only [← dt]
  have rng:∀ {A B:Prop} [Decidable A] [Decidable B],(A→decide B = (decide A && decide B))∧(¬ A→false = (decide A && decide B)) := ⟨fun h => dec_and1 h,fun h => dec_and0 h⟩
  refine ⟨⟨(0,0),⟨Nat.zero_le _,Nat.zero_le _,Nat.zero_le _,fun j hj => absurd hj (Nat.not_lt_zero _)⟩,rfl,rfl⟩,?_⟩
  rintro ⟨i,n⟩ ⟨i1,i2,i3,i4⟩
  simp only at i1 i2 i3 i4 ⊢
  refine ⟨rng,fun hlt => ⟨by omega,?_⟩,fun hge => ⟨rng,(decide ((l.length:Int) ≤ 200) && decide ((n:Int) ≤ 4000)),fun hb => ?_,rfl⟩⟩
  · refine ⟨(i + 1,n + min (l.getD i default).text.length 4001),⟨by simp only; omega,by simp only; omega,by simp only; omega,fun j hj => ?_⟩,by simp only; omega,by rw [wrap_i64' (by omega) (by omega)]; rfl,?_⟩
    · simp only at hj ⊢
      by_cases hji:j < i
      · have := i4 j hji; omega
      · have:j = i := by omega
        subst this; omega
    · simp only
      have e:(if 4001 < ((l.getD i default).text.length:Int) then (4001:Int) else ((l.getD i default).text.length:Int)) = ((min (l.getD i default).text.length 4001:Nat):Int) := by
        split <;> omega
      rw [e,wrap_i64' (by omega) (by omega)]; omega
  · simp only [Bool.and_eq_true,decide_eq_true_eq] at hb
    refine ⟨by omega,fun t ht' => ?_⟩
    obtain ⟨j,hj,e⟩ := List.getElem_of_mem ht'
    have := i4 j (by omega)
    rw [List.getD_eq_getElem?_getD,List.getElem?_eq_getElem hj,Option.getD_some,e] at this
    omega
end Go.Proofs.YtfldjfpcefcjdaaDoor
namespace Go.Proofs.YtfldjfpcefcjdaaDoor
open Go Go.Ab
set_option maxRecDepth 100000
noncomputable def Esp:Senv := { EC con0 26 2 [4,5,10,14,25] (fun id => match id with | 6 => ([0,1,2,3,4,5,6,7,8],[]) | _ => ([],[])) with unr := fun _ => 1 }
theorem shapes0_ok:ACalls Tryd.prog 30 [nilS,nilS] ⟨[],[]⟩ (SpecR (sC [nilS,nilS] (.bool true)) ()) := by
  refine con_of (A := sC _ _) (x := ()) (E := Esp) (eOk con0_ok rfl) Tryd.func30 rfl (by kernel_rfl) rfl (by simp [sC,Esp,EC,E0]) ?_
  refine vc_eq (T :=
    True∧∃ (y:Unit),True∧SM true∧True∧True) (by kernel_rfl) ?_
  delta SM
  simp only [eq_self,and_true,exists_const]
def conSh0:Con := fun k ds _S => match k with
  | 30 => match ds with
    | [.sl 1 0 f m,.sl 1 0 g m'] => some (pC [.sl 1 0 f m,.sl 1 0 g m'] (.bool true) (weakL [.sl 1 0 f m,.sl 1 0 g m'] [nilS,nilS]))
    | _ => none
  | _ => none
theorem conSh0_ok:ConOk Tryd.prog conSh0 := by
  intro k ds S A h
  unfold conSh0 at h
  split at h
  · split at h
    · injection h with h; subst h
      exact pC_ok fun h => ⟨weakL_refl _,sC_weak h shapes0_ok⟩
    · cases h
  · cases h
noncomputable def Esf:Senv := EC conSh0 38 5 [] (fun _ => ([],[]))
noncomputable section
def tr3q0:Prop := SM N0∧(∀ (i:Nat),i < N0→eqOf (List D) [] [])∧True
def tr3q1:Prop := tr3q0∧tr3q0∧True
end
theorem sflt_ok (e a e' a':Int):ACalls Tryd.prog 17 [fltD e a,fltD e' a'] ⟨[],[]⟩ (SpecR (sC [fltD e a,fltD e' a'] (.bool (e == e' && a == a'))) ()) := by
  refine con_of (A := sC _ _) (x := ()) (E := Esf) (eOk conSh0_ok rfl) Tryd.func17 rfl (by kernel_rfl) rfl (by simp [sC,Esf,EC,E0]) ?_
  refine vc_eq (T :=
    ∀ (x:Nat),True→∀ (x_1:Nat),x ≠ x_1∧True→SM x∧SM x_1∧ifB (e == e') (SM x∧SM x_1∧ifB (a == a') (SM x∧SM x_1∧SM x∧SM x_1∧tr3q1∧∀ (y:Unit),True→SM x∧SM x_1∧tr3q1∧∀ (y:Unit),True→True∧∃ (y:Unit),True∧true = (e == e' && a == a')∧True∧True) (True∧∃ (y:Unit),True∧false = (e == e' && a == a')∧True∧True)) (True∧∃ (y:Unit),True∧false = (e == e' && a == a')∧True∧True)) (by kernel_rfl) ?_
  delta N0 SM tr3q0 tr3q1
  simp only [eq_self,ne_eq,implies_true,ifB_iff,true_and,and_true,beq_iff_eq,beq_eq_false_iff_ne,exists_const,forall_const]
  have c:∀ {P Q:Bool},P = false→false = (P && Q) := fun h => by rw [h]; rfl
  refine fun _ _ _ => ⟨fun h => ⟨fun h' => by rw [h,h']; simp,fun h' => ?_⟩,fun h => c (by simpa using h)⟩
  have:(a == a') = false := by simpa using h'
  rw [this,Bool.and_false]
def conLw:Con := fun k ds _S => match k with
  | 14 => match ds with
    | [.str s] => some (pC [.str s] (scanD (scanT s)) (s.length ≤ 140737488355328))
    | _ => none
  | 10 => match ds with
    | [.sl 5 n f m] => some (pC [.sl 5 n f m] (.str (Lib.join ((toksOf n f).map showTok) [32])) (toksB n f = true∧n ≤ 4294967296∧(∀ t ∈ toksOf n f,tokOk t)∧(Lib.join ((toksOf n f).map showTok) [32]).length ≤ 140737488355328))
    | _ => none
  | 11 => match ds with
    | [.sl 5 n f m] => some (pC [.sl 5 n f m] (.str (Lib.join ((toksOf n f).map showTok) [32])) (toksB n f = true∧n ≤ 4294967296∧(∀ t ∈ toksOf n f,tokOk t)∧(Lib.join ((toksOf n f).map showTok) [32]).length ≤ 140737488355328))
    | _ => none
  | 19 => match ds with
    | [.sl 5 n f m,.sl 5 n' f' m'] => some (pC [.sl 5 n f m,.sl 5 n' f' m'] (.bool (decide (toksOf n f = toksOf n' f'))) (toksB n f = true∧toksB n' f' = true∧n ≤ 140737488355328∧n' ≤ 140737488355328))
    | _ => none
  | 15 => match ds with
    | [.sl 5 n f m,.sl 5 n' f' m'] => some (pC [.sl 5 n f m,.sl 5 n' f' m'] (.bool (alikeB (toksOf n f) (toksOf n' f'))) (toksB n f = true∧toksB n' f' = true∧n ≤ 140737488355328∧n' ≤ 140737488355328))
    | _ => none
  | 18 => match ds with
    | [.sl 5 n f m,.int .i64 d] => some (pC [.sl 5 n f m,.int .i64 d] (tsl ((toksOf n f).map (shT d.toNat)) .any) (toksB n f = true∧n ≤ 4294967296∧(0 ≤ d∧d ≤ 4294967296)∧∀ t ∈ toksOf n f,0 ≤ t.at_∧t.at_ ≤ 4294967296))
    | _ => none
  | 12 => match ds with
    | [.str s] => some (pC [.str s] (.bool (resB s)) True)
    | _ => none
  | 13 => match ds with
    | [.str s] => some (pC [.str s] (.bool (resB s)) (s.length ≤ maxB))
    | _ => none
  | 29 => match ds with
    | [.str s] => some (pC [.str s] (.bool (plainB s)) (s.length ≤ 140737488355328))
    | _ => none
  | 17 => match ds with
    | [.agg [.int .i64 e,.int .i64 a,.sl 1 0 f1 m1,.sl 1 0 f2 m2,.str []],.agg [.int .i64 e',.int .i64 a',.sl 1 0 f3 m3,.sl 1 0 f4 m4,.str []]] => some (pC [.agg [.int .i64 e,.int .i64 a,.sl 1 0 f1 m1,.sl 1 0 f2 m2,.str []],.agg [.int .i64 e',.int .i64 a',.sl 1 0 f3 m3,.sl 1 0 f4 m4,.str []]] (.bool (e == e' && a == a')) (weakL [.agg [.int .i64 e,.int .i64 a,.sl 1 0 f1 m1,.sl 1 0 f2 m2,.str []],.agg [.int .i64 e',.int .i64 a',.sl 1 0 f3 m3,.sl 1 0 f4 m4,.str []]] [fltD e a,fltD e' a']))
    | _ => none
  | 8 => match ds with
    | [.sl 5 n f m] => some (pQ [.sl 5 n f m] (fun b:Bool => .bool b) (fun b => b = true→n ≤ 200∧∀ t ∈ toksOf n f,t.text.length ≤ 4000) (toksB n f = true∧n ≤ 140737488355328∧∀ t ∈ toksOf n f,t.text.length ≤ 140737488355328))
    | _ => none
  | _ => none
theorem tlen (n:Nat) (f:Nat→List D):(toksOf n f).length = n := by simp [toksOf]
theorem conLw_ok:ConOk Tryd.prog conLw := by
  intro k ds S A h
  unfold conLw at h
  split at h
  · split at h
    · injection h with h; subst h
      exact pC_ok fun h => ⟨weakL_refl _,scan_ok _ h⟩
    · cases h
  · split at h
    · injection h with h; subst h
      exact pC_ok fun ⟨h1,h2,h3,h4⟩ => ⟨weakL_refl _,sC_weak (us := [tsl (toksOf _ _) .any]) ⟨tsl_weak h1,trivial⟩ (tshow_ok _ (by rw [tlen]; exact h2) h3 h4)⟩
    · cases h
  · split at h
    · injection h with h; subst h
      exact pC_ok fun ⟨h1,h2,h3,h4⟩ => ⟨weakL_refl _,sC_weak (us := [tsl (toksOf _ _) .any]) ⟨tsl_weak h1,trivial⟩ (rshow_ok _ (by rw [tlen]; exact h2) h3 h4)⟩
    · cases h
  · split at h
    · injection h with h; subst h
      exact pC_ok fun ⟨h1,h2,h3,h4⟩ => ⟨weakL_refl _,sC_weak (us := [tsl (toksOf _ _) .any,tsl (toksOf _ _) .any]) ⟨tsl_weak h1,tsl_weak h2,trivial⟩ (same_ok _ _ (by rw [tlen]; exact h3) (by rw [tlen]; exact h4))⟩
    · cases h
  · split at h
    · injection h with h; subst h
      exact pC_ok fun ⟨h1,h2,h3,h4⟩ => ⟨weakL_refl _,sC_weak (us := [tsl (toksOf _ _) .any,tsl (toksOf _ _) .any]) ⟨tsl_weak h1,tsl_weak h2,trivial⟩ (alike_ok _ _ (by rw [tlen]; exact h3) (by rw [tlen]; exact h4))⟩
    · cases h
  · split at h
    · rename_i d
      injection h with h; subst h
      refine pC_ok fun ⟨h1,h2,h3,h4⟩ => ⟨weakL_refl _,?_⟩
      have := moved_ok (toksOf _ _) d.toNat (by rw [tlen]; exact h2) (by omega) h4
      rw [show ((d.toNat:Nat):Int) = d by omega] at this
      exact sC_weak (us := [tsl (toksOf _ _) .any,.int .i64 d]) ⟨tsl_weak h1,weakD_refl _,trivial⟩ this
    · cases h
  · split at h
    · injection h with h; subst h
      exact pC_ok fun _ => ⟨weakL_refl _,res_ok _⟩
    · cases h
  · split at h
    · injection h with h; subst h
      exact pC_ok fun h => ⟨weakL_refl _,rres_ok _ h⟩
    · cases h
  · split at h
    · injection h with h; subst h
      exact pC_ok fun h => ⟨weakL_refl _,plain_ok _ h⟩
    · cases h
  · split at h
    · injection h with h; subst h
      exact pC_ok fun h => ⟨weakL_refl _,sC_weak h (sflt_ok _ _ _ _)⟩
    · cases h
  · split at h
    · injection h with h; subst h
      refine pQ_ok fun ⟨h1,h2,h3⟩ => ⟨weakL_refl _,?_⟩
      have := few_ok (toksOf _ _) (by rw [tlen]; exact h2) h3
      refine (ACalls.weakArgs this (show weakL [_] [_] from ⟨tsl_weak h1,trivial⟩)).mono fun _ _ ⟨y,q1,q2,q3⟩ => ⟨y,?_,q2,q3⟩
      have q1:y = true→(toksOf _ _).length ≤ 200∧_ := q1
      rw [tlen] at q1
      exact q1
    · cases h
  · cases h
end Go.Proofs.YtfldjfpcefcjdaaDoor
namespace Go.Proofs.YtfldjfpcefcjdaaDoor
open Go Go.Ab Go.RowKit Go.Lib Go.Shelf
set_option maxRecDepth 100000
theorem own:ownKnob Tryd.prog.godebug = none := by kernel_rfl
theorem laid:laidOutB Tryd.prog = true := by kernel_rfl
theorem gN0 : Tryd.prog.globalNamed "internal/strconv.uint64pow10" = some 4 := by kernel_rfl
theorem tN0:(Tryd.prog.globals[4]?).map (·.type) = some 117 := by kernel_rfl
theorem gN1 : Tryd.prog.globalNamed "math/bits.deBruijn64tab" = some 8 := by kernel_rfl
theorem tN1:(Tryd.prog.globals[8]?).map (·.type) = some 139 := by kernel_rfl
theorem gN2 : Tryd.prog.globalNamed "math/bits.deBruijn32tab" = some 7 := by kernel_rfl
theorem tN2:(Tryd.prog.globals[7]?).map (·.type) = some 138 := by kernel_rfl
theorem u8x:U8Extra Tryd.prog Tryd.lays260_ren := ⟨by kernel_rfl,by kernel_rfl,by kernel_rfl,by kernel_rfl,by kernel_rfl,by kernel_rfl,by kernel_rfl⟩
theorem csx:CaseExtra Tryd.prog Tryd.lays204_ren := ⟨by kernel_rfl,by kernel_rfl,by kernel_rfl,by kernel_rfl,by kernel_rfl,by kernel_rfl⟩
def laidA : List (String × DataW Unit) := [("math/bits.deBruijn32tab", Rows.laid_math_bits_deBruijn32tab), ("math/bits.deBruijn64tab", Rows.laid_math_bits_deBruijn64tab), ("internal/strconv.uint64pow10", Rows.laid_internal_strconv_uint64pow10), ("unicode/utf8.acceptRanges", Rows.laid_unicode_utf8_acceptRanges)]
def laidB : List (String × DataW Unit) := [("strconv.ErrRange", Rows.laid_strconv_ErrRange), ("strconv.ErrSyntax", Rows.laid_strconv_ErrSyntax)]
def laidL : List (String × DataW Unit) := [("math/bits.deBruijn32tab", Rows.laid_math_bits_deBruijn32tab), ("math/bits.deBruijn64tab", Rows.laid_math_bits_deBruijn64tab), ("internal/strconv.uint64pow10", Rows.laid_internal_strconv_uint64pow10), ("unicode/utf8.acceptRanges", Rows.laid_unicode_utf8_acceptRanges), ("strconv.ErrRange", Rows.laid_strconv_ErrRange), ("strconv.ErrSyntax", Rows.laid_strconv_ErrSyntax), ("unicode.CaseRanges", Rows.laid_unicode_CaseRanges), ("unicode/utf8.first", Rows.laid_unicode_utf8_first)]
theorem first_eq:Rows.laid_unicode_utf8_first = firstData := Pinned.utf8First_eq
theorem case_eq:Rows.laid_unicode_CaseRanges = caseData := Pinned.caseRanges_eq
theorem accept_eq:(Rows.laid_unicode_utf8_acceptRanges:DataW Unit) = acceptData := by kernel_rfl
theorem g0_laid {W:World} (h:laidMetH Tryd.prog laidL W):G0 W := by
  have h0:laidMet Tryd.prog laidL W := h
  have m1 : ("unicode/utf8.first", firstData) ∈ laidL := by rw [← first_eq]; simp [laidL]
  have m2 : ("unicode/utf8.acceptRanges", acceptData) ∈ laidL := by rw [← accept_eq]; simp [laidL]
  have hT:Lib.Utf8Tabs (Tryd.lays260_ren.g 3) (Tryd.lays260_ren.g 4) W := utf8Tabs_of_readsT (U8Types.of260 Tryd.lays260) u8x (laidMet.reads h0 m1) (laidMet.reads h0 m2)
  have h1 := laidMet.tail h0
  have h2 := laidMet.tail h1
  exact ⟨Lib.tabIs_of_head gN0 tN0 Tryd.underlying117 Tryd.underlying91 (by kernel_rfl) (by kernel_rfl) h2,
    Lib.tabIs_of_head gN1 tN1 Tryd.underlying139 Tryd.underlying5 (by kernel_rfl) (by kernel_rfl) h1,
    Lib.tabIs_of_head gN2 tN2 Tryd.underlying138 Tryd.underlying5 (by kernel_rfl) (by kernel_rfl) h0,hT⟩
noncomputable def layT (l:Array Value):Obj→Obj
  | .cells _ t frozen => .cells l t frozen
  | o => o
noncomputable abbrev nOld:Nat := (World.settled Tryd.prog default).heap.size
noncomputable def laidWorld (os:Os):World :=
  let N := (World.settled Tryd.prog os).heap.size
  let w0 := World.holding Tryd.prog os ⟨#[.cells Lib.caseCells5 133,.cells #[.string ⟨#[118,97,108,117,101,32,111,117,116,32,111,102,32,114,97,110,103,101]⟩] 142,.cells #[.string ⟨#[105,110,118,97,108,105,100,32,115,121,110,116,97,120]⟩] 142],#[],[]⟩
  let h1 := w0.heap.modify 0 (layT (Lib.firstTab.map fun z => Value.int .u8 z).toArray)
  let h2 := h1.modify 1 (layT ((List.range 16).flatMap fun i => [Value.int .u8 (Lib.accLo i),Value.int .u8 (Lib.accHi i)]).toArray)
  let h3 := h2.modify 3 (layT #[.slice (some ⟨N,0,none⟩) 336 336])
  let h4 := h3.modify 4 (layT (Lib.pow10Tab.map fun z => Value.int .u64 z).toArray)
  let h5 := h4.modify 5 (layT #[.iface 140 (.pointer (some ⟨N + 2,0,none⟩))])
  let h6 := h5.modify 6 (layT #[.iface 140 (.pointer (some ⟨N + 1,0,none⟩))])
  let h7 := h6.modify 7 (layT (Lib.deBruijn32tab.map fun z => Value.int .u8 (Int.ofNat z)).toArray)
  let h8 := h7.modify 8 (layT (Lib.deBruijn64tab.map fun z => Value.int .u8 (Int.ofNat z)).toArray)
  { w0 with heap := h8 }
theorem case_in {w : World} (R : Nat) (hvar : w.heap[3]? = some (.cells #[.slice (some ⟨R, 0, none⟩) 336 336] 113 (0, 0))) (hblk : w.heap[R]? = some (.cells Lib.caseCells5 133 (0, 0))) (hR : ([3, R] : List Nat).Nodup) : LaidIn Tryd.prog w [("unicode.CaseRanges", caseData)] [3, R] := by
  have hT := caseTab_of_block hblk
  have hs:caseA.size = 336 := caseA_size
  have hread := case_slice_reads { Tryd.lays204 with } Tryd.underlying130 csx hT caseA_wf (by rw [hs]; unfold maxLen; omega) 0
  rw [case_rows_data,hs] at hread
  have hv : w.var? Tryd.prog "unicode.CaseRanges" = some #[.slice (some ⟨R, 0, none⟩) 336 336] := by
    unfold World.var?
    have e:Tryd.lays204_ren.g 13 = 3 := rfl
    rw [csx.n13,Option.bind_some,e]
    simp only [hvar]
  have hshape:MemPlace.row ⟨3,0,none⟩ (#[Value.slice (some ⟨R,0,none⟩) 336 336]:Array Value).size ++ MemPlace.row ⟨R,0,none⟩ (336 * 5) = ([((⟨3,0,none⟩:Addr),1),(⟨R,0,none⟩,336 * 5)]:List (Addr × Nat)).flatMap (fun r => MemPlace.row r.1 r.2) := by simp
  refine LaidIn.one (g := 3) _ csx.n13 csx.y13 hv hread ?_ ?_ ?_
  · rw [hshape]
    exact rows_nodup _ hR
  · rw [hshape]
    intro b off hp
    simp only [List.flatMap_cons,List.flatMap_nil,List.append_nil,List.mem_append] at hp
    rcases hp with hp | hp
    · obtain ⟨i,hi,e'⟩ := MemPlace.mem_row.1 hp
      cases e'
      refine ⟨⟨_,_,hvar⟩,fun u v hc' => ?_⟩
      obtain rfl:i = 0 := by omega
      rw [Lib.cell_of_heap hvar] at hc'
      simp at hc'
    · obtain ⟨i,hi,e'⟩ := MemPlace.mem_row.1 hp
      cases e'
      refine ⟨⟨_,_,hblk⟩,fun u v hc' => ?_⟩
      exfalso
      obtain ⟨c0,c1,c2,c3,c4⟩ := hT (i / 5) (by rw [hs]; omega)
      rcases (by omega:i % 5 = 0∨i % 5 = 1∨i % 5 = 2∨i % 5 = 3∨i % 5 = 4) with h | h | h | h | h
      · rw [show 0 + i = 0 + i / 5 * 5 by omega,c0] at hc'; cases hc'
      · rw [show 0 + i = 0 + i / 5 * 5 + 1 by omega,c1] at hc'; cases hc'
      · rw [show 0 + i = 0 + i / 5 * 5 + 2 by omega,c2] at hc'; cases hc'
      · rw [show 0 + i = 0 + i / 5 * 5 + 3 by omega,c3] at hc'; cases hc'
      · rw [show 0 + i = 0 + i / 5 * 5 + 4 by omega,c4] at hc'; cases hc'
  · rw [hshape]
    exact rows_block _
theorem laid_metA (os:Os) (args:Array Value):laidMet Tryd.prog laidL ((laidWorld os).forCall (fun _ _ => 0) ⟨#[],args,[]⟩).memory := by
  have pA:LaidIn Tryd.prog ((laidWorld os).forCall (fun _ _ => 0) ⟨#[],args,[]⟩).memory laidA [7,8,4,1] := LaidIn.of_run [7,8,4,1] 8 (by kernel_rfl) (by kernel_rfl) (by kernel_rfl) (by kernel_rfl)
  have pB:LaidIn Tryd.prog ((laidWorld os).forCall (fun _ _ => 0) ⟨#[],args,[]⟩).memory laidB [6,nOld + 1,5,nOld + 2] := LaidIn.of_run [6,nOld + 1,5,nOld + 2] 8 (by kernel_rfl) (by kernel_rfl) (by kernel_rfl) (by kernel_rfl)
  have pC : LaidIn Tryd.prog ((laidWorld os).forCall (fun _ _ => 0) ⟨#[], args, []⟩).memory [("unicode.CaseRanges", caseData)] [3, nOld] := case_in nOld (by kernel_rfl) (by kernel_rfl) (of_decide_eq_true (by kernel_rfl))
  have pD : LaidIn Tryd.prog ((laidWorld os).forCall (fun _ _ => 0) ⟨#[], args, []⟩).memory [("unicode/utf8.first", firstData)] [0] := LaidIn.of_run [0] 8 (by kernel_rfl) (by kernel_rfl) (by kernel_rfl) (by kernel_rfl)
  have h := (((pA.append pB (by kernel_rfl)).append pC (by kernel_rfl)).append pD (by kernel_rfl)).met
  rw [← first_eq,← case_eq] at h
  exact h
end Go.Proofs.YtfldjfpcefcjdaaDoor
namespace Go.Proofs.YtfldjfpcefcjdaaDoor
open Go Go.Ab
set_option maxRecDepth 100000
noncomputable def Eex:Senv := EC conLw 66 10 [] (fun _ => ([],[]))
noncomputable section
def tr4q0:List Tok := scL (scanT [(120:UInt8),(32:UInt8),(60:UInt8),(45:UInt8),(32:UInt8),(95:UInt8),(49:UInt8),(50:UInt8)])
def tr4q1:Nat := LN tr4q0
def tr4q2 (p0:Nat):Tok := List.getD tr4q0 p0 (Tok.mk Z0 Z0 Z0 Z0 [])
def tr4q3 (p0:Nat):List D := List.getD [[ZI (3:Int),ZI Z0,ZI Z0,ZI Z0,D.str [(34:UInt8),(7:UInt8)]]] p0 []
end
theorem example_ok:ACalls Tryd.prog 9 [] ⟨[],[]⟩ (SpecR (sC [] (.bool true)) ()) := by
  refine con_of (A := sC _ _) (x := ()) (E := Eex) (eOk conLw_ok rfl) Tryd.func9 rfl (by kernel_rfl) rfl (by simp [sC,Eex,EC,E0]) ?_
  refine vc_eq (T :=
    (8:Nat) ≤ (140737488355328:Nat)∧∀ (y:Unit),True→∀ (x:Nat),True→SM x∧N4 ≤ (140737488355328:Nat)∧∀ (y:Unit),True→∀ (x_1:Nat),x ≠ x_1∧True→SM x_1∧(3:Nat) ≤ (140737488355328:Nat)∧∀ (y:Unit),True→∀ (x_2:Nat),x_1 ≠ x_2∧x ≠ x_2∧True→SM x_2∧N2 ≤ (140737488355328:Nat)∧∀ (y:Unit),True→∀ (x_3:Nat),x_2 ≠ x_3∧x_1 ≠ x_3∧x ≠ x_3∧True→SM x_3∧SM x∧((toksB tr4q1 fun (i:Nat) => [ZI (Tok.kind (tr4q2 i)),ZI (Tok.at_ (tr4q2 i)),ZI (Tok.len (tr4q2 i)),ZI (Tok.num (tr4q2 i)),D.str (Tok.text (tr4q2 i))]) = true∧(toksB (3:Nat) fun (i:Nat) => List.getD [[ZI (4:Int),ZI Z0,ZI Z1,ZI Z0,D.str [(120:UInt8)]],[ZI (5:Int),ZI (2:Int),ZI (2:Int),ZI Z0,D.str [(60:UInt8),(45:UInt8)]],[ZI Z1,ZI (5:Int),ZI (3:Int),ZI (-12:Int),D.str []]] i []) = true∧tr4q1 ≤ (140737488355328:Nat)∧(3:Nat) ≤ (140737488355328:Nat))∧∀ (y:Unit),True→SM x_1∧SM x_2∧SM x_3∧((toksB N1 fun (i:Nat) => tr4q3 i) = true∧N1 ≤ (4294967296:Nat)∧(∀ (t:Tok),(t ∈ toksOf N1 fun (i:Nat) => tr4q3 i)→tokOk t)∧LN (Lib.join [showTok (Tok.mk (3:Int) Z0 Z0 Z0 [(34:UInt8),(7:UInt8)])] [(32:UInt8)]) ≤ (140737488355328:Nat))∧∀ (y:Unit),True→True∧∀ (y:Unit),True→True∧∀ (y:Unit),True→True∧∃ (y:Unit),True∧(!resB [(115:UInt8),(101:UInt8),(108:UInt8),(102:UInt8),(115:UInt8)]) = true∧True∧True) (by kernel_rfl) ?_
  delta LN N1 N2 N4 SM Z0 Z1 ZI tr4q0 tr4q1 tr4q2 tr4q3
  simp only [eq_self,ne_eq,true_and,and_true,exists_const,forall_const]
  have h1:(scL (scanT [120,32,60,45,32,95,49,50])).length ≤ 140737488355328 := by decide +kernel
  have h2:(Lib.join [showTok { kind := 3,at_ := 0,len := 0,num := 0,text := [34,7] }] [32]).length ≤ 140737488355328 := by decide +kernel
  refine ⟨by omega,fun _ => ⟨by omega,fun _ _ => ⟨by omega,fun _ _ => ⟨by omega,fun _ _ => ⟨⟨?_,rfl,h1,by omega⟩,⟨rfl,by omega,?_,h2⟩,by decide +kernel⟩⟩⟩⟩⟩
  · exact toksB_eq rfl fun _ _ => rfl
  · intro t ht
    have ht:t ∈ [({ kind := 3,at_ := 0,len := 0,num := 0,text := [34,7] }:Tok)] := ht
    rw [List.mem_singleton] at ht
    subst ht
    exact ⟨⟨by decide,by decide⟩,by simp only [List.length_cons,List.length_nil]; omega⟩
end Go.Proofs.YtfldjfpcefcjdaaDoor
namespace Go.Proofs.YtfldjfpcefcjdaaDoor
open Go Go.Ab
set_option maxRecDepth 100000
def conLx:Con := fun k ds S => match k with
  | 9 => match ds with
    | [] => some (sC [] (.bool true))
    | _ => none
  | k => conLw k ds S
theorem conLx_ok:ConOk Tryd.prog conLx := by
  intro k ds S A h
  unfold conLx at h
  split at h
  · split at h
    · injection h with h; subst h
      exact ConOk.plain (fun _ _ => example_ok) rfl rfl
    · cases h
  · exact conLw_ok _ _ _ _ h
end Go.Proofs.YtfldjfpcefcjdaaDoor
