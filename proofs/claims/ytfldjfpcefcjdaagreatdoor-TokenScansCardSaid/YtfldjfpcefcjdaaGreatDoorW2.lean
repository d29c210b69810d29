/- Functions of the given program and what each of them computes: lemmas towards the statement, their conditions stated with each of them. -/
import Derived.Test.YtfldjfpcefcjdaaGreatDoorW1
import Derived.WalkKit
import Derived.ProofKit
import Derived.Test.YtfldjfpcefcjdaaGreatDoorProg
import Derived.Lib.LaidTab
import Derived.Lib.ItoaNum
import Derived.Lib.TrailingZeros
import Derived.Shelf.Unicode.DecodeSlow
import Derived.Calls
import Derived.Below
import Derived.Laws.Entries
import Derived.Laws.Build
import Derived.Laws.Concat
import Derived.Laws.AppendOwn
import Derived.Laws.IdiomStrings
import Derived.Laws.BytesString
import Derived.Laws.NewFold
import Derived.Laws.MakeOwn
import Derived.Laws.IdiomCopy
import Derived.Laws.Shifts
import Derived.Laws.Strings
import Derived.Laws.Strings2
import Derived.Laws.Strings3
import Derived.Laws.RangeString
import Derived.Laws.Cover4
import Derived.Lib.DecodeN
import Derived.MapKept
import Derived.Laws.StructEq
import Derived.Orders
import Derived.Scope
import Derived.OpenShut
import Derived.Recover
import Derived.KernelRfl
import Derived.Shelf.Strings.Builder1
import Derived.Shelf.Strings.Builder2
import Derived.Shelf.Strings.OnBuilder
import Derived.Shelf.Small.Utf8
import Derived.Shelf.Unicode.ValidAny
import Derived.Shelf.Strconv.Itoa0
import Derived.Shelf.Strconv.Itoa1
import Derived.Shelf.LaysM
import Derived.Shelf.Strconv.Itoa2
import Derived.Shelf.Strconv.Itoa3
import Derived.Shelf.Strconv.Itoa4
import Derived.Shelf.Strings.Prefix
import Derived.Shelf.Unicode.Latin
import Derived.Shelf.Unicode.Decode
import Derived.Shelf.Unicode.DecodeAny
import Derived.Shelf.Unicode.CaseLookup
import Derived.Shelf.Unicode.CaseConvert
import Derived.Shelf.Unicode.CaseTo
import Derived.Shelf.Unicode.CaseLaid
import Derived.Lib.Builder
import Derived.Lib.UnsafeStr
import Derived.Lib.AppendIntMem
import Derived.Lib.ItoaLen
import Derived.Lib.MapLaws
import Derived.Lib.Join
import Derived.Test.YtfldjfpcefcjdaaGreatDoorCards
import Derived.Test.YtfldjfpcefcjdaaGreatDoorTie
import Derived.Deep.DeepHandedRow
import Derived.Deep.DeepLaidRun
import Derived.Deep.DeepWitnessRowRef
import Derived.Lib.LaidIn
import Derived.Lib.LaidU8T
import Derived.Lib.LaidCaseMet
import Derived.PinnedBridge
import Derived.Stop.LaidErr
namespace Go.Proofs.YtfldjfpcefcjdaaGreatDoor
open Go Go.Ab
set_option maxRecDepth 100000
theorem dec_or0 {P Q:Prop} [Decidable P] [Decidable Q] (h:¬ P):decide Q = (decide P || decide Q) := by simp [h]
theorem hxV_app:∀ (a b:List UInt8) (n:Nat),hxV (a ++ b) n = hxV b (hxV a n)
  | [],_,_ => rfl
  | x :: a,b,n => by simp only [List.cons_append,hxV]; exact hxV_app a b _
theorem hexV_lt {b:UInt8}:(hexV b).getD 0 < 16 := by
  unfold hexV
  split
  · rename_i h
    have := (dig_iff b).1 h
    simp only [Option.getD_some]; omega
  · split
    · rename_i h
      rw [Bool.and_eq_true,decide_eq_true_eq,decide_eq_true_eq] at h
      simp only [Option.getD_some]; omega
    · decide
theorem hxV_lt:∀ (l:List UInt8) (n:Nat),hxV l n < (n + 1) * 16 ^ l.length
  | [],n => by simp [hxV]
  | b :: l,n => by
    have h1 := hxV_lt l (16 * n + (hexV b).getD 0)
    have h2 := hexV_lt (b := b)
    simp only [hxV,List.length_cons,Nat.pow_succ]
    refine Nat.lt_of_lt_of_le h1 ?_
    have:(16 * n + (hexV b).getD 0 + 1) * 16 ^ l.length ≤ (16 * (n + 1)) * 16 ^ l.length := Nat.mul_le_mul_right _ (by omega)
    refine Nat.le_trans this ?_
    rw [Nat.mul_comm 16 (n + 1),Nat.mul_assoc,Nat.mul_comm 16 (16 ^ l.length)]
    exact Nat.le_refl _
theorem hx_small {l:List UInt8} (h:l.length ≤ 6):hxV l 0 < 16777216 := by
  have h1 := hxV_lt l 0
  have h2:16 ^ l.length ≤ 16 ^ 6 := Nat.pow_le_pow_right (by decide) h
  simp at h1
  omega
theorem hx_step {l:List UInt8} {x:Nat} (h:x < l.length):hxV (l.take (x + 1)) 0 = 16 * hxV (l.take x) 0 + (hexV (l.getD x 0)).getD 0 := by
  have e:l.take (x + 1) = l.take x ++ [l.getD x 0] := by
    rw [List.take_add_one,List.getElem?_eq_getElem h,List.getD_eq_getElem?_getD,List.getElem?_eq_getElem h]; rfl
  rw [e,hxV_app]
  rfl
theorem or32:∀ n:Nat,97 ≤ n→n ≤ 102→orI .u8 (n:Int) 32 = (n:Int) := by
  intro n h1 h2
  have:n = 97∨n = 98∨n = 99∨n = 100∨n = 101∨n = 102 := by omega
  rcases this with rfl | rfl | rfl | rfl | rfl | rfl <;> decide
noncomputable def Epu (ds:List UInt8):Senv := { EC con0 172 3 [6,7,8,9,10,11,12,13,15,16,17,19,25,32,37,40,52,64,77,83,85,90,92,99,100,101,102,106,112,121,137,141,159,169] (fun _ => ([],[])) with
  ann := fun b _ S => match b with
    | 3 => some { slots := [101,13],keep := [0,1,6,7,8,10,11,12,99,100],α := Nat,st := fun y => ([.int .i64 y,.int .u64 (hxV (ds.take y) 0:Nat)],S),inv := fun y => y ≤ ds.length,mu := fun y => ds.length - y }
    | _ => none }
noncomputable section
def tw6q0 (p0:List UInt8):Int := (NI (hxV p0 N0))
def tw6q1 (p0:List UInt8):Prop := True∧∃ (_y:Unit),True∧(Z0 = tw6q0 p0∧D.iface (120:Nat) (ZI (2:Int)) = D.nili∧True)∧True∧True
def tw6q2 (p0:Nat) (p1:List UInt8):Int := (NI (hxV (List.take p0 p1) N0))
def tw6q3 (p0:List UInt8) (p1:Nat):Int := (BI p0 (Int.toNat (↑p1:Int)))
def tw6q4 (p0:List UInt8) (p1:Nat):Bool := bif tw6q3 p0 p1 == (95:Int) then false else false
def tw6q5 (p0:List UInt8) (p1:Nat):Prop := false = tw6q4 p0 p1∧True
def tw6q6:Prop := SM (D.bool false)
def tw6q7 (p0:List UInt8) (p1:Nat):D := D.sl N1 (LN p0) (fun (i:Nat) => [ZB (BI p0 i)]) (Mode.tok N0 p1)
def tw6q8 (p0:List UInt8) (p1:Nat):Prop := SM (tw6q7 p0 p1)∧SM (ZI (LI p0))∧True
def tw6q9 (p0 p1:Nat):Prop := IntKind.wrap IntKind.i64 ((↑p0:Int) + Z1) = (↑p1:Int)
def tw6q10 (p0:List UInt8) (p1:Nat):Bool := bif decide ((48:Int) ≤ tw6q3 p0 p1) then decide (tw6q3 p0 p1 ≤ (57:Int)) else false
def tw6q11 (p0:Nat) (p1:List UInt8):Bool := decide ((1152921504606846976:Int) ≤ tw6q2 p0 p1)
def tw6q12 (p0:List UInt8):Prop := True∧∃ (_y:Unit),True∧((4294967295:Int) = tw6q0 p0∧D.iface (120:Nat) (ZI Z1) = D.nili∧True)∧True∧True
def tw6q13 (p0:Nat) (p1:List UInt8):Int := IntKind.wrap IntKind.u64 (tw6q2 p0 p1 * (16:Int))
def tw6q14 (p0:Nat) (p1:List UInt8):Int := IntKind.wrap IntKind.u64 (tw6q13 p0 p1 + IntKind.wrap IntKind.u64 (IntKind.wrap IntKind.u8 (tw6q3 p1 p0 - (48:Int))))
def tw6q15 (p0:Nat) (p1:List UInt8):Bool := decide (tw6q14 p0 p1 < tw6q13 p0 p1)
def tw6q16 (p0:Nat) (p1:List UInt8):Bool := decide ((4294967295:Int) < tw6q14 p0 p1)
def tw6q17 (p0:Nat) (p1:List UInt8):Bool := bif tw6q15 p0 p1 then true else tw6q16 p0 p1
def tw6q18 (p0:List UInt8) (p1:Nat):Prop := SM (D.str p0)∧SM (ZI (16:Int))∧SM (D.int IntKind.u64 Z0)∧SM D.nili∧tw6q6∧SM (D.int IntKind.u64 (1152921504606846976:Int))∧SM (D.int IntKind.u64 (4294967295:Int))∧tw6q6∧tw6q8 p0 p1
def tw6q19 (p0:List UInt8) (p1:Nat):Int := orI IntKind.u8 (tw6q3 p0 p1) (32:Int)
def tw6q20 (p0:List UInt8) (p1:Nat):Int := IntKind.wrap IntKind.u8 (IntKind.wrap IntKind.u8 (tw6q19 p0 p1 - (97:Int)) + (10:Int))
def tw6q21 (p0:Nat) (p1:List UInt8):Int := IntKind.wrap IntKind.u64 (tw6q13 p0 p1 + IntKind.wrap IntKind.u64 (tw6q20 p1 p0))
def tw6q22 (p0:Nat) (p1:List UInt8):Bool := decide (tw6q21 p0 p1 < tw6q13 p0 p1)
def tw6q23 (p0:Nat) (p1:List UInt8):Bool := decide ((4294967295:Int) < tw6q21 p0 p1)
def tw6q24 (p0:Nat) (p1:List UInt8):Bool := bif tw6q22 p0 p1 then true else tw6q23 p0 p1
end
theorem pu_ok (ds:List UInt8) (hd:ds.all hexB = true) (h1:1 ≤ ds.length) (h6:ds.length ≤ 6):ACalls Tryz.prog 94 [.str ds,.int .i64 16,.int .i64 32] ⟨[],[]⟩ (SpecR (sC [.str ds,.int .i64 16,.int .i64 32] (.tup [.int .u64 (hxV ds 0:Nat),.nili])) ()) := by
  refine con_of (A := sC _ _) (x := ()) (E := Epu ds) (eOk con0_ok rfl) Tryz.func94 rfl (by kernel_rfl) rfl (by simp [sC,Epu,EC,E0]) ?_
  refine vc_eq (T :=
    ifB (ds == []) (tw6q1 ds) ((SM true∧True)∧(SM false∧True)∧True∧side (LN ds ≤ (9223372036854775807:Nat)) (∀ (t:Nat),(∃ (x:Nat),x ≤ LN ds∧(Z0 = (↑x:Int)∧Z0 = tw6q2 x ds∧True)∧True∧SM t∧True)∧∀ (x:Nat),x ≤ LN ds→ifB (decide ((↑x:Int) < (LI ds))) (side (Z0 ≤ (↑x:Int)∧(↑x:Int) < (LI ds)) (ifB (tw6q3 ds x == (95:Int)) (tw6q5 ds x) (tw6q5 ds x)∧ifB (tw6q4 ds x) ((SM (D.str ds)∧SM (ZI (16:Int))∧SM (D.int IntKind.u64 Z0)∧SM D.nili∧tw6q6∧SM (D.int IntKind.u64 (1152921504606846976:Int))∧SM (D.int IntKind.u64 (4294967295:Int))∧D.bool true = D.bool false∧tw6q8 ds t)∧∃ (y:Nat),y ≤ LN ds∧LN ds - y < LN ds - x∧(tw6q9 x y∧tw6q2 x ds = tw6q2 y ds∧True)∧True∧SM t∧True) (ifB (decide ((48:Int) ≤ tw6q3 ds x)) (decide (tw6q3 ds x ≤ (57:Int)) = tw6q10 ds x∧True) (false = tw6q10 ds x∧True)∧ifB (tw6q10 ds x) (ifB (decide ((16:Int) ≤ IntKind.wrap IntKind.u8 (tw6q3 ds x - (48:Int)))) (tw6q1 ds) (ifB (tw6q11 x ds) (tw6q12 ds) (ifB (tw6q15 x ds) (true = tw6q17 x ds∧True) (tw6q16 x ds = tw6q17 x ds∧True)∧ifB (tw6q17 x ds) (tw6q12 ds) (tw6q18 ds t∧∃ (y:Nat),y ≤ LN ds∧LN ds - y < LN ds - x∧(tw6q9 x y∧tw6q14 x ds = tw6q2 y ds∧True)∧True∧SM t∧True)))) (True∧ifB (decide ((97:Int) ≤ tw6q19 ds x)) (True∧ifB (decide (tw6q19 ds x ≤ (122:Int))) (True∧ifB (decide ((16:Int) ≤ tw6q20 ds x)) (tw6q1 ds) (ifB (tw6q11 x ds) (tw6q12 ds) (ifB (tw6q22 x ds) (true = tw6q24 x ds∧True) (tw6q23 x ds = tw6q24 x ds∧True)∧ifB (tw6q24 x ds) (tw6q12 ds) (tw6q18 ds t∧∃ (y:Nat),y ≤ LN ds∧LN ds - y < LN ds - x∧(tw6q9 x y∧tw6q21 x ds = tw6q2 y ds∧True)∧True∧SM t∧True)))) (tw6q1 ds)) (tw6q1 ds))))) (True∧∃ (y:Unit),True∧(tw6q2 x ds = tw6q0 ds∧True∧True)∧True∧True)))) (by kernel_rfl) ?_
  delta BI LI LN N0 N1 NI SM U0 Z0 Z1 ZB ZI tw6q0 tw6q1 tw6q10 tw6q11 tw6q12 tw6q13 tw6q14 tw6q15 tw6q16 tw6q17 tw6q18 tw6q19 tw6q2 tw6q20 tw6q21 tw6q22 tw6q23 tw6q24 tw6q3 tw6q4 tw6q5 tw6q6 tw6q7 tw6q8 tw6q9
  simp only [eq_self,ne_eq,Int.toNat_natCast,ifB_iff,side_iff,decide_eq_true_eq,decide_eq_false_iff_not,true_and,and_true,beq_iff_eq,Bool.cond_false_right,Bool.cond_true_left,Bool.and_eq_true,Bool.and_eq_false_iff,Bool.or_eq_true,Bool.or_eq_false_iff,beq_eq_false_iff_ne,exists_const,forall_const]
  have hne:¬ ds = [] := fun e => by rw [e] at h1; exact absurd h1 (by decide)
  refine ⟨fun h => (hne h).elim,fun _ => ⟨by omega,⟨0,Nat.zero_le _,rfl,rfl⟩,fun x hx => ⟨fun hlt => ?_,fun hge => ?_⟩⟩⟩
  · have hlt':x < ds.length := by omega
    have hb := (hexB_iff (ds.getD x 0)).1 (List.all_eq_true.1 hd _ (by rw [List.getD_eq_getElem?_getD,List.getElem?_eq_getElem hlt']; exact List.getElem_mem hlt'))
    have hn := hx_small (l := ds.take x) (by rw [List.length_take]; omega)
    have hst := hx_step hlt'
    have ex:∀ v:Nat,(hexV (ds.getD x 0)).getD 0 = v→∃ y,y ≤ ds.length∧ds.length - y < ds.length - x∧IntKind.i64.wrap ((x:Int) + 1) = (y:Int)∧((hxV (ds.take x) 0 * 16 + v:Nat):Int) = ((hxV (ds.take y) 0:Nat):Int) := fun v hv => ⟨x + 1,by omega,by omega,by rw [wrap_i64' (by omega) (by omega)]; rfl,by rw [hst,hv]; omega⟩
    have u1:IntKind.u64.wrap (((hxV (ds.take x) 0:Nat):Int) * 16) = ((hxV (ds.take x) 0 * 16:Nat):Int) := by
      have := wrap_uns (k := .u64) rfl (a := hxV (ds.take x) 0 * 16) (by simp only [IntKind.bits]; omega)
      rw [← this]; congr 1; try omega
    have u2:∀ v:Nat,v < 16→IntKind.u64.wrap (v:Int) = (v:Int) := fun v hv => wrap_uns (k := .u64) rfl (by simp only [IntKind.bits]; omega)
    have u3:∀ v:Nat,v < 16→IntKind.u64.wrap (((hxV (ds.take x) 0 * 16:Nat):Int) + (v:Int)) = ((hxV (ds.take x) 0 * 16 + v:Nat):Int) := fun v hv => by
      have := wrap_uns (k := .u64) rfl (a := hxV (ds.take x) 0 * 16 + v) (by simp only [IntKind.bits]; omega)
      rw [← this]; try congr 1
    have u8:∀ v:Nat,v < 16→IntKind.u8.wrap (v:Int) = (v:Int) := fun v hv => wrap_uns (k := .u8) rfl (by simp only [IntKind.bits]; omega)
    simp only [u1]
    rcases hb with hb | hb
    · obtain ⟨v,hv⟩:∃ v:Nat,((ds.getD x 0).toNat:Int) - 48 = (v:Int) := ⟨(ds.getD x 0).toNat - 48,by omega⟩
      have hv9:v < 16 := by omega
      have hx:(hexV (ds.getD x 0)).getD 0 = v := by
        unfold hexV
        rw [if_pos ((dig_iff _).2 hb)]
        simp only [Option.getD_some]; omega
      have ex := ex v hx
      simp only [hv,u8 v hv9,u2 v hv9,u3 v hv9]
      repeat' (first | intro _ | refine And.intro ?_ ?_)
      all_goals first
        | exact ex
        | exact dec_and1 (by assumption)
        | exact dec_and0 (by assumption)
        | exact dec_or0 (by assumption)
        | (exfalso; omega)
        | omega
        | simp
        | skip
    · obtain ⟨v,hv⟩:∃ v:Nat,((ds.getD x 0).toNat:Int) - 97 + 10 = (v:Int) := ⟨(ds.getD x 0).toNat - 87,by omega⟩
      have hv9:v < 16 := by omega
      have hx:(hexV (ds.getD x 0)).getD 0 = v := by
        unfold hexV
        rw [if_neg (fun h => by have := (dig_iff _).1 h; omega),if_pos (by rw [Bool.and_eq_true,decide_eq_true_eq,decide_eq_true_eq]; omega)]
        simp only [Option.getD_some]; omega
      have o1 := or32 (ds.getD x 0).toNat (by omega) (by omega)
      have o2:IntKind.u8.wrap (((ds.getD x 0).toNat:Int) - 97) = ((ds.getD x 0).toNat:Int) - 97 := by
        have := wrap_uns (k := .u8) rfl (a := (ds.getD x 0).toNat - 97) (by simp only [IntKind.bits]; omega)
        rw [show ((ds.getD x 0).toNat:Int) - 97 = (((ds.getD x 0).toNat - 97:Nat):Int) by omega]
        exact this
      have ex := ex v hx
      simp only [o1,o2,hv,u8 v hv9,u2 v hv9,u3 v hv9]
      repeat' (first | intro _ | refine And.intro ?_ ?_)
      all_goals first
        | exact ex
        | exact dec_and1 (by assumption)
        | exact dec_and0 (by assumption)
        | exact dec_or0 (by assumption)
        | (exfalso; omega)
        | omega
        | simp
        | skip
  · have:ds.take x = ds := List.take_of_length_le (by omega)
    rw [this]
end Go.Proofs.YtfldjfpcefcjdaaGreatDoor
namespace Go.Proofs.YtfldjfpcefcjdaaGreatDoor
open Go Go.Ab
set_option maxRecDepth 100000
theorem orN:(∀ x:Fin 32,orI .u8 192 (x.val:Int) = ((192 + x.val:Nat):Int))∧(∀ x:Fin 16,orI .u8 224 (x.val:Int) = ((224 + x.val:Nat):Int))∧(∀ x:Fin 8,orI .u8 240 (x.val:Int) = ((240 + x.val:Nat):Int))∧(∀ x:Fin 64,orI .u8 128 (x.val:Int) = ((128 + x.val:Nat):Int))∧(∀ x:Fin 256,andI .u8 (x.val:Int) 63 = ((x.val % 64:Nat):Int)) := by
  refine ⟨?_,?_,?_,?_,?_⟩ <;> decide +kernel
theorem wrap8 (m:Nat):IntKind.u8.wrap (m:Int) = ((m % 256:Nat):Int) := by
  rw [IntKind.wrap_u8]; omega
theorem fdivN (n k:Nat):(n:Int).fdiv (k:Int) = ((n / k:Nat):Int) := by
  rw [Int.fdiv_eq_ediv_of_nonneg _ (by omega)]; rfl
theorem tailB (m:Nat):orI .u8 128 (andI .u8 (IntKind.u8.wrap (m:Int)) 63) = ((128 + m % 64:Nat):Int) := by
  obtain ⟨_,_,_,h4,h5⟩ := orN
  rw [wrap8]
  have := h5 ⟨m % 256,by omega⟩
  rw [this]
  have e:m % 256 % 64 = m % 64 := by omega
  rw [e]
  exact h4 ⟨m % 64,by omega⟩
theorem headB:(∀ m,m < 32→orI .u8 192 (IntKind.u8.wrap (m:Nat)) = ((192 + m:Nat):Int))∧(∀ m,m < 16→orI .u8 224 (IntKind.u8.wrap (m:Nat)) = ((224 + m:Nat):Int))∧(∀ m,m < 8→orI .u8 240 (IntKind.u8.wrap (m:Nat)) = ((240 + m:Nat):Int)) := by
  obtain ⟨h1,h2,h3,_,_⟩ := orN
  refine ⟨fun m h => ?_,fun m h => ?_,fun m h => ?_⟩
  all_goals rw [wrap8,Nat.mod_eq_of_lt (by omega)]
  · exact h1 ⟨m,h⟩
  · exact h2 ⟨m,h⟩
  · exact h3 ⟨m,h⟩
theorem wrLeaf {l bs : List UInt8} {c : Int} {t k : Nat} {F : Nat → List D} (hl : l.length + 4 ≤ 140737488355328) (hb : utf8 c = bs) (hk : bs.length = k) (h4 : k ≤ 4) (hF : ∀ i, i < k → F i = [D.int .u8 ((bs.getD i 0).toNat : Int)]) :
    ((l.length + k) * 1 ≤ 140737488355328∧l.length + k ≤ 9223372036854775807)∧∀ t1:Nat,(t % 1000003 = 5 + 1→t1 % 1000003 = 5 + 1)→∃ y:Nat,(t % 1000003 = 5 + 1→y % 1000003 = 5 + 1)∧(l.length + k = (l ++ utf8 c).length∧(∀ i,i < l.length + k→appF l.length (fun i => [D.int .u8 ((l.getD i 0).toNat:Int)]) F i = [D.int .u8 (((l ++ utf8 c).getD i 0).toNat:Int)])∧t1 = y)∧t1 = y := by
  subst hb
  refine ⟨by omega,fun t1 ht => ⟨t1,ht,⟨by rw [List.length_append,hk],?_,rfl⟩,rfl⟩⟩
  intro i hi
  have := app_gen (l := l) (r := utf8 c) (G := F) rfl (fun _ _ => rfl) (by rw [hk]; exact hF) i (by rw [hk]; exact hi)
  exact this
def sAp (t:Nat) (l:List UInt8) (c:Int) (p:Prop):FnSpec where
  β := Unit
  α := Nat
  args := fun _ => [bsl l (.tok 0 t),.int .i32 c]
  st := fun _ => ⟨[],[(0,t)]⟩
  pre := fun _ => p
  post := fun _ t' => t % 1000003 = 5 + 1→t' % 1000003 = 5 + 1
  res := fun _ t' => .ret (bsl (l ++ utf8 c) (.tok 0 t'))
  out := fun _ t' => ⟨[],[(0,t')]⟩
noncomputable def Ean:Senv := { EC con0 78 2 [4,5,11,25,50] (fun _ => ([],[])) with own := fun t => Nat.beq t 63 }
noncomputable section
def tv2q0 (p0 p1:Nat):Prop := p0 % (1000003:Nat) = N6→p1 % (1000003:Nat) = N6
def tv2q1 (p0:List UInt8) (p1:Int):Nat := LN (p0 ++ utf8 p1)
def tv2q2 (p0:List UInt8) (p1:Nat):List D := [ZB (BI p0 p1)]
def tv2q3 (p0:Int):List (List D) := [[ZB (orI IntKind.u8 (128:Int) (andI IntKind.u8 (IntKind.wrap IntKind.u8 p0) (63:Int)))]]
def tv2q4 (p0:List UInt8) (p1:Int) (p2:Nat):List D := [ZB (BI (p0 ++ utf8 p1) p2)]
def tv2q5 (p0:List UInt8) (p1:Int):Prop := LN p0 + (3:Nat) = tv2q1 p0 p1
def tv2q6 (p0:Int):List (List D) := [ZB (orI IntKind.u8 (128:Int) (andI IntKind.u8 (IntKind.wrap IntKind.u8 (Int.fdiv p0 (64:Int))) (63:Int)))] :: tv2q3 p0
def tv2q7 (p0:Nat) (p1:List UInt8) (p2:Int):Prop := SM p0∧side ((LN p1 + (3:Nat)) * N1 ≤ (140737488355328:Nat)∧LN p1 + (3:Nat) ≤ (9223372036854775807:Nat)) (∀ (t1:Nat),tv2q0 p0 t1→True∧∃ (y:Nat),tv2q0 p0 y∧(tv2q5 p1 p2∧(∀ (i:Nat),i < LN p1 + (3:Nat)→appF (LN p1) (fun (i:Nat) => tv2q2 p1 i) (fun (i:Nat) => List.getD ([ZB (orI IntKind.u8 (224:Int) (IntKind.wrap IntKind.u8 (Int.fdiv p2 (4096:Int))))] :: tv2q6 p2) i []) i = tv2q4 p1 p2 i)∧t1 = y)∧True∧t1 = y∧True)
def tv2q8 (p0:Int):Bool := bif decide ((65535:Int) < IntKind.wrap IntKind.u32 p0) then decide (IntKind.wrap IntKind.u32 p0 ≤ (1114111:Int)) else false
def tv2q9 (p0:Int) (p1:Nat) (p2:List UInt8):Prop := ifB (decide ((65535:Int) < IntKind.wrap IntKind.u32 p0)) (decide (IntKind.wrap IntKind.u32 p0 ≤ (1114111:Int)) = tv2q8 p0∧True) (false = tv2q8 p0∧True)∧ifB (tv2q8 p0) (SM p1∧side ((LN p2 + N4) * N1 ≤ (140737488355328:Nat)∧LN p2 + N4 ≤ (9223372036854775807:Nat)) (∀ (t1:Nat),tv2q0 p1 t1→True∧∃ (y:Nat),tv2q0 p1 y∧(LN p2 + N4 = tv2q1 p2 p0∧(∀ (i:Nat),i < LN p2 + N4→appF (LN p2) (fun (i:Nat) => tv2q2 p2 i) (fun (i:Nat) => List.getD ([ZB (orI IntKind.u8 (240:Int) (IntKind.wrap IntKind.u8 (Int.fdiv p0 (262144:Int))))] :: [ZB (orI IntKind.u8 (128:Int) (andI IntKind.u8 (IntKind.wrap IntKind.u8 (Int.fdiv p0 (4096:Int))) (63:Int)))] :: tv2q6 p0) i []) i = tv2q4 p2 p0 i)∧t1 = y)∧True∧t1 = y∧True)) (SM p1∧side ((LN p2 + (3:Nat)) * N1 ≤ (140737488355328:Nat)∧LN p2 + (3:Nat) ≤ (9223372036854775807:Nat)) (∀ (t1:Nat),tv2q0 p1 t1→True∧∃ (y:Nat),tv2q0 p1 y∧(tv2q5 p2 p0∧(∀ (i:Nat),i < LN p2 + (3:Nat)→appF (LN p2) (fun (i:Nat) => tv2q2 p2 i) (fun (i:Nat) => List.getD [[ZB (239:Int)],[ZB (191:Int)],[ZB (189:Int)]] i []) i = tv2q4 p2 p0 i)∧t1 = y)∧True∧t1 = y∧True))
def tv2q10 (p0:Int):Bool := bif decide ((57343:Int) < IntKind.wrap IntKind.u32 p0) then decide (IntKind.wrap IntKind.u32 p0 ≤ (65535:Int)) else false
end
theorem an_ok (t : Nat) (l : List UInt8) (c : Int) (h0 : 128 ≤ c) (hc : runeP c.toNat) (hl : l.length + 4 ≤ 140737488355328) :
    ACalls Tryz.prog 81 [bsl l (.tok 0 t),.int .i32 c] ⟨[],[(0,t)]⟩ (SpecR (sAp t l c True) ()) := by
  refine con_of (A := sAp t l c True) (x := ()) (E := Ean) (eOk con0_ok rfl) Tryz.func81 rfl (by kernel_rfl) rfl (by simp [sAp,Ean,EC,E0]) ?_
  refine vc_eq (T :=
    ifB (decide (IntKind.wrap IntKind.u32 c ≤ (2047:Int))) (SM t∧side ((LN l + N2) * N1 ≤ (140737488355328:Nat)∧LN l + N2 ≤ (9223372036854775807:Nat)) (∀ (t1:Nat),tv2q0 t t1→True∧∃ (y:Nat),tv2q0 t y∧(LN l + N2 = tv2q1 l c∧(∀ (i:Nat),i < LN l + N2→appF (LN l) (fun (i:Nat) => tv2q2 l i) (fun (i:Nat) => List.getD ([ZB (orI IntKind.u8 (192:Int) (IntKind.wrap IntKind.u8 (Int.fdiv c (64:Int))))] :: tv2q3 c) i []) i = tv2q4 l c i)∧t1 = y)∧True∧t1 = y∧True)) (ifB (decide (IntKind.wrap IntKind.u32 c < (55296:Int))) (ifB (decide (IntKind.wrap IntKind.u32 c < (55296:Int))) (tv2q7 t l c) (tv2q9 c t l)) (ifB (decide ((57343:Int) < IntKind.wrap IntKind.u32 c)) (decide (IntKind.wrap IntKind.u32 c ≤ (65535:Int)) = tv2q10 c∧True) (false = tv2q10 c∧True)∧ifB (tv2q10 c) (tv2q7 t l c) (tv2q9 c t l)))) (by kernel_rfl) ?_
  delta BI LN N1 N2 N4 N6 SM U0 ZB tv2q0 tv2q1 tv2q10 tv2q2 tv2q3 tv2q4 tv2q5 tv2q6 tv2q7 tv2q8 tv2q9
  simp only [eq_self,ifB_iff,side_iff,decide_eq_true_eq,decide_eq_false_iff_not,true_and,and_true]
  obtain ⟨n,rfl⟩:∃ n:Nat,c = n := ⟨c.toNat,by omega⟩
  rw [Int.toNat_natCast] at hc
  have hn:n ≤ 1114111 := by unfold runeP at hc; omega
  have hu:IntKind.u32.wrap (n:Int) = (n:Int) := wrap_uns (k := .u32) rfl (by simp only [IntKind.bits]; omega)
  have he := utf8_enc hc
  unfold enc4 at he
  obtain ⟨b1,b2,b3⟩ := headB
  have f1:((n:Int).fdiv 64) = ((n / 64:Nat):Int) := fdivN n 64
  have f2:((n:Int).fdiv 4096) = ((n / 4096:Nat):Int) := fdivN n 4096
  have f3:((n:Int).fdiv 262144) = ((n / 262144:Nat):Int) := fdivN n 262144
  simp only [hu,f1,f2,f3,tailB,Bool.cond_false_right,Bool.and_eq_true,Bool.and_eq_false_iff,decide_eq_true_eq,decide_eq_false_iff_not]
  refine ⟨fun h => wrLeaf hl (by rw [he,if_neg (by omega),if_pos (by omega)]) rfl (by decide) ?_,fun h2 => ⟨fun h3 => ⟨fun h4 => wrLeaf hl (by rw [he,if_neg (by omega),if_neg (by omega),if_pos (by omega)]) rfl (by decide) ?_,fun h4 => (h4 h3).elim⟩,fun h3 => ⟨⟨fun h => dec_and1 h,fun h => dec_and0 h⟩,fun h4 => wrLeaf hl (by rw [he,if_neg (by omega),if_neg (by omega),if_pos (by omega)]) rfl (by decide) ?_,fun h4 => ⟨⟨fun h => dec_and1 h,fun h => dec_and0 h⟩,fun h5 => wrLeaf hl (by rw [he,if_neg (by omega),if_neg (by omega),if_neg (by omega)]) rfl (by decide) ?_,fun h5 => ?_⟩⟩⟩⟩
  · intro i hi
    rcases (by omega:i = 0∨i = 1) with rfl | rfl
    · simp only [List.getD_cons_zero]
      rw [b1 _ (by omega),byteN _ (by omega)]
    · simp only [List.getD_cons_zero,List.getD_cons_succ]
      rw [byteN _ (by omega)]
  · intro i hi
    rcases (by omega:i = 0∨i = 1∨i = 2) with rfl | rfl | rfl
    · simp only [List.getD_cons_zero]
      rw [b2 _ (by omega),byteN _ (by omega)]
    · simp only [List.getD_cons_zero,List.getD_cons_succ]
      rw [byteN _ (by omega)]
    · simp only [List.getD_cons_zero,List.getD_cons_succ]
      rw [byteN _ (by omega)]
  · intro i hi
    rcases (by omega:i = 0∨i = 1∨i = 2) with rfl | rfl | rfl
    · simp only [List.getD_cons_zero]
      rw [b2 _ (by omega),byteN _ (by omega)]
    · simp only [List.getD_cons_zero,List.getD_cons_succ]
      rw [byteN _ (by omega)]
    · simp only [List.getD_cons_zero,List.getD_cons_succ]
      rw [byteN _ (by omega)]
  · intro i hi
    rcases (by omega:i = 0∨i = 1∨i = 2∨i = 3) with rfl | rfl | rfl | rfl
    · simp only [List.getD_cons_zero]
      rw [b3 _ (by omega),byteN _ (by omega)]
    · simp only [List.getD_cons_zero,List.getD_cons_succ]
      rw [byteN _ (by omega)]
    · simp only [List.getD_cons_zero,List.getD_cons_succ]
      rw [byteN _ (by omega)]
    · simp only [List.getD_cons_zero,List.getD_cons_succ]
      rw [byteN _ (by omega)]
  · exfalso
    unfold runeP at hc
    omega
def conAn:Con := fun k ds S => match k with
  | 81 => match ds with
    | [.sl 1 n f (.tok 0 t),.int .i32 c] => match getT S.toks 0 with
      | some t' => some ((sAp t (bytesOf n f) c True).fits () (rowsB n f = true∧t' = t∧128 ≤ c∧runeP c.toNat∧n + 4 ≤ 140737488355328))
      | _ => none
    | _ => none
  | _ => none
theorem sAp_fits {g : Nat} {n t t' : Nat} {f : Nat → List D} {c : Int} {p : Prop} {S : St} (hg : getT S.toks 0 = some t') (h : p → ACalls Tryz.prog g [bsl (bytesOf n f) (.tok 0 t), .int .i32 c] ⟨[], [(0, t)]⟩ (SpecR (sAp t (bytesOf n f) c True) ())) :
    (∀ x,((sAp t (bytesOf n f) c True).fits () (rowsB n f = true∧t' = t∧p)).pre x→ACalls Tryz.prog g (((sAp t (bytesOf n f) c True).fits () (rowsB n f = true∧t' = t∧p)).args x) (((sAp t (bytesOf n f) c True).fits () (rowsB n f = true∧t' = t∧p)).st x) (SpecR ((sAp t (bytesOf n f) c True).fits () (rowsB n f = true∧t' = t∧p)) x)) ∧
    (∀ x,((sAp t (bytesOf n f) c True).fits () (rowsB n f = true∧t' = t∧p)).fit = some x→((sAp t (bytesOf n f) c True).fits () (rowsB n f = true∧t' = t∧p)).pre x→weakL [.sl 1 n f (.tok 0 t),.int .i32 c] (((sAp t (bytesOf n f) c True).fits () (rowsB n f = true∧t' = t∧p)).args x)∧leS (((sAp t (bytesOf n f) c True).fits () (rowsB n f = true∧t' = t∧p)).st x) S) ∧
    (((sAp t (bytesOf n f) c True).fits () (rowsB n f = true∧t' = t∧p)).all = true→∀ x,((sAp t (bytesOf n f) c True).fits () (rowsB n f = true∧t' = t∧p)).pre x→weakL [.sl 1 n f (.tok 0 t),.int .i32 c] (((sAp t (bytesOf n f) c True).fits () (rowsB n f = true∧t' = t∧p)).args x)∧((sAp t (bytesOf n f) c True).fits () (rowsB n f = true∧t' = t∧p)).st x = S) := by
  refine ⟨fun _ ⟨⟨_,_,hp⟩,_⟩ => h hp,fun _ _ ⟨⟨h1,h2,_⟩,_⟩ => ?_,fun e => nomatch e⟩
  subst h2
  refine ⟨⟨bsl_weak h1,weakD_refl _,trivial⟩,chk_iff.2 ⟨rfl,trivial,?_⟩⟩
  simp only [FnSpec.fits,sAp,leT,hg]
  exact ⟨trivial,trivial⟩
theorem conAn_ok:ConOk Tryz.prog conAn := by
  intro k ds S A h
  unfold conAn at h
  split at h
  · split at h
    · split at h
      · rename_i hg
        injection h with h; subst h
        exact sAp_fits hg fun ⟨h1,h2,h3⟩ => an_ok _ _ _ h1 h2 (by simpa [bytesOf] using h3)
      · cases h
    · cases h
  · cases h
noncomputable def Eap:Senv := { EC conAn 16 2 [4,7] (fun _ => ([],[])) with own := fun t => Nat.beq t 63 }
noncomputable section
def tv2q11 (p0 p1:Nat):Prop := p0 % (1000003:Nat) = N6→p1 % (1000003:Nat) = N6
def tv2q12 (p0:List UInt8) (p1:Nat):List D := [ZB (BI p0 p1)]
def tv2q13 (p0:List UInt8) (p1:Int) (p2:Nat):List D := [ZB (BI (p0 ++ utf8 p1) p2)]
def tv2q14 (p0:List UInt8) (p1:Int):List UInt8 := (bytesOf (LN p0) fun (i:Nat) => tv2q12 p0 i) ++ utf8 p1
def tv2q15 (p0:List UInt8) (p1:Int):Nat := LN (tv2q14 p0 p1)
end
theorem ap_ok (t : Nat) (l : List UInt8) (c : Int) (h0 : 0 ≤ c) (hc : runeP c.toNat) (hl : l.length + 4 ≤ 140737488355328) :
    ACalls Tryz.prog 68 [bsl l (.tok 0 t),.int .i32 c] ⟨[],[(0,t)]⟩ (SpecR (sAp t l c True) ()) := by
  refine con_of (A := sAp t l c True) (x := ()) (E := Eap) (eOk conAn_ok rfl) Tryz.func68 rfl (by kernel_rfl) rfl (by simp [sAp,Eap,EC,E0]) ?_
  refine vc_eq (T :=
    ifB (decide (IntKind.wrap IntKind.u32 c ≤ (127:Int))) (SM t∧side ((LN l + N1) * N1 ≤ (140737488355328:Nat)∧LN l + N1 ≤ (9223372036854775807:Nat)) (∀ (t1:Nat),tv2q11 t t1→True∧∃ (y:Nat),tv2q11 t y∧(LN l + N1 = LN (l ++ utf8 c)∧(∀ (i:Nat),i < LN l + N1→appF (LN l) (fun (i:Nat) => tv2q12 l i) (fun (i:Nat) => List.getD [[ZB (IntKind.wrap IntKind.u8 c)]] i []) i = tv2q13 l c i)∧t1 = y)∧True∧t1 = y∧True)) ((((rowsB (LN l) fun (i:Nat) => tv2q12 l i) = true∧SM t∧(128:Int) ≤ c∧runeP (Int.toNat c)∧LN l + N4 ≤ (140737488355328:Nat))∧True)∧∀ (y:Nat),tv2q11 t y→True∧∃ (y_1:Nat),tv2q11 t y_1∧(tv2q15 l c = LN (l ++ utf8 c)∧(∀ (i:Nat),i < tv2q15 l c→[ZB (BI (tv2q14 l c) i)] = tv2q13 l c i)∧y = y_1)∧True∧y = y_1∧True)) (by kernel_rfl) ?_
  delta BI LN N1 N4 N6 SM U0 ZB tv2q11 tv2q12 tv2q13 tv2q14 tv2q15
  have eb:bytesOf l.length (fun i => [.int .u8 ((l.getD i 0).toNat:Int)]) = l := bytesOf_bsl l
  have er:rowsB l.length (fun i => [.int .u8 ((l.getD i 0).toNat:Int)]) = true := rowsB_bsl l
  simp only [eb,er,eq_self,implies_true,ifB_iff,side_iff,decide_eq_true_eq,decide_eq_false_iff_not,true_and,and_true]
  obtain ⟨n,rfl⟩:∃ n:Nat,c = n := ⟨c.toNat,by omega⟩
  rw [Int.toNat_natCast] at hc
  have hn:n ≤ 1114111 := by unfold runeP at hc; omega
  have hu:IntKind.u32.wrap (n:Int) = (n:Int) := wrap_uns (k := .u32) rfl (by simp only [IntKind.bits]; omega)
  rw [hu]
  refine ⟨fun h => wrLeaf hl (bs := [UInt8.ofNat n]) (by rw [utf8_enc hc]; unfold enc4; rw [if_pos (show n < 128 by omega)]) rfl (by decide) ?_,fun h => ⟨⟨by omega,by rw [Int.toNat_natCast]; exact hc,hl⟩,fun y hy => ⟨y,hy,rfl,rfl⟩⟩⟩
  intro i hi
  obtain rfl:i = 0 := by omega
  simp only [List.getD_cons_zero]
  rw [wrap8,byteN _ (by omega),Nat.mod_eq_of_lt (by omega)]
def conWr:Con := fun k ds S => match k with
  | 68 => match ds with
    | [.sl 1 n f (.tok 0 t),.int .i32 c] => match getT S.toks 0 with
      | some t' => some ((sAp t (bytesOf n f) c True).fits () (rowsB n f = true∧t' = t∧0 ≤ c∧runeP c.toNat∧n + 4 ≤ 140737488355328))
      | _ => none
    | _ => none
  | k => conCc k ds S
theorem conWr_ok:ConOk Tryz.prog conWr := by
  intro k ds S A h
  unfold conWr at h
  split at h
  · split at h
    · split at h
      · rename_i hg
        injection h with h; subst h
        exact sAp_fits hg fun ⟨h1,h2,h3⟩ => ap_ok _ _ _ h1 h2 (by simpa [bytesOf] using h3)
      · cases h
    · cases h
  · exact conCc_ok _ _ _ _ h
noncomputable def Ewr:Senv := { EC conWr 30 2 [4,5,6] (fun _ => ([],[])) with own := fun t => Nat.beq t 63 }
noncomputable section
def tv2q16 (p0:Int):List UInt8 := utf8 p0
def tv2q17 (p0:List UInt8) (p1:Int):List UInt8 := (bytesOf (LN p0) fun (i:Nat) => [ZB (BI p0 i)]) ++ tv2q16 p1
def tv2q18 (p0:List UInt8) (p1:Int):Nat := LN (tv2q17 p0 p1)
end
theorem wr_ok (x t : Nat) (l : List UInt8) (c : Int) (h0 : 0 ≤ c) (hc : runeP c.toNat) (hl : l.length + 4 ≤ 140737488355328) :
    ACalls Tryz.prog 51 ((sWs (utf8 c) 5 x t l (.ret (.tup [.int .i64 (utf8 c).length,.nili])) [.int .i32 c]).args ()) ((sWs (utf8 c) 5 x t l (.ret (.tup [.int .i64 (utf8 c).length,.nili])) [.int .i32 c]).st ()) (SpecR (sWs (utf8 c) 5 x t l (.ret (.tup [.int .i64 (utf8 c).length,.nili])) [.int .i32 c]) ()) := by
  refine con_of (A := sWs (utf8 c) 5 x t l (.ret (.tup [.int .i64 (utf8 c).length,.nili])) [.int .i32 c]) (x := ()) (E := Ewr) (eOk conWr_ok rfl) Tryz.func51 rfl (by kernel_rfl) rfl (by simp [sWs,Ewr,EC,E0]) ?_
  refine vc_eq (T :=
    ((SM x∧SM (65:Nat)∧SM true)∧True)∧∀ (y:Unit),True→SM x∧SM x∧(((rowsB (LN l) fun (i:Nat) => [ZB (BI l i)]) = true∧SM t∧Z0 ≤ c∧runeP (Int.toNat c)∧LN l + N4 ≤ (140737488355328:Nat))∧True)∧∀ (y:Nat),(t % (1000003:Nat) = N6→y % (1000003:Nat) = N6)→SM x∧(t % (1000003:Nat) = N6→y % (1000003:Nat) = N6)∧SM x∧True∧∃ (y_1:Nat),True∧(IntKind.wrap IntKind.i64 ((NI (tv2q18 l c)) - (LI l)) = (LI (tv2q16 c))∧True∧True)∧(SM x∧(tv2q18 l c = LN (l ++ tv2q16 c)∧(∀ (i:Nat),i < tv2q18 l c→[ZB (BI (tv2q17 l c) i)] = [ZB (BI (l ++ tv2q16 c) i)])∧y = y_1)∧True)∧y = y_1∧True) (by kernel_rfl) ?_
  delta BI LI LN N4 N6 NI SM U0 Z0 ZB tv2q16 tv2q17 tv2q18
  have eb:bytesOf l.length (fun i => [.int .u8 ((l.getD i 0).toNat:Int)]) = l := bytesOf_bsl l
  have er:rowsB l.length (fun i => [.int .u8 ((l.getD i 0).toNat:Int)]) = true := rowsB_bsl l
  simp only [eb,er,eq_self,implies_true,true_and,and_true,forall_const]
  refine ⟨⟨h0,hc,hl⟩,fun y hy => ⟨hy,y,?_,rfl,rfl⟩⟩
  have := utf8_len c
  rw [wrap_i64' (by rw [List.length_append]; omega) (by rw [List.length_append]; omega),List.length_append]
  omega
end Go.Proofs.YtfldjfpcefcjdaaGreatDoor
namespace Go.Proofs.YtfldjfpcefcjdaaGreatDoor
open Go Go.Ab
set_option maxRecDepth 100000
def tokIs (ts:List (Nat × Nat)) (kt t:Nat):Prop :=
  match getT ts kt with
  | some t' => t' = t
  | none => False
def bFit (ts:List (Nat × Nat)) (x y T E kt t n:Nat) (g:Nat→List D):Prop := y = x∧T = 65∧E = 5∧tokIs ts kt t∧rowsB n g = true
def byteU (z:Int):UInt8 := UInt8.ofNat z.toNat
def conBl (base:Con):Con := fun k ds S => match k with
  | 42 => match ds with
    | [.ref k x 0,.str s] => match getO S.objs k with
      | some (y,.bld T E (.sl 1 n g (.tok kt t))) => some ((sBw s k kt x t (bytesOf n g) (.ret (.tup [.int .i64 s.length,.nili])) [.str s]).fits () (bFit S.toks x y T E kt t n g∧n + s.length ≤ 140737488355328))
      | _ => none
    | _ => none
  | 63 => match ds with
    | [.ref k x 0,.int .u8 z] => match getO S.objs k with
      | some (y,.bld T E (.sl 1 n g (.tok kt t))) => some ((sBw [byteU z] k kt x t (bytesOf n g) (.ret .nili) [.int .u8 z]).fits () (bFit S.toks x y T E kt t n g∧(0 ≤ z∧z ≤ 255)∧n + 1 ≤ 140737488355328))
      | _ => none
    | _ => none
  | 43 => match ds with
    | [.ref k x 0] => match getO S.objs k with
      | some (y,.bld T E (.sl 1 n g (.tok kt t))) => some ((sBs k kt x t (bytesOf n g)).fits () (bFit S.toks x y T E kt t n g∧n ≤ 140737488355328))
      | _ => none
    | _ => none
  | 51 => match ds with
    | [.ref k x 0,.int .i32 c] => match getO S.objs k with
      | some (y,.bld T E (.sl 1 n g (.tok kt t))) => some ((sBw (utf8 c) k kt x t (bytesOf n g) (.ret (.tup [.int .i64 (utf8 c).length,.nili])) [.int .i32 c]).fits () (bFit S.toks x y T E kt t n g∧(0 ≤ c∧runeP c.toNat)∧n + 4 ≤ 140737488355328))
      | _ => none
    | _ => none
  | k => base k ds S
theorem byteU_nat {z:Int} (h:0 ≤ z∧z ≤ 255):((byteU z).toNat:Int) = z := by
  unfold byteU
  rw [UInt8.toNat_ofNat']; omega
theorem leO_bld {os : List (Nat × Nat × AObj)} {k x y T E n kt t : Nat} {g : Nat → List D} (hg : getO os k = some (y, .bld T E (.sl 1 n g (.tok kt t)))) (h1 : y = x) (h2 : T = 65) (h3 : E = 5) (hr : rowsB n g = true) :
    leO [(k,x,.bld 65 5 (bsl (bytesOf n g) (.tok kt t)))] os := by
  subst h1 h2 h3
  simp only [leO,hg,weakO]
  exact ⟨trivial,chk_iff.2 ⟨by simp [tokD,bsl],bsl_weak hr⟩,trivial⟩
theorem leT_tok {ts:List (Nat × Nat)} {kt t:Nat} (h:tokIs ts kt t):leT [(kt,t)] ts := by
  unfold tokIs at h
  simp only [leT]
  split at h
  · rename_i t' e; rw [e]; exact ⟨h,trivial⟩
  · exact h.elim
theorem conBl_ok {base:Con} (hb:ConOk Tryz.prog base):ConOk Tryz.prog (conBl base) := by
  intro k ds S A h
  unfold conBl at h
  split at h
  · split at h
    · split at h
      · rename_i k x s _ y T E n g kt t hg
        injection h with h; subst h
        have key:∀ p:n + s.length ≤ 140737488355328,ACalls Tryz.prog 42 ((sBw s k kt x t (bytesOf n g) (.ret (.tup [.int .i64 s.length,.nili])) [.str s]).args ()) ((sBw s k kt x t (bytesOf n g) (.ret (.tup [.int .i64 s.length,.nili])) [.str s]).st ()) (SpecR (sBw s k kt x t (bytesOf n g) (.ret (.tup [.int .i64 s.length,.nili])) [.str s]) ()) := fun p =>
          bw_of k kt x t (ws_ok x t (bytesOf n g) s (by simpa [bytesOf] using p))
        refine ⟨fun _ hy => key hy.1.2,fun _ _ hy => ?_,fun h => nomatch h⟩
        obtain ⟨⟨⟨h1,h2,h3,h4,h5⟩,_⟩,_⟩ := hy
        exact ⟨⟨by simp [weakD,chk],by simp [weakD],trivial⟩,chk_iff.2 ⟨rfl,leO_bld hg h1 h2 h3 h5,leT_tok h4⟩⟩
      · cases h
    · cases h
  · split at h
    · split at h
      · rename_i k x z _ y T E n g kt t hg
        injection h with h; subst h
        have key:∀ p:(0 ≤ z∧z ≤ 255)∧n + 1 ≤ 140737488355328,ACalls Tryz.prog 63 ((sBw [byteU z] k kt x t (bytesOf n g) (.ret .nili) [.int .u8 z]).args ()) ((sBw [byteU z] k kt x t (bytesOf n g) (.ret .nili) [.int .u8 z]).st ()) (SpecR (sBw [byteU z] k kt x t (bytesOf n g) (.ret .nili) [.int .u8 z]) ()) := fun p => by
          have := bw_of k kt x t (wb_ok x t (bytesOf n g) (byteU z) (by simpa [bytesOf] using p.2))
          rw [byteU_nat p.1] at this
          exact this
        refine ⟨fun _ hy => key hy.1.2,fun _ _ hy => ?_,fun h => nomatch h⟩
        obtain ⟨⟨⟨h1,h2,h3,h4,h5⟩,_⟩,_⟩ := hy
        exact ⟨⟨by simp [weakD,chk],weakD_refl _,trivial⟩,chk_iff.2 ⟨rfl,leO_bld hg h1 h2 h3 h5,leT_tok h4⟩⟩
      · cases h
    · cases h
  · split at h
    · split at h
      · rename_i k x _ y T E n g kt t hg
        injection h with h; subst h
        refine ⟨fun _ hy => bstr_ok k kt x t (bytesOf n g) (by have := hy.1.2; simp [bytesOf]; omega),fun _ _ hy => ?_,fun h => nomatch h⟩
        obtain ⟨⟨⟨h1,h2,h3,h4,h5⟩,_⟩,_⟩ := hy
        exact ⟨⟨by simp [weakD,chk],trivial⟩,chk_iff.2 ⟨rfl,leO_bld hg h1 h2 h3 h5,leT_tok h4⟩⟩
      · cases h
    · cases h
  · split at h
    · split at h
      · rename_i k x c _ y T E n g kt t hg
        injection h with h; subst h
        have key:∀ p:(0 ≤ c∧runeP c.toNat)∧n + 4 ≤ 140737488355328,ACalls Tryz.prog 51 ((sBw (utf8 c) k kt x t (bytesOf n g) (.ret (.tup [.int .i64 (utf8 c).length,.nili])) [.int .i32 c]).args ()) ((sBw (utf8 c) k kt x t (bytesOf n g) (.ret (.tup [.int .i64 (utf8 c).length,.nili])) [.int .i32 c]).st ()) (SpecR (sBw (utf8 c) k kt x t (bytesOf n g) (.ret (.tup [.int .i64 (utf8 c).length,.nili])) [.int .i32 c]) ()) := fun p =>
          bw_of k kt x t (wr_ok x t (bytesOf n g) c p.1.1 p.1.2 (by simpa [bytesOf] using p.2))
        refine ⟨fun _ hy => key hy.1.2,fun _ _ hy => ?_,fun h => nomatch h⟩
        obtain ⟨⟨⟨h1,h2,h3,h4,h5⟩,_⟩,_⟩ := hy
        exact ⟨⟨by simp [weakD,chk],weakD_refl _,trivial⟩,chk_iff.2 ⟨rfl,leO_bld hg h1 h2 h3 h5,leT_tok h4⟩⟩
      · cases h
    · cases h
  · exact hb _ _ _ _ h
theorem bfit_ok (t y:Nat) (l:List UInt8):bFit [(0,t)] y y 65 5 0 t l.length (fun i => [.int .u8 ((l.getD i 0).toNat:Int)]) := ⟨rfl,rfl,rfl,rfl,rowsB_bsl l⟩
end Go.Proofs.YtfldjfpcefcjdaaGreatDoor
namespace Go.Proofs.YtfldjfpcefcjdaaGreatDoor
open Go Go.Ab
set_option maxRecDepth 100000
theorem gTz : Tryz.prog.globalNamed "math/bits.deBruijn64tab" = some 8 := by kernel_rfl
theorem tz_walk (w:World) (hc:w.cell? ⟨8,(IntKind.u64.wrap (bits BinOp.and IntKind.u64 16 (IntKind.u64.wrap (-16)) * 285870213051353865) / 288230376151711744).toNat,none⟩ = some (.int .u8 4)):Calls Tryz.prog 103 #[.int .u64 16] w fun e w' => e = .returned (.int .i64 4)∧Go.RowKit.Below w.heap.size w w' := by
  go_enter Tryz.func103,Tryz.ntmps103
  go_wp2
  all_goals go_ret
  all_goals exact ⟨rfl,Go.RowKit.Below.refl _ _⟩
theorem tz_ok:ACalls Tryz.prog 103 [.int .u64 16] ⟨[],[]⟩ (SpecR (sC [.int .u64 16] (.int .i64 4)) ()) := by
  refine ACalls.of_shelf_g ⟨_,Tryz.func103,by kernel_rfl,by kernel_rfl⟩ fun C args w ha hG hb => ?_
  obtain ⟨u,e,hu⟩ := repL_one' ha
  have e2:args = [u].toArray := by rw [← e]
  subst e2
  simp only [Rep] at hu; subst hu
  have ht : Lib.TabIs Tryz.prog w "math/bits.deBruijn64tab" .u8 (Lib.deBruijn64tab.map Int.ofNat) := var_below hG.2.1 hb
  have hc := ht.cell gTz 15 (by decide)
  exact (tz_walk w hc).mono fun e w' ⟨h1,h2⟩ => ⟨⟨_,h1,by simp [Rep]⟩,h2⟩
def conTz:Con := fun k ds S => match k with
  | 103 => some (pC ds (.int .i64 4) (weakL ds [.int .u64 16]))
  | k => conIt k ds S
theorem conTz_ok:ConOk Tryz.prog conTz := by
  intro k ds S A h
  unfold conTz at h
  split at h
  · injection h with h; subst h
    exact pC_ok fun h1 => ⟨weakL_refl _,sC_weak h1 tz_ok⟩
  · exact conIt_ok _ _ _ _ h
noncomputable def Ehb:Senv := { EC conTz 102 5 [10,11,12,13,14,15,16,17,18,28,30,34,46,68,89,94] (fun _ => ([],[])) with unr := fun b => match b with | 0 => 2 | _ => 0 }
noncomputable section
def fm2q0:List UInt8 := [(48:UInt8),(49:UInt8),(50:UInt8),(51:UInt8),(52:UInt8),(53:UInt8),(54:UInt8),(55:UInt8),(56:UInt8),(57:UInt8),(97:UInt8),(98:UInt8),(99:UInt8),(100:UInt8),(101:UInt8),(102:UInt8),(103:UInt8),(104:UInt8),(105:UInt8),(106:UInt8),(107:UInt8),(108:UInt8),(109:UInt8),(110:UInt8),(111:UInt8),(112:UInt8),(113:UInt8),(114:UInt8),(115:UInt8),(116:UInt8),(117:UInt8),(118:UInt8),(119:UInt8),(120:UInt8),(121:UInt8),(122:UInt8)]
def fm2q1 (p0:Int):Int := (BI fm2q0 (Int.toNat (Int.fdiv p0 (16:Int))))
def fm2q2 (p0:Int):Int := (BI fm2q0 (Int.toNat (andI IntKind.u64 p0 (15:Int))))
def fm2q3 (p0:Int):List D := [ZB (fm2q1 p0),ZB (fm2q2 p0)]
def fm2q4:D := ZB Z0
def fm2q5:Prop := SM N0∧(∀ (i:Nat),i < N0→eqOf (List D) [] [])∧True
def fm2q6 (p0:Int):Int := (BI fm2q0 (Int.toNat p0))
def fm2q7 (p0:Int):List D := [ZB (fm2q6 p0)]
end
theorem hexb_ok (n:Int) (h:0 ≤ n∧n < 128):ACalls Tryz.prog 91 [.sl 1 0 (fun _ => []) .nil,.int .u64 n,.int .i64 16,.bool false,.bool false] ⟨[],[]⟩ (SpecR (sC [.sl 1 0 (fun _ => []) .nil,.int .u64 n,.int .i64 16,.bool false,.bool false] (.tup [.sl 1 0 (fun _ => []) .nil,.str (hexN n.toNat)])) ()) := by
  refine con_of (A := sC _ _) (x := ()) (E := Ehb) (eOk conTz_ok rfl) Tryz.func91 rfl (by kernel_rfl) rfl (by simp [sC,Ehb,EC,E0]) ?_
  refine vc_eq (T :=
    (SM false∧True)∧∀ (x:Nat),True→True∧(SM (16:Int)∧True)∧∀ (y:Unit),True→ifB (decide ((16:Int) ≤ n)) (side (Z0 ≤ andI IntKind.u64 n (15:Int)∧andI IntKind.u64 n (15:Int) < (36:Int)) (SM x∧ifB (decide ((16:Int) ≤ Int.fdiv n (16:Int))) (side (Z0 ≤ andI IntKind.u64 (Int.fdiv n (16:Int)) (15:Int)∧andI IntKind.u64 (Int.fdiv n (16:Int)) (15:Int) < (36:Int)) (SM x∧False)) (side (Z0 ≤ Int.fdiv n (16:Int)∧Int.fdiv n (16:Int) < (36:Int)) (SM x∧True∧SM x∧chk (List.all (fm2q3 n) byteB && decide (LN (List.take N2 (List.drop (63:Nat) (fm2q4 :: fm2q4 :: fm2q4 :: fm2q4 :: fm2q4 :: fm2q4 :: fm2q4 :: fm2q4 :: fm2q4 :: fm2q4 :: fm2q4 :: fm2q4 :: fm2q4 :: fm2q4 :: fm2q4 :: fm2q4 :: fm2q4 :: fm2q4 :: fm2q4 :: fm2q4 :: fm2q4 :: fm2q4 :: fm2q4 :: fm2q4 :: fm2q4 :: fm2q4 :: fm2q4 :: fm2q4 :: fm2q4 :: fm2q4 :: fm2q4 :: fm2q4 :: fm2q4 :: fm2q4 :: fm2q4 :: fm2q4 :: fm2q4 :: fm2q4 :: fm2q4 :: fm2q4 :: fm2q4 :: fm2q4 :: fm2q4 :: fm2q4 :: fm2q4 :: fm2q4 :: fm2q4 :: fm2q4 :: fm2q4 :: fm2q4 :: fm2q4 :: fm2q4 :: fm2q4 :: fm2q4 :: fm2q4 :: fm2q4 :: fm2q4 :: fm2q4 :: fm2q4 :: fm2q4 :: fm2q4 :: fm2q4 :: fm2q4 :: fm2q3 n))) = N2)) (True∧∃ (y:Unit),True∧(fm2q5∧[UInt8.ofNat (Int.toNat (fm2q1 n)),UInt8.ofNat (Int.toNat (fm2q2 n))] = hexN (Int.toNat n)∧True)∧True∧True))))) (side (Z0 ≤ n∧n < (36:Int)) (SM x∧True∧SM x∧chk (List.all (fm2q7 n) byteB && decide (LN (List.take N1 (List.drop (64:Nat) (fm2q4 :: fm2q4 :: fm2q4 :: fm2q4 :: fm2q4 :: fm2q4 :: fm2q4 :: fm2q4 :: fm2q4 :: fm2q4 :: fm2q4 :: fm2q4 :: fm2q4 :: fm2q4 :: fm2q4 :: fm2q4 :: fm2q4 :: fm2q4 :: fm2q4 :: fm2q4 :: fm2q4 :: fm2q4 :: fm2q4 :: fm2q4 :: fm2q4 :: fm2q4 :: fm2q4 :: fm2q4 :: fm2q4 :: fm2q4 :: fm2q4 :: fm2q4 :: fm2q4 :: fm2q4 :: fm2q4 :: fm2q4 :: fm2q4 :: fm2q4 :: fm2q4 :: fm2q4 :: fm2q4 :: fm2q4 :: fm2q4 :: fm2q4 :: fm2q4 :: fm2q4 :: fm2q4 :: fm2q4 :: fm2q4 :: fm2q4 :: fm2q4 :: fm2q4 :: fm2q4 :: fm2q4 :: fm2q4 :: fm2q4 :: fm2q4 :: fm2q4 :: fm2q4 :: fm2q4 :: fm2q4 :: fm2q4 :: fm2q4 :: fm2q4 :: fm2q7 n))) = N1)) (True∧∃ (y:Unit),True∧(fm2q5∧[UInt8.ofNat (Int.toNat (fm2q6 n))] = hexN (Int.toNat n)∧True)∧True∧True)))) (by kernel_rfl) ?_
  delta BI LN N0 N1 N2 SM U0 Z0 ZB fm2q0 fm2q1 fm2q2 fm2q3 fm2q4 fm2q5 fm2q6 fm2q7
  obtain ⟨m,rfl⟩:∃ m:Nat,n = m := ⟨n.toNat,by omega⟩
  have hm:m < 128 := by omega
  refine ⟨⟨rfl,trivial⟩,fun x _ => ⟨trivial,⟨rfl,trivial⟩,fun _ _ => ?_⟩⟩
  simp only [ifB_iff,side_iff,chk_iff,true_and,and_true,exists_const,decide_eq_true_eq,decide_eq_false_iff_not,Bool.and_eq_true,Int.toNat_natCast,and_false,implies_true]
  have ha:andI .u64 (m:Int) 15 = ((m % 16:Nat):Int) := by
    have h1:andI .u64 (m:Int) ((15:Nat):Int) = ((m &&& 15:Nat):Int) := andI_nat rfl (by simp only [IntKind.bits]; omega) (by simp only [IntKind.bits]; omega)
    rw [show ((15:Nat):Int) = 15 from rfl] at h1
    rw [h1,show (15:Nat) = 2 ^ 4 - 1 from rfl,Nat.and_two_pow_sub_one_eq_mod]
  have hf:(m:Int).fdiv 16 = ((m / 16:Nat):Int) := fdiv_nat m 16
  have hd:∀ k,k < 16→([48,49,50,51,52,53,54,55,56,57,97,98,99,100,101,102,103,104,105,106,107,108,109,110,111,112,113,114,115,116,117,118,119,120,121,122]:List UInt8).getD k 0 = digU k := by decide
  have hb:∀ b:UInt8,byteB (.int .u8 (b.toNat:Int)) = true := fun b => by
    have := b.toNat_lt
    simp only [byteB,Bool.and_eq_true,decide_eq_true_eq]; omega
  simp only [ha,hf,Int.toNat_natCast]
  refine ⟨fun h16 => ⟨by omega,by omega,fun _ => ⟨by omega,⟨?_,rfl⟩,?_⟩⟩,fun h16 => ⟨by omega,⟨?_,rfl⟩,?_⟩⟩
  · rw [hd _ (by omega),hd _ (by omega)]; simp only [List.all_cons,List.all_nil,hb]; rfl
  · rw [hd _ (by omega),hd _ (by omega)]; simp only [UInt8.ofNat_toNat]; unfold hexN; rw [if_neg (by omega)]
  · rw [hd _ (by omega)]; simp only [List.all_cons,List.all_nil,hb]; rfl
  · rw [hd _ (by omega)]; simp only [UInt8.ofNat_toNat]; unfold hexN; rw [if_pos (by omega)]
def conHb:Con := fun k ds S => match k with
  | 91 => match ds with
    | [_,.int .u64 n,_,_,_] => some (pC ds (.tup [.sl 1 0 (fun _ => []) .nil,.str (hexN n.toNat)]) (weakL ds [.sl 1 0 (fun _ => []) .nil,.int .u64 n,.int .i64 16,.bool false,.bool false]∧0 ≤ n∧n < 128))
    | _ => none
  | k => conNu k ds S
theorem conHb_ok:ConOk Tryz.prog conHb := by
  intro k ds S A h
  unfold conHb at h
  split at h
  · split at h
    · injection h with h; subst h
      exact pC_ok fun h1 => ⟨weakL_refl _,sC_weak h1.1 (hexb_ok _ h1.2)⟩
    · cases h
  · exact conNu_ok _ _ _ _ h
noncomputable def Ehx:Senv := EC conHb 8 2 [4] (fun _ => ([],[]))
theorem hex_ok (n:Int) (h:0 ≤ n∧n < 128):ACalls Tryz.prog 72 [.int .i64 n,.int .i64 16] ⟨[],[]⟩ (SpecR (sC [.int .i64 n,.int .i64 16] (.str (hexN n.toNat))) ()) := by
  refine con_of (A := sC _ _) (x := ()) (E := Ehx) (eOk conHb_ok rfl) Tryz.func72 rfl (by kernel_rfl) rfl (by simp [sC,Ehx,EC,E0]) ?_
  refine vc_eq (T :=
    (((SM N0∧(∀ (i:Nat),i < N0→eqOf (List D) [] [])∧True)∧SM (IntKind.wrap IntKind.u64 n)∧SM (16:Int)∧decide (n < Z0) = false∧SM false∧True)∧Z0 ≤ IntKind.wrap IntKind.u64 n∧IntKind.wrap IntKind.u64 n < (128:Int))∧∀ (y:Unit),True→True∧True∧∃ (y:Unit),True∧hexN (Int.toNat (IntKind.wrap IntKind.u64 n)) = hexN (Int.toNat n)∧True∧True) (by kernel_rfl) ?_
  delta N0 SM Z0
  have e:IntKind.u64.wrap n = n := by rw [IntKind.wrap_u64]; omega
  have e1:decide (n < 0) = false := by simp; omega
  simp only [e,e1]
  simpa using h
end Go.Proofs.YtfldjfpcefcjdaaGreatDoor
namespace Go.Proofs.YtfldjfpcefcjdaaGreatDoor
open Go Go.Ab
set_option maxRecDepth 100000
def conHx:Con := fun k ds _ => match k with
  | 72 => match ds with
    | [.int .i64 n,.int .i64 16] => some (pC [.int .i64 n,.int .i64 16] (.str (hexN n.toNat)) (0 ≤ n∧n < 128))
    | _ => none
  | _ => none
theorem conHx_ok:ConOk Tryz.prog conHx := by
  intro k ds S A h
  unfold conHx at h
  split at h
  · split at h
    · injection h with h; subst h
      exact pC_ok fun h1 => ⟨weakL_refl _,hex_ok _ h1⟩
    · cases h
  · cases h
theorem endW {l m e:List UInt8} (h:m = e):∀ y:Nat,∃ y1:Nat,((l ++ m).length = (l ++ e).length∧(∀ i,i < (l ++ m).length→[D.int .u8 (((l ++ m).getD i 0).toNat:Int)] = [D.int .u8 (((l ++ e).getD i 0).toNat:Int)])∧y = y1)∧y = y1 := by
  subst h
  exact fun y => ⟨y,⟨rfl,fun _ _ => rfl,rfl⟩,rfl⟩
theorem utf8_92:utf8 92 = [92] := by decide +kernel
noncomputable def Eshr:Senv := EC (conBl conHx) 51 3 [9,14,19,24,37] (fun _ => ([],[]))
noncomputable section
def tq1q0 (p0 p1:Nat) (p2:List UInt8):Prop := bFit [(N0,p0)] p1 p1 (65:Nat) (5:Nat) N0 p0 (LN p2) fun (i:Nat) => [ZB (BI p2 i)]
def tq1q1 (p0 p1:Nat) (p2:List UInt8):Prop := (tq1q0 p0 p1 p2∧LN p2 + N2 ≤ (140737488355328:Nat))∧True
def tq1q2 (p0:List UInt8):List UInt8 := bytesOf (LN p0) fun (i:Nat) => [ZB (BI p0 i)]
def tq1q3 (p0:List UInt8):List UInt8 := tq1q2 p0 ++ [(92:UInt8),(110:UInt8)]
def tq1q4 (p0:List UInt8):Nat := LN (tq1q3 p0)
def tq1q5 (p0:List UInt8) (p1 p2:Int):Nat := LN (p0 ++ escB p1 p2)
def tq1q6 (p0:List UInt8) (p1 p2:Int) (p3:Nat):List D := [ZB (BI (p0 ++ escB p1 p2) p3)]
def tq1q7 (p0:List UInt8):List UInt8 := tq1q2 p0 ++ [(92:UInt8),(116:UInt8)]
def tq1q8 (p0:List UInt8):Nat := LN (tq1q7 p0)
def tq1q9 (p0:List UInt8):List UInt8 := tq1q2 p0 ++ [(92:UInt8),(114:UInt8)]
def tq1q10 (p0:List UInt8):Nat := LN (tq1q9 p0)
def tq1q11 (p0:List UInt8):List UInt8 := tq1q2 p0 ++ utf8 (92:Int)
def tq1q12 (p0:List UInt8):Nat := LN (tq1q11 p0)
def tq1q13 (p0:List UInt8) (p1:Nat):List D := [ZB (BI (tq1q11 p0) p1)]
def tq1q14 (p0:Int):Prop := Z0 ≤ p0∧runeP (Int.toNat p0)
def tq1q15 (p0:List UInt8) (p1:Int):List UInt8 := (bytesOf (tq1q12 p0) fun (i:Nat) => tq1q13 p0 i) ++ utf8 p1
def tq1q16 (p0:List UInt8) (p1:Int):Nat := LN (tq1q15 p0 p1)
def tq1q17 (p0:Int):Bool := bif decide (p0 < (32:Int)) then true else p0 == (127:Int)
def tq1q18 (p0:Int):List UInt8 := hexN (Int.toNat (IntKind.wrap IntKind.i64 p0))
def tq1q19 (p0:Int):List UInt8 := List.append [] (tq1q18 p0)
def tq1q20 (p0:Int):List UInt8 := (92:UInt8) :: (117:UInt8) :: (123:UInt8) :: List.append (tq1q19 p0) [(125:UInt8)]
def tq1q21 (p0:List UInt8) (p1:Int):List UInt8 := tq1q2 p0 ++ tq1q20 p1
def tq1q22 (p0:List UInt8) (p1:Int):Nat := LN (tq1q21 p0 p1)
def tq1q23 (p0:List UInt8) (p1:Int):List UInt8 := tq1q2 p0 ++ utf8 p1
def tq1q24 (p0:List UInt8) (p1:Int):Nat := LN (tq1q23 p0 p1)
end
theorem short_ok (x t : Nat) (l : List UInt8) (c q : Int) (h0 : 0 ≤ c) (hc : runeP c.toNat) (hq : q = 34 ∨ q = 39) (hl : l.length + 6 ≤ 140737488355328) :
    ACalls Tryz.prog 59 ((sWs (escB c q) 5 x t l (.ret (.tup [])) [.int .i32 c,.int .i32 q]).args ()) ((sWs (escB c q) 5 x t l (.ret (.tup [])) [.int .i32 c,.int .i32 q]).st ()) (SpecR (sWs (escB c q) 5 x t l (.ret (.tup [])) [.int .i32 c,.int .i32 q]) ()) := by
  refine con_of (A := sWs (escB c q) 5 x t l (.ret (.tup [])) [.int .i32 c,.int .i32 q]) (x := ()) (E := Eshr) (eOk (conBl_ok conHx_ok) rfl) Tryz.func59 rfl (by kernel_rfl) rfl (by simp [sWs,Eshr,EC,E0]) ?_
  refine vc_eq (T :=
    ifB (c == (10:Int)) (tq1q1 t x l∧∀ (y:Nat),True→True∧∃ (y_1:Nat),True∧True∧(SM x∧(tq1q4 l = tq1q5 l c q∧(∀ (i:Nat),i < tq1q4 l→[ZB (BI (tq1q3 l) i)] = tq1q6 l c q i)∧y = y_1)∧True)∧y = y_1∧True) (ifB (c == (9:Int)) (tq1q1 t x l∧∀ (y:Nat),True→True∧∃ (y_1:Nat),True∧True∧(SM x∧(tq1q8 l = tq1q5 l c q∧(∀ (i:Nat),i < tq1q8 l→[ZB (BI (tq1q7 l) i)] = tq1q6 l c q i)∧y = y_1)∧True)∧y = y_1∧True) (ifB (c == (13:Int)) (tq1q1 t x l∧∀ (y:Nat),True→True∧∃ (y_1:Nat),True∧True∧(SM x∧(tq1q10 l = tq1q5 l c q∧(∀ (i:Nat),i < tq1q10 l→[ZB (BI (tq1q9 l) i)] = tq1q6 l c q i)∧y = y_1)∧True)∧y = y_1∧True) (ifB (c == (92:Int)) ((true = bif c == (92:Int) then true else c == q)∧True) (((c == q) = bif c == (92:Int) then true else c == q)∧True)∧ifB (bif c == (92:Int) then true else c == q) (((tq1q0 t x l∧(Z0 ≤ (92:Int)∧runeP (92:Nat))∧LN l + N4 ≤ (140737488355328:Nat))∧True)∧∀ (y:Nat),True→(((bFit [(N0,y)] x x (65:Nat) (5:Nat) N0 y (tq1q12 l) fun (i:Nat) => tq1q13 l i)∧tq1q14 c∧tq1q12 l + N4 ≤ (140737488355328:Nat))∧True)∧∀ (y:Nat),True→True∧∃ (y_1:Nat),True∧True∧(SM x∧(tq1q16 l c = tq1q5 l c q∧(∀ (i:Nat),i < tq1q16 l c→[ZB (BI (tq1q15 l c) i)] = tq1q6 l c q i)∧y = y_1)∧True)∧y = y_1∧True) (ifB (decide (c < (32:Int))) (true = tq1q17 c∧True) ((c == (127:Int)) = tq1q17 c∧True)∧ifB (tq1q17 c) ((Z0 ≤ IntKind.wrap IntKind.i64 c∧IntKind.wrap IntKind.i64 c < (128:Int))∧∀ (y:Unit),True→side ((3:Nat) + LN (tq1q18 c) ≤ (9223372036854775807:Nat)) (side (LN ((92:UInt8) :: (117:UInt8) :: (123:UInt8) :: tq1q19 c) + N1 ≤ (9223372036854775807:Nat)) (((tq1q0 t x l∧LN l + LN (tq1q20 c) ≤ (140737488355328:Nat))∧True)∧∀ (y:Nat),True→True∧∃ (y_1:Nat),True∧True∧(SM x∧(tq1q22 l c = tq1q5 l c q∧(∀ (i:Nat),i < tq1q22 l c→[ZB (BI (tq1q21 l c) i)] = tq1q6 l c q i)∧y = y_1)∧True)∧y = y_1∧True))) (((tq1q0 t x l∧tq1q14 c∧LN l + N4 ≤ (140737488355328:Nat))∧True)∧∀ (y:Nat),True→True∧∃ (y_1:Nat),True∧True∧(SM x∧(tq1q24 l c = tq1q5 l c q∧(∀ (i:Nat),i < tq1q24 l c→[ZB (BI (tq1q23 l c) i)] = tq1q6 l c q i)∧y = y_1)∧True)∧y = y_1∧True)))))) (by kernel_rfl) ?_
  delta BI LN N0 N1 N2 N4 SM U0 Z0 ZB tq1q0 tq1q1 tq1q10 tq1q11 tq1q12 tq1q13 tq1q14 tq1q15 tq1q16 tq1q17 tq1q18 tq1q19 tq1q2 tq1q20 tq1q21 tq1q22 tq1q23 tq1q24 tq1q3 tq1q4 tq1q5 tq1q6 tq1q7 tq1q8 tq1q9
  simp only [eq_self,ne_eq,ifB_iff,side_iff,decide_eq_true_eq,decide_eq_false_iff_not,true_and,and_true,beq_iff_eq,Bool.cond_true_left,Bool.or_eq_true,Bool.or_eq_false_iff,beq_eq_false_iff_ne,forall_const,bytesOf_bsl,bfit_ok]
  have hcn:c ≤ 1114111 := by unfold runeP at hc; omega
  have hw:IntKind.i64.wrap c = c := wrap_i64' (by omega) (by omega)
  have orT:∀ {P Q:Bool},P = true→true = (P || Q) := fun h => by rw [h]; rfl
  have orF:∀ {P Q:Bool},P = false→Q = (P || Q) := fun h => by rw [h]; rfl
  have l1 := utf8_len c
  have l2 := hexN_len c.toNat
  have l92:(utf8 92).length = 1 := by rw [utf8_92]; rfl
  have a1:∀ l:List UInt8,[].append l = l := fun _ => rfl
  have a2:∀ l r:List UInt8,l.append r = l ++ r := fun _ _ => rfl
  simp only [hw,a1,a2]
  refine ⟨fun h => ⟨by omega,endW ?_⟩,fun h1 => ⟨fun h => ⟨by omega,endW ?_⟩,fun h2 => ⟨fun h => ⟨by omega,endW ?_⟩,fun h3 => ⟨⟨fun h => orT (by simpa using h),fun h => orF (by simpa using h)⟩,fun h => ⟨⟨⟨by omega,Or.inl (by decide)⟩,by omega⟩,⟨⟨h0,hc⟩,by rw [List.length_append]; omega⟩,?_⟩,fun ⟨h4,h5⟩ => ⟨⟨fun h => orT (by simpa using h),fun h => orF (by simpa using h)⟩,fun h => ⟨by omega,by omega,by simp only [List.length_cons]; omega,by simp only [List.length_cons,List.length_append,List.length_nil]; omega,endW ?_⟩,fun ⟨h6,h7⟩ => ⟨⟨⟨h0,hc⟩,by omega⟩,endW ?_⟩⟩⟩⟩⟩⟩
  · unfold escB; rw [if_pos h]
  · unfold escB; rw [if_neg h1,if_pos h]
  · unfold escB; rw [if_neg h1,if_neg h2,if_pos h]
  · rw [List.append_assoc]
    refine endW ?_
    unfold escB; rw [if_neg h1,if_neg h2,if_neg h3,if_pos h,utf8_92]; rfl
  · unfold escB; rw [if_neg h1,if_neg h2,if_neg h3,if_neg (by omega),if_pos h]; rfl
  · unfold escB; rw [if_neg h1,if_neg h2,if_neg h3,if_neg (by omega),if_neg (by omega)]
end Go.Proofs.YtfldjfpcefcjdaaGreatDoor
namespace Go.Proofs.YtfldjfpcefcjdaaGreatDoor
open Go Go.Ab
set_option maxRecDepth 100000
def conSw (base:Con):Con := fun k ds S => match k with
  | 59 => match ds with
    | [.ref k x 0,.int .i32 c,.int .i32 q] => match getO S.objs k with
      | some (y,.bld T E (.sl 1 n g (.tok kt t))) => some ((sBw (escB c q) k kt x t (bytesOf n g) (.ret (.tup [])) [.int .i32 c,.int .i32 q]).fits () (bFit S.toks x y T E kt t n g∧((0 ≤ c∧runeP c.toNat)∧(q = 34∨q = 39))∧n + 6 ≤ 140737488355328))
      | _ => none
    | _ => none
  | k => conBl base k ds S
theorem conSw_ok {base:Con} (hb:ConOk Tryz.prog base):ConOk Tryz.prog (conSw base) := by
  intro k ds S A h
  unfold conSw at h
  split at h
  · split at h
    · split at h
      · rename_i k x c q _ y T E n g kt t hg
        injection h with h; subst h
        have key:∀ p:((0 ≤ c∧runeP c.toNat)∧(q = 34∨q = 39))∧n + 6 ≤ 140737488355328,ACalls Tryz.prog 59 ((sBw (escB c q) k kt x t (bytesOf n g) (.ret (.tup [])) [.int .i32 c,.int .i32 q]).args ()) ((sBw (escB c q) k kt x t (bytesOf n g) (.ret (.tup [])) [.int .i32 c,.int .i32 q]).st ()) (SpecR (sBw (escB c q) k kt x t (bytesOf n g) (.ret (.tup [])) [.int .i32 c,.int .i32 q]) ()) := fun p =>
          bw_of k kt x t (short_ok x t (bytesOf n g) c q p.1.1.1 p.1.1.2 p.1.2 (by simpa [bytesOf] using p.2))
        refine ⟨fun _ hy => key hy.1.2,fun _ _ hy => ?_,fun h => nomatch h⟩
        obtain ⟨⟨⟨h1,h2,h3,h4,h5⟩,_⟩,_⟩ := hy
        exact ⟨⟨by simp [weakD,chk],weakD_refl _,weakD_refl _,trivial⟩,chk_iff.2 ⟨rfl,leO_bld hg h1 h2 h3 h5,leT_tok h4⟩⟩
      · cases h
    · cases h
  · exact conBl_ok hb _ _ _ _ h
def rsl (l:List Nat) (m:Ab.Mode):D := .sl 1 l.length (fun i => [.int .i32 ((l.getD i 0:Nat):Int)]) m
def escN (q:Int) (l:List Nat):List UInt8 := l.flatMap fun c:Nat => escB (c:Int) q
def quoN (q:Int) (l:List Nat):List UInt8 := utf8 q ++ escN q l ++ utf8 q
theorem quoN_eq (q:Int) (l:List Nat):quoN q l = quoB q (l.map Int.ofNat) := by
  unfold quoN quoB escN escL
  rw [List.flatMap_map]
  rfl
theorem escN_len (q:Int):∀ l:List Nat,(escN q l).length ≤ 6 * l.length
  | [] => by simp [escN]
  | c :: l => by
    have h1 := escB_len (c:Int) q
    have h2 := escN_len q l
    simp only [escN,List.flatMap_cons,List.length_append,List.length_cons] at h2 ⊢
    omega
theorem escN_step {q:Int} {l:List Nat} {i:Nat} (h:i < l.length):escN q (l.take (i + 1)) = escN q (l.take i) ++ escB ((l.getD i 0:Nat):Int) q := by
  unfold escN
  have e:l.take (i + 1) = l.take i ++ [l.getD i 0] := by
    rw [List.take_add_one,List.getElem?_eq_getElem h,List.getD_eq_getElem?_getD,List.getElem?_eq_getElem h]; rfl
  rw [e,List.flatMap_append]
  simp only [List.flatMap_cons,List.flatMap_nil,List.append_nil]
noncomputable def Eqt (q:Int) (l:List Nat):Senv := { EC (conSw con0) 23 2 [4,5,7,10,11,12,13] (fun _ => ([],[])) with
  bd := fun t => match t with
    | 65 => some 5
    | _ => none
  ann := fun b _ S => match b with
    | 0 => some { slots := [12],keep := [0,1,5,10,11],α := Nat × Nat × List UInt8,st := fun y => ([.int .i64 y.1],⟨setO S.objs 0 (.bld 65 5 (bsl y.2.2 (.tok 0 y.2.1))),[(0,y.2.1)]⟩),inv := fun y => y.1 ≤ l.length∧y.2.2 = utf8 q ++ escN q (l.take y.1),mu := fun y => l.length - y.1 }
    | _ => none }
noncomputable section
def tq2q0 (p0:Int):Prop := Z0 ≤ p0∧runeP (Int.toNat p0)
def tq2q1 (p0:Int):List UInt8 := utf8 p0
def tq2q2 (p0:Nat) (p1:List Nat) (p2:List UInt8) (p3:Int):Prop := p0 ≤ LN p1∧p2 = tq2q1 p3 ++ escN p3 (List.take p0 p1)
def tq2q3 (p0:Int):List UInt8 := (bytesOf N0 fun (_x:Nat) => []) ++ tq2q1 p0
def tq2q4 (p0:Int):Nat := LN (tq2q3 p0)
def tq2q5 (p0:List UInt8) (p1:Nat):List D := [ZB (BI p0 p1)]
def tq2q6 (p0 p1:Nat) (p2:List UInt8):Prop := bFit [(N0,p0)] p1 p1 (65:Nat) (5:Nat) N0 p0 (LN p2) fun (i:Nat) => tq2q5 p2 i
def tq2q7 (p0:List Nat):D := D.sl N1 (LN p0) (fun (i:Nat) => [D.int IntKind.i32 (NI (List.getD p0 i N0))]) Mode.any
def tq2q8 (p0:List Nat):Prop := SM (tq2q7 p0)
def tq2q9 (p0:List UInt8):List UInt8 := bytesOf (LN p0) fun (i:Nat) => tq2q5 p0 i
def tq2q10 (p0:List UInt8) (p1:List Nat) (p2:Nat) (p3:Int):List UInt8 := tq2q9 p0 ++ escB (NI (List.getD p1 (Int.toNat (↑p2:Int)) N0)) p3
def tq2q11 (p0:List UInt8) (p1:List Nat) (p2:Nat) (p3:Int):Nat := LN (tq2q10 p0 p1 p2 p3)
def tq2q12 (p0:List UInt8) (p1:Int):List UInt8 := tq2q9 p0 ++ tq2q1 p1
def tq2q13 (p0:List UInt8) (p1:Int):Nat := LN (tq2q12 p0 p1)
def tq2q14 (p0:List UInt8) (p1:Int) (p2:Nat):List D := [ZB (BI (tq2q12 p0 p1) p2)]
end
theorem quoted_ok (q:Int) (l:List Nat) (hl:l.length ≤ 1099511627776) (hc:∀ c ∈ l,runeP c) (hq:q = 34∨q = 39):ACalls Tryz.prog 39 [rsl l .any,.int .i32 q] ⟨[],[]⟩ (SpecR (sC [rsl l .any,.int .i32 q] (.str (quoN q l))) ()) := by
  refine con_of (A := sC _ _) (x := ()) (E := Eqt q l) (eOk (conSw_ok con0_ok) rfl) Tryz.func39 rfl (by kernel_rfl) rfl (by simp [sC,Eqt,EC,E0]) ?_
  refine vc_eq (T :=
    ∀ (y t:Nat),True→(((bFit [(N0,t)] y y (65:Nat) (5:Nat) N0 t N0 fun (x:Nat) => [])∧tq2q0 q∧N4 ≤ (140737488355328:Nat))∧True)∧∀ (y_1:Nat),True→(∃ (x:Nat × Nat × List UInt8),tq2q2 x.1 l x.2.2 q∧(Z0 = (NI x.1)∧True)∧(SM y∧(tq2q4 q = LN x.2.2∧(∀ (i:Nat),i < tq2q4 q→[ZB (BI (tq2q3 q) i)] = tq2q5 x.2.2 i)∧y_1 = x.2.1)∧True)∧y_1 = x.2.1∧True)∧∀ (x:Nat × Nat × List UInt8),tq2q2 x.1 l x.2.2 q→ifB (decide ((NI x.1) < (LI l))) (side (Z0 ≤ (NI x.1)∧(NI x.1) < (LI l)) (((tq2q6 x.2.1 y x.2.2∧((Z0 ≤ (NI (List.getD l (TN x.1) N0))∧runeP (TN (List.getD l (TN x.1) N0)))∧(q = (34:Int)∨q = (39:Int)))∧LN x.2.2 + N6 ≤ (140737488355328:Nat))∧True)∧∀ (y_2:Nat),True→(tq2q8 l∧SM (D.int IntKind.i32 q)∧SM (D.ref N0 y N0)∧tq2q8 l∧SM (ZI (LI l))∧True)∧∃ (y_3:Nat × Nat × List UInt8),tq2q2 y_3.1 l y_3.2.2 q∧LN l - y_3.1 < LN l - x.1∧(IntKind.wrap IntKind.i64 ((NI x.1) + Z1) = (NI y_3.1)∧True)∧(SM y∧(tq2q11 x.2.2 l x.1 q = LN y_3.2.2∧(∀ (i:Nat),i < tq2q11 x.2.2 l x.1 q→[ZB (BI (tq2q10 x.2.2 l x.1 q) i)] = tq2q5 y_3.2.2 i)∧y_2 = y_3.2.1)∧True)∧y_2 = y_3.2.1∧True)) (((tq2q6 x.2.1 y x.2.2∧tq2q0 q∧LN x.2.2 + N4 ≤ (140737488355328:Nat))∧True)∧∀ (y_2:Nat),True→(((bFit [(N0,y_2)] y y (65:Nat) (5:Nat) N0 y_2 (tq2q13 x.2.2 q) fun (i:Nat) => tq2q14 x.2.2 q i)∧tq2q13 x.2.2 q ≤ (140737488355328:Nat))∧True)∧∀ (y:Unit),True→True∧∃ (y:Unit),True∧(bytesOf (tq2q13 x.2.2 q) fun (i:Nat) => tq2q14 x.2.2 q i) = quoN q l∧True∧True)) (by kernel_rfl) ?_
  delta BI LI LN N0 N1 N4 N6 NI SM TN U0 Z0 Z1 ZB ZI tq2q0 tq2q1 tq2q10 tq2q11 tq2q12 tq2q13 tq2q14 tq2q2 tq2q3 tq2q4 tq2q5 tq2q6 tq2q7 tq2q8 tq2q9
  simp only [eq_self,Int.toNat_natCast,ifB_iff,side_iff,decide_eq_true_eq,decide_eq_false_iff_not,true_and,and_true,exists_const,forall_const,bytesOf_bsl,bfit_ok]
  have hb:∀ t y:Nat,bFit [(0,t)] y y 65 5 0 t 0 (fun _ => []) := fun t y => ⟨rfl,rfl,rfl,rfl,rfl⟩
  have hq0:0 ≤ q∧runeP q.toNat := by rcases hq with rfl | rfl <;> exact ⟨by decide,Or.inl (by decide)⟩
  have b0:bytesOf 0 (fun _ => ([]:List D)) = [] := rfl
  have hu := utf8_len q
  intro y t
  refine ⟨⟨hb t y,hq0,by omega⟩,fun t1 => ⟨⟨(0,t1,utf8 q),⟨Nat.zero_le _,by simp [escN]⟩,rfl,⟨by rw [b0]; rfl,fun i _ => by rw [b0]; rfl,rfl⟩,rfl⟩,?_⟩⟩
  rintro ⟨i,t2,out⟩ ⟨i1,i2⟩
  simp only at i1 i2 ⊢
  have hlen:out.length ≤ 4 + 6 * l.length := by
    have := escN_len q (l.take i)
    rw [List.length_take] at this
    rw [i2,List.length_append]; omega
  refine ⟨fun hlt => ⟨by omega,⟨⟨⟨by omega,hc _ ?_⟩,hq⟩,by omega⟩,fun t3 => ⟨(i + 1,t3,out ++ escB ((l.getD i 0:Nat):Int) q),⟨by simp only; omega,?_⟩,by simp only; omega,wrap_i64' (by omega) (by omega),⟨rfl,fun _ _ => rfl,rfl⟩,rfl⟩⟩,fun hge => ⟨⟨hq0,by omega⟩,by rw [List.length_append]; omega,?_⟩⟩
  · have hi:i < l.length := by omega
    rw [List.getD_eq_getElem?_getD,List.getElem?_eq_getElem hi]
    exact List.getElem_mem hi
  · simp only
    rw [escN_step (by omega),i2,List.append_assoc]
  · rw [i2,List.take_of_length_le (by omega)]; rfl
end Go.Proofs.YtfldjfpcefcjdaaGreatDoor
namespace Go.Proofs.YtfldjfpcefcjdaaGreatDoor
open Go Go.Ab
set_option maxRecDepth 100000
theorem validD_eq:∀ (n:Nat) (r:List UInt8),Lib.validGoD n r = validF n r
  | 0,r => rfl
  | n + 1,r => by
    have hd:∀ r:List UInt8,Lib.decodeL r = decT r := fun r => by
      unfold Lib.decodeL
      rw [decode_drop,List.drop_zero]; rfl
    unfold Lib.validGoD validF
    rw [hd,validD_eq n]
    by_cases h:r = []
    · rw [if_pos h,if_pos h]
    · rw [if_neg h,if_neg h]
      by_cases h2:decT r = (65533,1)
      · rw [if_pos h2,if_pos (by rw [h2]; exact ⟨rfl,rfl⟩)]
      · rw [if_neg h2,if_neg (fun ⟨e1,e2⟩ => h2 (Prod.ext e1 e2))]
theorem vstr_ok (t:List UInt8) (h:t.length ≤ 140737488355328):ACalls Tryz.prog 40 [.str t] ⟨[],[]⟩ (SpecR (sC [.str t] (.bool (validL t))) ()) := by
  refine ACalls.of_shelf_g ⟨_,Tryz.func40,by kernel_rfl,by kernel_rfl⟩ fun C args w ha hG hb => ?_
  obtain ⟨u,e,hu⟩ := repL_one' ha
  have e2:args = [u].toArray := by rw [← e]
  subst e2
  simp only [Rep] at hu; subst hu
  have hT:Lib.Utf8Tabs 0 1 w := Utf8Tabs_below hG.2.2.2 hb
  have key := Tryz.utf8_ValidString ⟨t.toArray⟩ w (by simp only [ByteArray.size,List.size_toArray]; omega) hT
  have ev:Lib.validD t = validL t := validD_eq _ _
  exact key.mono fun e w' ⟨h1,h2⟩ => ⟨⟨_,h1,by simp [Rep,ev]⟩,h2⟩
theorem vrune_ok (c:Int):ACalls Tryz.prog 38 [.int .i32 c] ⟨[],[]⟩ (SpecR (sC [.int .i32 c] (.bool (Lib.validRune c))) ()) := by
  refine ACalls.of_shelf ⟨_,Tryz.func38,by kernel_rfl,by kernel_rfl⟩ fun C args w ha => ?_
  obtain ⟨u,e,hu⟩ := repL_one' ha
  have e2:args = [u].toArray := by rw [← e]
  subst e2
  simp only [Rep] at hu; subst hu
  exact (Tryz.utf8_ValidRune c w).mono fun e w' ⟨h1,h2⟩ => ⟨⟨_,h1,by simp [Rep]⟩,by subst h2; exact Go.RowKit.Below.refl _ _⟩
def rowN:List D→Nat
  | [.int .i32 z] => z.toNat
  | _ => 0
def rowNB:List D→Bool
  | [.int .i32 z] => decide (0 ≤ z)
  | _ => false
def rnsOf (n:Nat) (f:Nat→List D):List Nat := (List.range n).map fun i => rowN (f i)
def rnsB (n:Nat) (f:Nat→List D):Bool := (List.range n).all fun i => rowNB (f i)
theorem rsl_weak {n:Nat} {f:Nat→List D} {m:Ab.Mode} (h:rnsB n f = true):weakD (.sl 1 n f m) (rsl (rnsOf n f) .any) := by
  simp only [rsl,weakD,chk_iff]
  refine ⟨by simp,by simp [rnsOf],fun i hi => ?_,by cases m <;> simp [weakM]⟩
  have hb:rowNB (f i) = true := List.all_eq_true.1 h i (List.mem_range.2 hi)
  have hg:(rnsOf n f).getD i 0 = rowN (f i) := by simp [rnsOf,List.getD_eq_getElem?_getD,hi]
  rw [hg]
  unfold rowNB at hb
  split at hb
  · rename_i z hd
    rw [hd]
    have hb:0 ≤ z := by simpa using hb
    simp only [rowN]
    rw [show ((z.toNat:Nat):Int) = z by omega]
  · cases hb
theorem rnsOf_eq {n:Nat} {l:List Nat} {F:Nat→List D} (hn:n = l.length) (hF:∀ i,i < n→F i = [D.int .i32 ((l.getD i 0:Nat):Int)]):rnsOf n F = l := by
  subst hn
  apply List.ext_getElem
  · simp [rnsOf]
  · intro i h1 h2
    simp only [rnsOf,List.getElem_map,List.getElem_range,hF i h2,rowN,List.getD_eq_getElem?_getD,List.getElem?_eq_getElem h2,Option.getD_some,Int.toNat_natCast]
theorem rnsB_eq {n:Nat} {l:List Nat} {F:Nat→List D} (hn:n = l.length) (hF:∀ i,i < n→F i = [D.int .i32 ((l.getD i 0:Nat):Int)]):rnsB n F = true := by
  subst hn
  simp only [rnsB,List.all_eq_true,List.mem_range]
  intro i hi
  rw [hF i hi]
  simp [rowNB]
def runesOk (l:List Nat):Bool := l.all fun c => Utf8.valid (c:Int)
theorem runesOk_mem {l:List Nat} (h:runesOk l = true):∀ c ∈ l,runeP c := fun c hc => runeP_valid.1 (List.all_eq_true.1 h c hc)
def conTx (base:Con):Con := fun k ds S => match k with
  | 39 => match ds with
    | [.sl 1 n f m,.int .i32 q] => some (pC [.sl 1 n f m,.int .i32 q] (.str (quoN q (rnsOf n f))) (rnsB n f = true∧runesOk (rnsOf n f) = true∧(q = 34∨q = 39)∧n ≤ 1099511627776))
    | _ => none
  | 40 => match ds with
    | [.str t] => some (pC [.str t] (.bool (validL t)) (t.length ≤ 140737488355328))
    | _ => none
  | 38 => match ds with
    | [.int .i32 c] => some (pC [.int .i32 c] (.bool (Lib.validRune c)) True)
    | _ => none
  | k => base k ds S
theorem conTx_ok {base:Con} (hb:ConOk Tryz.prog base):ConOk Tryz.prog (conTx base) := by
  intro k ds S A h
  unfold conTx at h
  split at h
  · split at h
    · injection h with h; subst h
      exact pC_ok fun ⟨h1,h2,h3,h4⟩ => ⟨weakL_refl _,sC_weak (us := [rsl (rnsOf _ _) .any,_]) ⟨rsl_weak h1,weakD_refl _,trivial⟩ (quoted_ok _ _ (by simpa [rnsOf] using h4) (runesOk_mem h2) h3)⟩
    · cases h
  · split at h
    · injection h with h; subst h
      exact pC_ok fun h => ⟨weakL_refl _,vstr_ok _ h⟩
    · cases h
  · split at h
    · injection h with h; subst h
      exact pC_ok fun _ => ⟨weakL_refl _,vrune_ok _⟩
    · cases h
  · exact hb _ _ _ _ h
theorem runesN_eq:∀ (n:Nat) (r:List UInt8),runesN n r = runesF n r
  | 0,r => rfl
  | n + 1,r => by
    simp only [runesN,runesF]
    rw [runesN_eq n]
    rfl
theorem runesF_len:∀ (n:Nat) (r:List UInt8),(runesF n r).length ≤ n
  | 0,r => Nat.le_refl _
  | n + 1,r => by
    by_cases h:r = []
    · subst h; rw [runesF_nil]; exact Nat.zero_le _
    · rw [runesF_step h,List.length_cons]
      have := runesF_len n (r.drop (decT r).2)
      omega
theorem runesF_ok:∀ (n:Nat) (r:List UInt8),validF n r = true→runesOk (runesF n r) = true
  | 0,r,_ => rfl
  | n + 1,r,hv => by
    by_cases h:r = []
    · subst h; rw [runesF_nil]; rfl
    · rw [validF_step h] at hv
      rw [runesF_step h]
      by_cases h2:decT r = (65533,1)
      · rw [if_pos h2] at hv; cases hv
      · rw [if_neg h2] at hv
        have h3 := runesF_ok n _ hv
        unfold runesOk at h3 ⊢
        rw [List.all_cons,h3,runeP_valid.2 (dec_rune h2)]; rfl
noncomputable def Etx:Senv := EC (conTx conNu) 51 3 [4,5,7,9,11,13,15,19,36,44] (fun _ => ([],[]))
noncomputable section
def tq3q0 (p0:Int):Bool := bif decide ((-4611686018427387903:Int) ≤ p0) then decide (p0 ≤ (4611686018427387903:Int)) else false
def tq3q1 (p0 p1 p2 p3:Int) (p4:List UInt8):List UInt8 := showTok (Tok.mk p0 p1 p2 p3 p4)
def tq3q2 (p0 p1 p2 p3:Int) (p4:List UInt8):Prop := True∧∃ (_y:Unit),True∧eqOf (List UInt8) [] (tq3q1 p0 p1 p2 p3 p4)∧True∧True
def tq3q3 (p0:Int):List Nat := rnsOf N1 fun (i:Nat) => List.getD [[D.int IntKind.i32 (IntKind.wrap IntKind.i32 p0)]] i []
def tq3q4 (p0:List UInt8):List Nat := rnsOf (LN (runesU p0)) fun (i:Nat) => [D.int IntKind.i32 (NI (List.getD (runesU p0) i N0))]
def tq3q5 (p0:Nat) (p1:List UInt8) (p2 p3 p4 p5:Int):Prop := SM p0∧True∧∃ (_y:Unit),True∧p1 = tq3q1 p2 p3 p4 p5 p1∧True∧True
end
theorem text_ok (t:Tok) (hn:inI64 t.num) (hl:t.text.length ≤ 1099511627776):ACalls Tryz.prog 16 [.agg t.row] ⟨[],[]⟩ (SpecR (sC [.agg t.row] (.str (showTok t))) ()) := by
  obtain ⟨kd,at_,len,num,text⟩ := t
  refine con_of (A := sC _ _) (x := ()) (E := Etx) (eOk (conTx_ok conNu_ok) rfl) Tryz.func16 rfl (by kernel_rfl) rfl (by simp [sC,Etx,EC,E0]) ?_
  refine vc_eq (T :=
    ∀ (x:Nat),True→SM x∧ifB (kd == Z1) (SM x∧ifB (decide ((-4611686018427387903:Int) ≤ num)) (decide (num ≤ (4611686018427387903:Int)) = tq3q0 num∧True) (false = tq3q0 num∧True)∧True∧ifB (tq3q0 num) (SM x∧inI64 num∧∀ (y:Unit),True→True∧∃ (y:Unit),True∧showI num = tq3q1 kd at_ len num text∧True∧True) (tq3q2 kd at_ len num text)) (ifB (kd == (2:Int)) (SM x∧ifB (decide (Z0 ≤ num)) (SM x∧ifB (decide (num ≤ (1114111:Int))) (SM x∧True∧∀ (y:Unit),True→ifB (Lib.validRune (IntKind.wrap IntKind.i32 num)) (SM x∧((rnsB N1 fun (i:Nat) => List.getD [[D.int IntKind.i32 (IntKind.wrap IntKind.i32 num)]] i []) = true∧runesOk (tq3q3 num) = true∧((39:Int) = (34:Int)∨SM (39:Int))∧N1 ≤ (1099511627776:Nat))∧∀ (y:Unit),True→True∧∃ (y:Unit),True∧quoN (39:Int) (tq3q3 num) = tq3q1 kd at_ len num text∧True∧True) (tq3q2 kd at_ len num text)) (tq3q2 kd at_ len num text)) (tq3q2 kd at_ len num text)) (ifB (kd == (3:Int)) (SM x∧LN text ≤ (140737488355328:Nat)∧∀ (y:Unit),True→ifB (validL text) (SM x∧side (LN (runesU text) ≤ (70368744177664:Nat)) (∀ (t:Nat),((rnsB (LN (runesU text)) fun (i:Nat) => [D.int IntKind.i32 (NI (List.getD (runesU text) i N0))]) = true∧runesOk (tq3q4 text) = true∧(SM (34:Int)∨(34:Int) = (39:Int))∧LN (runesU text) ≤ (1099511627776:Nat))∧∀ (y:Unit),True→True∧∃ (y:Unit),True∧quoN (34:Int) (tq3q4 text) = tq3q1 kd at_ len num text∧True∧True)) (tq3q2 kd at_ len num text)) (ifB (kd == (4:Int)) (tq3q5 x text kd at_ len num) (ifB (kd == (5:Int)) (tq3q5 x text kd at_ len num) (ifB (kd == (6:Int)) (True∧∃ (y:Unit),True∧[(59:UInt8)] = tq3q1 kd at_ len num text∧True∧True) (tq3q2 kd at_ len num text))))))) (by kernel_rfl) ?_
  delta LN N0 N1 NI SM Z0 Z1 tq3q0 tq3q1 tq3q2 tq3q3 tq3q4 tq3q5
  simp only [eq_self,ne_eq,ifB_iff,side_iff,decide_eq_true_eq,decide_eq_false_iff_not,true_and,and_true,beq_iff_eq,Bool.cond_false_right,Bool.and_eq_true,Bool.and_eq_false_iff,beq_eq_false_iff_ne,exists_const,forall_const]
  have hn:inI64 num := hn
  have hl:text.length ≤ 1099511627776 := hl
  unfold inI64 at hn
  have hru:runesU text = runesL text := runesN_eq _ _
  have hrl:(runesL text).length ≤ text.length := runesF_len _ _
  have e3:rnsOf (runesL text).length (fun i => [D.int .i32 (((runesL text).getD i 0:Nat):Int)]) = runesL text := rnsOf_eq rfl fun _ _ => rfl
  have b3:rnsB (runesL text).length (fun i => [D.int .i32 (((runesL text).getD i 0:Nat):Int)]) = true := rnsB_eq (l := runesL text) rfl fun _ _ => rfl
  rw [hru,e3,b3]
  have em:∀ {l:List UInt8},l = []→eqOf (List UInt8) [] l := fun h => h.symm
  have sh:showTok { kind := kd,at_ := at_,len := len,num := num,text := text } = (if kd = 1 then (if num.natAbs ≤ maxNum then showI num else [])
    else if kd = 2 then (if 0 ≤ num∧Utf8.valid num = true then quoB 39 [num] else [])
    else if kd = 3 then (if validL text = true then quoB 34 ((runesL text).map Int.ofNat) else [])
    else if kd = 4∨kd = 5 then text else if kd = 6 then [59] else []) := rfl
  rw [sh]
  have mx:maxNum = 4611686018427387903 := rfl
  refine ⟨fun h => ⟨⟨fun h => dec_and1 h,fun h => dec_and0 h⟩,fun h2 => ⟨hn,?_⟩,fun h2 => em ?_⟩,fun n1 => ⟨fun h => ⟨fun h0 => ⟨fun h1 => ?_,fun h1 => em ?_⟩,fun h0 => em ?_⟩,fun n2 => ⟨fun h => ⟨by omega,fun hv => ⟨by omega,⟨⟨rfl,runesF_ok _ _ hv,.inl trivial,by omega⟩,?_⟩⟩,fun hv => em ?_⟩,fun n3 => ⟨fun h => ?_,fun n4 => ⟨fun h => ?_,fun n5 => ⟨fun h => ?_,fun n6 => em ?_⟩⟩⟩⟩⟩⟩
  · rw [if_pos h,if_pos (by omega)]
  · rw [if_pos h,if_neg (by omega)]
  · have hw:IntKind.i32.wrap num = num := Go.Ab.wrap_small (k := .i32) rfl (by simp only [IntKind.bits]; omega) (by simp only [IntKind.bits]; omega)
    rw [hw]
    obtain ⟨c,rfl⟩:∃ c:Nat,num = c := ⟨num.toNat,by omega⟩
    have hvv:Lib.validRune (c:Int) = true↔Utf8.valid (c:Int) = true := by
      rw [runeP_valid]
      unfold Lib.validRune runeP
      rw [decide_eq_true_eq]; omega
    have e1:rnsOf 1 (fun i => [[D.int .i32 (c:Int)]].getD i []) = [c] := rnsOf_eq (l := [c]) rfl fun i hi => by
      obtain rfl:i = 0 := by omega
      rfl
    have b1:rnsB 1 (fun i => [[D.int .i32 (c:Int)]].getD i []) = true := rnsB_eq (l := [c]) rfl fun i hi => by
      obtain rfl:i = 0 := by omega
      rfl
    rw [e1,b1,if_neg n1,if_pos h]
    refine ⟨fun hv => ⟨⟨rfl,?_,.inr trivial,by omega⟩,?_⟩,fun hv => em ?_⟩
    · unfold runesOk; rw [List.all_cons,hvv.1 hv]; rfl
    · rw [if_pos ⟨h0,hvv.1 hv⟩,quoN_eq]; rfl
    · rw [if_neg (fun hc => by rw [hvv.2 hc.2] at hv; exact Bool.noConfusion hv)]
  · rw [if_neg n1,if_pos h,if_neg (fun hc => ?_)]
    obtain ⟨c,rfl⟩:∃ c:Nat,num = c := ⟨num.toNat,by omega⟩
    have := runeP_valid.1 hc.2
    unfold runeP at this
    omega
  · rw [if_neg n1,if_pos h,if_neg (fun hc => h0 hc.1)]
  · rw [if_neg n1,if_neg n2,if_pos h,if_pos hv,quoN_eq]
  · rw [if_neg n1,if_neg n2,if_pos h,if_neg (by rw [hv]; decide)]
  · rw [if_neg n1,if_neg n2,if_neg n3,if_pos (.inl h)]
  · rw [if_neg n1,if_neg n2,if_neg n3,if_pos (.inr h)]
  · rw [if_neg n1,if_neg n2,if_neg n3,if_neg (by omega),if_pos h]
  · rw [if_neg n1,if_neg n2,if_neg n3,if_neg (by omega),if_neg n6]
end Go.Proofs.YtfldjfpcefcjdaaGreatDoor
namespace Go.Proofs.YtfldjfpcefcjdaaGreatDoor
open Go Go.Ab
set_option maxRecDepth 100000
def conPu:Con := fun k ds _ => match k with
  | 94 => match ds with
    | [.str t,.int .i64 16,.int .i64 32] => some (pC [.str t,.int .i64 16,.int .i64 32] (.tup [.int .u64 (hxV t 0:Nat),.nili]) (t.all hexB = true∧1 ≤ t.length∧t.length ≤ 6))
    | _ => none
  | _ => none
theorem conPu_ok:ConOk Tryz.prog conPu := by
  intro k ds S A h
  unfold conPu at h
  split at h
  · split at h
    · injection h with h; subst h
      exact pC_ok fun ⟨h1,h2,h3⟩ => ⟨weakL_refl _,pu_ok _ h1 h2 h3⟩
    · cases h
  · cases h
noncomputable def Epi:Senv := EC conPu 25 3 [6,7,8,17] (fun _ => ([],[]))
noncomputable section
def tw7q0 (p0:List UInt8):List UInt8 := List.drop N1 (List.take (TL p0) p0)
def tw7q1 (p0:List UInt8):Prop := List.all (tw7q0 p0) hexB = true∧N1 ≤ LN (tw7q0 p0)∧LN (tw7q0 p0) ≤ N6
def tw7q2:Prop := SM false∧True
def tw7q3 (p0:List UInt8):Int := (NI (hxV (tw7q0 p0) N0))
def tw7q4 (p0:List UInt8):Bool := decide ((2147483648:Int) ≤ tw7q3 p0)
def tw7q5 (p0:List UInt8):Int := IntKind.wrap IntKind.i64 (tw7q3 p0)
def tw7q6 (p0:List UInt8):Int := (NI (hxV p0 N0))
def tw7q7 (p0:List UInt8):Bool := decide ((2147483648:Int) < tw7q3 p0)
def tw7q8 (p0:List UInt8):Bool := decide ((2147483648:Int) ≤ tw7q6 p0)
end
theorem pi_ok (ds:List UInt8) (hd:ds.all hexB = true) (h1:1 ≤ ds.length) (h6:ds.length ≤ 6):ACalls Tryz.prog 80 [.str ds,.int .i64 16,.int .i64 32] ⟨[],[]⟩ (SpecR (sC [.str ds,.int .i64 16,.int .i64 32] (.tup [.int .i64 (hxV ds 0:Nat),.nili])) ()) := by
  refine con_of (A := sC _ _) (x := ()) (E := Epi) (eOk conPu_ok rfl) Tryz.func80 rfl (by kernel_rfl) rfl (by simp [sC,Epi,EC,E0]) ?_
  refine vc_eq (T :=
    ifB (ds == []) (True∧False) (side (Z0 ≤ Z0∧Z0 < (LI ds)) (ifB ((BI ds N0) == (43:Int)) (side (Z0 ≤ Z1∧Z1 ≤ (LI ds)∧(LI ds) ≤ (LI ds)) (tw7q1 ds∧∀ (y:Unit),True→tw7q2∧(SM (tw7q4 ds)∧True)∧ifB (tw7q4 ds) (True∧False) (tw7q2∧True∧True∧∃ (y:Unit),True∧(tw7q5 ds = tw7q6 ds∧True∧True)∧True∧True))) (ifB ((BI ds N0) == (45:Int)) (side (Z0 ≤ Z1∧Z1 ≤ (LI ds)∧(LI ds) ≤ (LI ds)) (tw7q1 ds∧∀ (y:Unit),True→tw7q2∧tw7q2∧(SM (tw7q7 ds)∧True)∧ifB (tw7q7 ds) (True∧False) (True∧True∧∃ (y:Unit),True∧(IntKind.wrap IntKind.i64 (Z0 - tw7q5 ds) = tw7q6 ds∧True∧True)∧True∧True))) ((List.all ds hexB = true∧N1 ≤ LN ds∧LN ds ≤ N6)∧∀ (y:Unit),True→tw7q2∧(SM (tw7q8 ds)∧True)∧ifB (tw7q8 ds) (True∧False) (tw7q2∧True∧True∧∃ (y:Unit),True∧(IntKind.wrap IntKind.i64 (tw7q6 ds) = tw7q6 ds∧True∧True)∧True∧True)))))) (by kernel_rfl) ?_
  delta BI LI LN N0 N1 N6 NI SM TL U0 Z0 Z1 tw7q0 tw7q1 tw7q2 tw7q3 tw7q4 tw7q5 tw7q6 tw7q7 tw7q8
  simp only [eq_self,ne_eq,Int.toNat_natCast,ifB_iff,side_iff,decide_eq_true_eq,decide_eq_false_iff_not,true_and,and_true,beq_iff_eq,beq_eq_false_iff_ne,exists_const,forall_const]
  have hne:¬ ds = [] := fun e => by rw [e] at h1; exact absurd h1 (by decide)
  have hb := (hexB_iff (ds.getD 0 0)).1 (List.all_eq_true.1 hd _ (by rw [List.getD_eq_getElem?_getD,List.getElem?_eq_getElem (show 0 < ds.length by omega)]; exact List.getElem_mem _))
  have hs := hx_small h6
  refine ⟨fun h => hne h,fun _ => ⟨⟨by omega,by omega⟩,fun h => by omega,fun _ => ⟨fun h => by omega,fun _ => ⟨⟨hd,h1,h6⟩,fun h => by omega,fun _ => wrap_i64' (by omega) (by omega)⟩⟩⟩⟩
end Go.Proofs.YtfldjfpcefcjdaaGreatDoor
namespace Go.Proofs.YtfldjfpcefcjdaaGreatDoor
open Go Go.Ab
set_option maxRecDepth 100000
def sStQ {α:Type} (args:List D) (S:St) (d:α→D) (q:α→Prop) (p:Prop):FnSpec where
  β := Unit
  α := α
  args := fun _ => args
  st := fun _ => S
  pre := fun _ => p
  post := fun _ y => q y
  res := fun _ y => .ret (d y)
  out := fun _ _ => S
def codD (z:Int × Int × Bool):D := .tup [.int .i32 z.1,.int .i64 z.2.1,.bool z.2.2]
def codQ (a:Nat) (r:Option (Nat × Nat)) (z:Int × Int × Bool):Prop := (r = none→z.2.2 = false)∧∀ c w,r = some (c,w)→z = ((c:Int),((a + w:Nat):Int),true)
def conCd (x:Nat) (s:List UInt8) (p:Int) (l:D):Con := fun k ds S => match k with
  | 80 => match ds with
    | [.str t,.int .i64 16,.int .i64 32] => some (pC [.str t,.int .i64 16,.int .i64 32] (.tup [.int .i64 (hxV t 0:Nat),.nili]) (t.all hexB = true∧1 ≤ t.length∧t.length ≤ 6))
    | _ => none
  | k => conNb x s p l k ds S
theorem conCd_ok (x:Nat) (s:List UInt8) (p:Int) (l:D):ConOk Tryz.prog (conCd x s p l) := by
  intro k ds S A h
  unfold conCd at h
  split at h
  · split at h
    · injection h with h; subst h
      exact pC_ok fun ⟨h1,h2,h3⟩ => ⟨weakL_refl _,pi_ok _ h1 h2 h3⟩
    · cases h
  · exact conNb_ok x s p l _ _ _ _ h
theorem code_at {s:List UInt8} {a:Nat}:codeT (s.drop a) = if s.getD a 0 = 123 then
      (if 1 ≤ ((s.drop (a + 1)).takeWhile hexB).length∧((s.drop (a + 1)).takeWhile hexB).length ≤ 6∧s.getD (runT hexB s (a + 1)) 0 = 125∧Utf8.valid (hxV ((s.drop (a + 1)).takeWhile hexB) 0) = true
       then some (hxV ((s.drop (a + 1)).takeWhile hexB) 0,((s.drop (a + 1)).takeWhile hexB).length + 2) else none) else none := by
  have e0:(s.drop a).getD 0 0 = s.getD a 0 := by simp [List.getD_eq_getElem?_getD]
  unfold codeT
  rw [e0]
  simp only [List.drop_drop]
  have e1:(s.drop (a + (1 + ((s.drop (a + 1)).takeWhile hexB).length))).getD 0 0 = s.getD (runT hexB s (a + 1)) 0 := by
    unfold runT
    rw [← Nat.add_assoc]
    simp [List.getD_eq_getElem?_getD]
  rw [e1]
theorem valid_iff (c:Nat):Utf8.valid (c:Int) = true↔c < 55296∨(57343 < c∧c ≤ 1114111) := by
  unfold Utf8.valid
  simp
  omega
noncomputable def Ecd (x:Nat) (s:List UInt8) (p:Int) (l:D):Senv := EC (conCd x s p l) 77 2 [4,5,6,7,8,9,25,57] (fun _ => ([],[]))
noncomputable section
def tw8q0 (p0:List UInt8) (p1:Nat):Bool := bif decide ((LI p0) ≤ (↑p1:Int)) then true else (BI p0 (Int.toNat (↑p1:Int))) != (123:Int)
def tw8q1 (p0:Nat) (p1:List UInt8) (p2:Int × Int × Bool):Prop := codQ p0 (codeT (List.drop p0 p1)) p2
def tw8q2 (p0:Nat) (p1:List UInt8) (p2:Nat) (p3:D):Prop := (SM p0∧(SM p1∧SM (↑p2:Int)∧weakD p3 p3∧True)∧True)∧True
def tw8q3 (p0:Nat) (p1:List UInt8) (p2 p3:Nat) (p4:D):Prop := True∧∃ (y:Int × Int × Bool),tw8q1 p0 p1 y∧(Z0 = y.1∧Z0 = y.2.1∧false = y.2.2∧True)∧tw8q2 p2 p1 p3 p4
def tw8q4 (p0:Nat):Int := IntKind.wrap IntKind.i64 ((↑p0:Int) + Z1)
def tw8q5 (p0:List UInt8) (p1:Nat):Int := (NI (runT hexB p0 (Int.toNat (tw8q4 p1))))
def tw8q6 (p0:List UInt8) (p1:Nat):Bool := tw8q5 p0 p1 == tw8q4 p1
def tw8q7 (p0:Nat) (p1:List UInt8):Bool := decide (IntKind.wrap IntKind.i64 ((↑p0:Int) + (7:Int)) < tw8q5 p1 p0)
def tw8q8 (p0:List UInt8) (p1:Nat):Bool := decide ((LI p0) ≤ tw8q5 p0 p1)
def tw8q9 (p0:List UInt8) (p1:Nat):Nat := Int.toNat (tw8q5 p0 p1)
def tw8q10 (p0:List UInt8) (p1:Nat):Bool := (BI p0 (tw8q9 p0 p1)) != (125:Int)
def tw8q11 (p0:List UInt8) (p1:Nat):Bool := bif bif bif tw8q6 p0 p1 then true else tw8q7 p1 p0 then true else tw8q8 p0 p1 then true else tw8q10 p0 p1
def tw8q12 (p0:List UInt8) (p1:Nat):Prop := true = tw8q11 p0 p1∧True
def tw8q13 (p0:Nat) (p1:List UInt8):List UInt8 := List.drop (Int.toNat (tw8q4 p0)) (List.take (tw8q9 p1 p0) p1)
def tw8q14 (p0:Nat) (p1:List UInt8):Nat := LN (tw8q13 p0 p1)
def tw8q15 (p0:Nat) (p1:List UInt8):Int := IntKind.wrap IntKind.i32 (NI (hxV (tw8q13 p0 p1) N0))
def tw8q16 (p0:Nat) (p1:List UInt8):Bool := decide (Z0 ≤ tw8q15 p0 p1)
def tw8q17 (p0:Nat) (p1:List UInt8):Bool := decide (tw8q15 p0 p1 < (55296:Int))
def tw8q18 (p0:Nat) (p1:List UInt8):Bool := bif tw8q16 p0 p1 then tw8q17 p0 p1 else false
def tw8q19 (p0:Nat) (p1:List UInt8) (p2:Int):Prop := tw8q15 p0 p1 = p2
def tw8q20 (p0:List UInt8) (p1:Nat) (p2:Int):Prop := IntKind.wrap IntKind.i64 (tw8q5 p0 p1 + Z1) = p2
def tw8q21 (p0:Nat) (p1:List UInt8) (p2 p3:Nat) (p4:D):Prop := True∧True∧∃ (y:Int × Int × Bool),tw8q1 p0 p1 y∧(tw8q19 p0 p1 y.1∧tw8q20 p1 p0 y.2.1∧true = y.2.2∧True)∧tw8q2 p2 p1 p3 p4
def tw8q22 (p0:Nat) (p1:List UInt8):Bool := decide ((57343:Int) < tw8q15 p0 p1)
def tw8q23 (p0:Nat) (p1:List UInt8):Bool := decide (tw8q15 p0 p1 ≤ (1114111:Int))
def tw8q24 (p0:Nat) (p1:List UInt8):Bool := bif tw8q22 p0 p1 then tw8q23 p0 p1 else false
end
theorem code_ok (x : Nat) (s : List UInt8) (p : Nat) (l : D) (a : Nat) (ha : a ≤ s.length) (hs : s.length ≤ 4294967296) :
    ACalls Tryz.prog 67 [.ref 0 x 0,.int .i64 a] (scS x s p l) (SpecR (sStQ [.ref 0 x 0,.int .i64 a] (scS x s p l) codD (codQ a (codeT (s.drop a))) True) ()) := by
  refine con_of (A := sStQ _ _ _ _ _) (x := ()) (E := Ecd x s p l) (eOk (conCd_ok x s p l) rfl) Tryz.func67 rfl (by kernel_rfl) rfl (by simp [sStQ,Ecd,EC,E0]) ?_
  refine vc_eq (T :=
    (SM x∧ifB (decide ((LI s) ≤ (↑a:Int))) (true = tw8q0 s a∧True) (SM x∧side (Z0 ≤ (↑a:Int)∧(↑a:Int) < (LI s)) (((BI s (Int.toNat (↑a:Int))) != (123:Int)) = tw8q0 s a∧True)))∧ifB (tw8q0 s a) (tw8q3 a s x p l) (∃ (x_1:Unit),(SM x∧SM (tw8q4 a)∧SM (D.fn (Fn.func (79:Nat)) [] [])∧True)∧tw8q2 x s p l∧(Z0 ≤ tw8q4 a∧tw8q4 a ≤ (LI s)∧LN s ≤ (140737488351232:Nat))∧∀ (y:Unit),True→ifB (tw8q6 s a) (tw8q12 s a) (ifB (tw8q7 a s) (tw8q12 s a) (SM x∧ifB (tw8q8 s a) (tw8q12 s a) (SM x∧side (Z0 ≤ tw8q5 s a∧tw8q5 s a < (LI s)) (tw8q10 s a = tw8q11 s a∧True))))∧ifB (tw8q11 s a) (tw8q3 a s x p l) (SM x∧side (Z0 ≤ tw8q4 a∧tw8q4 a ≤ tw8q5 s a∧tw8q5 s a ≤ (LI s)) ((List.all (tw8q13 a s) hexB = true∧N1 ≤ tw8q14 a s∧tw8q14 a s ≤ N6)∧∀ (y:Unit),True→ifB (tw8q16 a s) (tw8q17 a s = tw8q18 a s∧True) (false = tw8q18 a s∧True)∧ifB (tw8q18 a s) (tw8q21 a s x p l) (ifB (tw8q22 a s) (tw8q23 a s = tw8q24 a s∧True) (false = tw8q24 a s∧True)∧ifB (tw8q24 a s) (tw8q21 a s x p l) (True∧True∧∃ (y:Int × Int × Bool),tw8q1 a s y∧(tw8q19 a s y.1∧tw8q20 s a y.2.1∧false = y.2.2∧True)∧tw8q2 x s p l)))))) (by kernel_rfl) ?_
  delta BI LI LN N0 N1 N6 NI SM U0 Z0 Z1 tw8q0 tw8q1 tw8q10 tw8q11 tw8q12 tw8q13 tw8q14 tw8q15 tw8q16 tw8q17 tw8q18 tw8q19 tw8q2 tw8q20 tw8q21 tw8q22 tw8q23 tw8q24 tw8q3 tw8q4 tw8q5 tw8q6 tw8q7 tw8q8 tw8q9
  simp only [eq_self,ne_eq,weakD_refl,Int.toNat_natCast,ifB_iff,side_iff,decide_eq_true_eq,decide_eq_false_iff_not,true_and,and_true,beq_iff_eq,Bool.cond_false_right,Bool.cond_true_left,Bool.and_eq_true,Bool.and_eq_false_iff,Bool.or_eq_true,Bool.or_eq_false_iff,beq_eq_false_iff_ne,exists_const,forall_const]
  have h123:∀ b:UInt8,(((b.toNat:Int)) != 123) = (b != 123) := fun b => by
    by_cases hb:b = 123
    · rw [hb]; rfl
    · have h1:(b != 123) = true := by simpa using hb
      rw [h1]
      simpa using fun e => hb (b_eq (n := 123) e (by decide))
  have h125:∀ b:UInt8,(((b.toNat:Int)) != 125) = (b != 125) := fun b => by
    by_cases hb:b = 125
    · rw [hb]; rfl
    · have h1:(b != 125) = true := by simpa using hb
      rw [h1]
      simpa using fun e => hb (b_eq (n := 125) e (by decide))
  rw [code_at]
  simp only [h123,h125]
  have fail:∀ r:Option (Nat × Nat),r = none→∃ y:Int × Int × Bool,codQ a r y∧0 = y.1∧0 = y.2.1∧false = y.2.2 := fun r hr => ⟨(0,0,false),⟨fun _ => rfl,fun c w h => by rw [hr] at h; cases h⟩,rfl,rfl,rfl⟩
  refine ⟨⟨fun h => by rw [decide_eq_true h]; rfl,fun h => ⟨⟨by omega,by omega⟩,by rw [decide_eq_false h]; rfl⟩⟩,fun h => fail _ ?_,fun ⟨hlt,hb⟩ => ?_⟩
  · refine if_neg fun e => ?_
    rcases h with h | h
    · rw [gd_ge (by omega)] at e; exact absurd e (by decide)
    · rw [e] at h; exact absurd h (by decide)
  · have hb:s.getD a 0 = 123 := by simpa using hb
    rw [if_pos hb]
    have w1:IntKind.i64.wrap ((a:Int) + 1) = ((a + 1:Nat):Int) := by rw [wrap_i64' (by omega) (by omega)]; rfl
    have w7:IntKind.i64.wrap ((a:Int) + 7) = ((a + 7:Nat):Int) := by rw [wrap_i64' (by omega) (by omega)]; rfl
    rw [w1,w7]
    simp only [Int.toNat_natCast,take_run]
    have hall:((s.drop (a + 1)).takeWhile hexB).all hexB = true := List.all_eq_true.2 fun b hb => tw_all hexB _ b hb
    have hR:runT hexB s (a + 1) = a + 1 + ((s.drop (a + 1)).takeWhile hexB).length := rfl
    have hRl := (runT_le (q := hexB) (s := s) (a := a + 1) (by omega)).2
    have or1:∀ {p q r t:Bool},p = true→true = (p || q || r || t) := fun h => by rw [h]; rfl
    have or2:∀ {p q r t:Bool},q = true→true = (p || q || r || t) := fun {p q r t} h => by rw [h]; cases p <;> rfl
    have or3:∀ {p q r t:Bool},r = true→true = (p || q || r || t) := fun {p q r t} h => by rw [h]; cases p <;> cases q <;> rfl
    have or4:∀ {p q r t:Bool},p = false→q = false→r = false→t = (p || q || r || t) := fun h1 h2 h3 => by rw [h1,h2,h3]; rfl
    refine ⟨⟨by omega,by omega,by omega⟩,⟨fun h => or1 (by simpa using h),fun h1 => ⟨fun h => or2 (by simpa using h),fun h2 => ⟨fun h => or3 (by simpa using h),fun h3 => ⟨⟨by omega,by omega⟩,or4 (by simpa using h1) (by simpa using h2) (by simpa using h3)⟩⟩⟩⟩,fun h => ?_,fun h => ?_⟩
    · refine fail _ (if_neg fun he => ?_)
      obtain ⟨e1,e2,e3,_⟩ := he
      rcases h with ((h | h) | h) | h
      · omega
      · omega
      · rw [gd_ge (by omega)] at e3; exact absurd e3 (by decide)
      · rw [e3] at h; exact absurd h (by decide)
    · obtain ⟨⟨⟨h1,h2⟩,h3⟩,h4⟩ := h
      have h4:s.getD (runT hexB s (a + 1)) 0 = 125 := by simpa using h4
      have hn := hx_small (l := ((s.drop (a + 1)).takeWhile hexB)) (by omega)
      have v1:IntKind.i32.wrap ((hxV ((s.drop (a + 1)).takeWhile hexB) 0:Nat):Int) = ((hxV ((s.drop (a + 1)).takeWhile hexB) 0:Nat):Int) := Go.Ab.wrap_small (k := .i32) rfl (by simp only [IntKind.bits]; omega) (by simp only [IntKind.bits]; omega)
      have w:IntKind.i64.wrap (((runT hexB s (a + 1)):Int) + 1) = ((a + (((s.drop (a + 1)).takeWhile hexB).length + 2):Nat):Int) := by rw [wrap_i64' (by omega) (by omega)]; omega
      refine ⟨⟨by omega,by omega,by omega⟩,⟨hall,by omega,by omega⟩,?_⟩
      rw [v1,w]
      have k1:1 ≤ ((s.drop (a + 1)).takeWhile hexB).length := by omega
      have k6:((s.drop (a + 1)).takeWhile hexB).length ≤ 6 := by omega
      revert hn k1 k6 h4
      generalize runT hexB s (a + 1) = R
      generalize hxV ((s.drop (a + 1)).takeWhile hexB) 0 = c
      generalize ((s.drop (a + 1)).takeWhile hexB).length = n
      intro h4 hn k1 k6
      have good:Utf8.valid (c:Int) = true→∃ y:Int × Int × Bool,codQ a (if 1 ≤ n∧n ≤ 6∧s.getD R 0 = 125∧Utf8.valid (c:Int) = true then some (c,n + 2) else none) y∧(c:Int) = y.1∧((a + (n + 2):Nat):Int) = y.2.1∧true = y.2.2 := fun hv => by
        rw [if_pos ⟨k1,k6,h4,hv⟩]
        exact ⟨((c:Int),((a + (n + 2):Nat):Int),true),⟨fun h => (by cases h),fun c' w' h => by
          have h := Option.some.inj h
          have e1:c = c' := congrArg Prod.fst h
          have e2:n + 2 = w' := congrArg Prod.snd h
          rw [← e1,← e2]⟩,rfl,rfl,rfl⟩
      have bad:Utf8.valid (c:Int) = false→∃ y:Int × Int × Bool,codQ a (if 1 ≤ n∧n ≤ 6∧s.getD R 0 = 125∧Utf8.valid (c:Int) = true then some (c,n + 2) else none) y∧(c:Int) = y.1∧((a + (n + 2):Nat):Int) = y.2.1∧false = y.2.2 := fun hv => by
        rw [if_neg (fun h => by rw [hv] at h; exact absurd h.2.2.2 (by decide))]
        exact ⟨((c:Int),((a + (n + 2):Nat):Int),false),⟨fun _ => rfl,fun c' w' h => by cases h⟩,rfl,rfl,rfl⟩
      have hval := valid_iff c
      have hnv:¬ (c < 55296∨(57343 < c∧c ≤ 1114111))→Utf8.valid (c:Int) = false := fun h => by
        cases hv:Utf8.valid (c:Int) with
        | false => rfl
        | true => exact (h (hval.1 hv)).elim
      refine ⟨⟨fun h => dec_and1 h,fun h => dec_and0 h⟩,fun h => good (hval.2 (by omega)),fun h => ⟨⟨fun h => dec_and1 h,fun h => dec_and0 h⟩,fun h' => good (hval.2 (by omega)),fun h' => bad (hnv (by omega))⟩⟩
end Go.Proofs.YtfldjfpcefcjdaaGreatDoor
namespace Go.Proofs.YtfldjfpcefcjdaaGreatDoor
open Go Go.Ab
set_option maxRecDepth 100000
theorem low_ok (t:List UInt8) (ht:t.all (fun b => decide (b.toNat < 128)) = true) (hl:t.length ≤ 140737488355328):ACalls Tryz.prog 48 [.str t] ⟨[],[]⟩ (SpecR (sC [.str t] (.str (Lib.toLowerA t))) ()) := by
  refine ACalls.of_shelf ⟨_,Tryz.func48,by kernel_rfl,by kernel_rfl⟩ fun C args w ha => ?_
  obtain ⟨u,e,hu⟩ := repL_one' ha
  have e2:args = [u].toArray := by rw [← e]
  subst e2
  simp only [Rep] at hu; subst hu
  have key := Tryz.strings_ToLower_ascii ⟨t.toArray⟩ w (by simpa [ByteArray.size] using hl) fun j b hj => by
    have hj:t[j]? = some b := by simpa using hj
    have := List.all_eq_true.1 ht b (List.mem_of_getElem? hj)
    simpa using this
  exact key.mono fun e w' ⟨h1,h2⟩ => ⟨⟨_,h1,by simp [Rep]⟩,h2⟩
theorem lower_same (w:List UInt8):(Lib.toLowerA w == w) = !w.any upp := by
  have hb:∀ b:UInt8,(Lib.lowerB b == b) = !upp b := by
    intro b
    have:∀ n:Fin 256,(Lib.lowerB (UInt8.ofNat n.val) == UInt8.ofNat n.val) = !upp (UInt8.ofNat n.val) := by decide +kernel
    have h := this ⟨b.toNat,b.toNat_lt⟩
    simpa using h
  unfold Lib.toLowerA
  induction w with
  | nil => rfl
  | cons b w ih =>
    simp only [List.map_cons,List.any_cons,Bool.not_or]
    rw [← ih,← hb b]
    rfl
def conWd (x:Nat) (s:List UInt8) (p:Int) (l:D):Con := fun k ds S => match k with
  | 10 => match ds with
    | [.str t] => some (pC [.str t] (.bool (resB t)) True)
    | _ => none
  | 48 => match ds with
    | [.str t] => some (pC [.str t] (.str (Lib.toLowerA t)) (t.all (fun b => decide (b.toNat < 128)) = true∧t.length ≤ 140737488355328))
    | _ => none
  | k => conCd x s p l k ds S
theorem conWd_ok (x:Nat) (s:List UInt8) (p:Int) (l:D):ConOk Tryz.prog (conWd x s p l) := by
  intro k ds S A h
  unfold conWd at h
  split at h
  · split at h
    · injection h with h; subst h
      exact pC_ok fun _ => ⟨weakL_refl _,res_ok _⟩
    · cases h
  · split at h
    · injection h with h; subst h
      exact pC_ok fun ⟨h1,h2⟩ => ⟨weakL_refl _,low_ok _ h1 h2⟩
    · cases h
  · exact conCd_ok x s p l _ _ _ _ h
noncomputable def Ewd (x:Nat) (s:List UInt8) (p:Int) (l:D):Senv := EC (conWd x s p l) 44 1 [2,3,4,5,22,29,35] (fun id => match id with | 2 => ([0,1,2,3,4,5,6,7,8,9,10],[]) | _ => ([],[]))
noncomputable section
def tw9q0 (p0:Nat) (p1:List UInt8) (p2:Nat) (p3:D):Prop := (SM p0∧(SM p1∧SM (↑p2:Int)∧weakD p3 p3∧True)∧True)∧True
def tw9q1 (p0:List UInt8) (p1:Nat):Int := (NI (runT aln p0 (Int.toNat (↑p1:Int))))
def tw9q2 (p0:Nat) (p1:List UInt8):List UInt8 := List.drop (Int.toNat (↑p0:Int)) (List.take (Int.toNat (tw9q1 p1 p0)) p1)
def tw9q3 (p0:Nat) (p1:List UInt8):Nat := LN (tw9q2 p0 p1)
def tw9q4 (p0:Nat) (p1:List UInt8):Int := (NI (tw9q3 p0 p1))
def tw9q5 (p0:Nat) (p1:List UInt8):List D := [ZI Z0,ZI (tw9q4 p0 p1),ZI Z0,D.str (tw9q2 p0 p1)]
def tw9q6 (p0:Nat) (p1:List UInt8):D := lexD (wordT (List.drop p0 p1))
def tw9q7:D := D.agg [ZI Z0,ZI Z0,ZI Z0,ZI Z0,D.str []]
end
theorem word_ok (x : Nat) (s : List UInt8) (p : Nat) (l : D) (hp : p < s.length) (hs : s.length ≤ 4294967296) :
    ACalls Tryz.prog 26 [.ref 0 x 0] (scS x s p l) (SpecR (sSt [.ref 0 x 0] (scS x s p l) (lexD (wordT (s.drop p)))) ()) := by
  refine con_of (A := sSt _ _ _) (x := ()) (E := Ewd x s p l) (eOk (conWd_ok x s p l) rfl) Tryz.func26 rfl (by kernel_rfl) rfl (by simp [sSt,Ewd,EC,E0]) ?_
  refine vc_eq (T :=
    ∀ (x_1:Nat),x ≠ x_1∧True→SM x∧∃ (x_2:Unit),(SM x∧SM (↑p:Int)∧SM (D.fn (Fn.func (47:Nat)) [] [])∧True)∧tw9q0 x s p l∧(Z0 ≤ (↑p:Int)∧(↑p:Int) ≤ (LI s)∧LN s ≤ (140737488351232:Nat))∧∀ (y:Unit),True→SM x∧SM x∧side (Z0 ≤ (↑p:Int)∧(↑p:Int) ≤ tw9q1 s p∧tw9q1 s p ≤ (LI s)) (True∧∀ (y:Unit),True→ifB (resB (tw9q2 p s)) (SM x_1∧(SM x_1∧True)∧∃ (y:Unit),True∧weakD (D.tup [D.agg (ZI (5:Int) :: tw9q5 p s),ZI Z0]) (tw9q6 p s)∧tw9q0 x s p l) (((List.all (tw9q2 p s) fun (b:UInt8) => decide (UInt8.toNat b < (128:Nat))) = true∧tw9q3 p s ≤ (140737488355328:Nat))∧∀ (y:Unit),True→ifB (Lib.toLowerA (tw9q2 p s) != tw9q2 p s) (SM x_1∧(SM x_1∧True)∧∃ (y:Unit),True∧weakD (D.tup [tw9q7,ZI (6:Int)]) (tw9q6 p s)∧tw9q0 x s p l) (ifB (decide ((32:Int) < tw9q4 p s)) (SM x_1∧(SM x_1∧True)∧∃ (y:Unit),True∧weakD (D.tup [tw9q7,ZI (9:Int)]) (tw9q6 p s)∧tw9q0 x s p l) (SM x_1∧(SM x_1∧True)∧∃ (y:Unit),True∧weakD (D.tup [D.agg (ZI (4:Int) :: tw9q5 p s),ZI Z0]) (tw9q6 p s)∧tw9q0 x s p l))))) (by kernel_rfl) ?_
  delta LI LN NI SM Z0 ZI tw9q0 tw9q1 tw9q2 tw9q3 tw9q4 tw9q5 tw9q6 tw9q7
  simp only [eq_self,ne_eq,weakD_refl,Int.toNat_natCast,ifB_iff,side_iff,decide_eq_true_eq,decide_eq_false_iff_not,true_and,and_true,exists_const,forall_const]
  simp only [take_run]
  have hR := runT_le (q := aln) (s := s) (a := p) (by omega)
  have hl:((s.drop p).takeWhile aln).length ≤ s.length := by
    have := tw_len aln (s.drop p)
    rw [List.length_drop] at this; omega
  have ha:((s.drop p).takeWhile aln).all (fun b => decide (b.toNat < 128)) = true := List.all_eq_true.2 fun b hb => by
    have := (aln_iff b).1 (tw_all aln _ b hb)
    rw [decide_eq_true_eq]; omega
  have hlow:(Lib.toLowerA ((s.drop p).takeWhile aln) != (s.drop p).takeWhile aln) = ((s.drop p).takeWhile aln).any upp := by
    unfold bne
    rw [lower_same,Bool.not_not]
  rw [hlow]
  unfold wordT
  revert hl ha
  generalize (s.drop p).takeWhile aln = w
  intro hl ha x1 _
  simp only
  refine ⟨⟨by omega,by omega,by omega⟩,⟨by omega,by omega,by omega⟩,fun h => ?_,fun h => ⟨⟨ha,by omega⟩,fun h1 => ?_,fun h1 => ⟨fun h2 => ?_,fun h2 => ?_⟩⟩⟩
  · rw [if_pos h]; exact weakD_refl _
  · rw [if_neg (by rw [h]; decide),if_pos h1]; exact weakD_refl _
  · rw [if_neg (by rw [h]; decide),if_neg (by rw [h1]; decide),if_pos (by omega)]; exact weakD_refl _
  · rw [if_neg (by rw [h]; decide),if_neg (by rw [h1]; decide),if_neg (by omega)]; exact weakD_refl _
end Go.Proofs.YtfldjfpcefcjdaaGreatDoor
namespace Go.Proofs.YtfldjfpcefcjdaaGreatDoor
open Go Go.Ab
set_option maxRecDepth 100000
theorem decGo (t:List UInt8) (h:t ≠ []):Lib.decodeGo ⟨t.toArray⟩ = decT t := by
  have hl:0 < t.length := List.length_pos_iff.2 h
  have hs:((⟨t.toArray⟩:ByteArray)).size = t.length := by simp [ByteArray.size]
  unfold Lib.decodeGo
  rw [if_neg (by omega),decode_drop,List.drop_zero]
  rfl
theorem dru_ok (t:List UInt8) (ht:t ≠ []):ACalls Tryz.prog 66 [.str t] ⟨[],[]⟩ (SpecR (sC [.str t] (.tup [.int .i32 ((decT t).1:Nat),.int .i64 ((decT t).2:Nat)])) ()) := by
  refine ACalls.of_shelf_g ⟨_,Tryz.func66,by kernel_rfl,by kernel_rfl⟩ fun C args w ha hG hb => ?_
  obtain ⟨u,e,hu⟩ := repL_one' ha
  have e2:args = [u].toArray := by rw [← e]
  subst e2
  simp only [Rep] at hu; subst hu
  have hT:Lib.Utf8Tabs 0 1 w := Utf8Tabs_below hG.2.2.2 hb
  have key := Tryz.utf8_DecodeRuneInString ⟨t.toArray⟩ w hT
  rw [decGo t ht] at key
  exact key.mono fun e w' ⟨h1,h2⟩ => ⟨⟨_,h1,by simp [Rep,RepL]⟩,h2⟩
def conRd (x:Nat) (s:List UInt8) (p:Int) (l:D):Con := fun k ds S => match k with
  | 66 => match ds with
    | [.str t] => some (pC [.str t] (.tup [.int .i32 ((decT t).1:Nat),.int .i64 ((decT t).2:Nat)]) (t ≠ []))
    | _ => none
  | 67 => match ds with
    | [_,.int .i64 a] => some (sStQ [.ref 0 x 0,.int .i64 a] (scS x s p l) codD (codQ a.toNat (codeT (s.drop a.toNat))) (0 ≤ a∧a ≤ s.length∧s.length ≤ 4294967296∧0 ≤ p))
    | _ => none
  | k => conWd x s p l k ds S
theorem sStQ_ok {α:Type} {k:Nat} {args:List D} {S:St} {d:α→D} {q:α→Prop} {p:Prop} (h:p→ACalls Tryz.prog k args S (SpecR (sStQ args S d q True) ())):∀ x:Unit,p→ACalls Tryz.prog k args S (SpecR (sStQ args S d q p) x) :=
  fun _ hp => (h hp).mono fun _ _ ⟨y,q1,q2,q3⟩ => ⟨y,q1,q2,q3⟩
theorem conRd_ok (x:Nat) (s:List UInt8) (p:Int) (l:D):ConOk Tryz.prog (conRd x s p l) := by
  have nn:∀ {a:Int},0 ≤ a→((a.toNat:Nat):Int) = a := fun h => by omega
  intro k ds S A h
  unfold conRd at h
  split at h
  · split at h
    · injection h with h; subst h
      exact pC_ok fun h => ⟨weakL_refl _,dru_ok _ h⟩
    · cases h
  · split at h
    · injection h with h; subst h
      refine ConOk.plain (sStQ_ok fun ⟨h1,h2,h3,h4⟩ => ?_) rfl rfl
      have := code_ok x s p.toNat l _ (Int.toNat_le.2 h2) h3
      rw [nn h1,nn h4] at this
      exact this
    · cases h
  · exact conWd_ok x s p l _ _ _ _ h
theorem dec_lo {r:List UInt8} (_h:r ≠ []):((r.getD 0 0).toNat < 32→(decT r).1 < 32)∧(¬ (r.getD 0 0).toNat < 32→32 ≤ (decT r).1) := by
  unfold decT Lib.decodeN
  constructor
  · intro h1
    rw [if_pos (by omega)]
    exact h1
  · intro h1
    repeat' split
    all_goals (simp only; omega)
theorem let_plain {r:List UInt8} (h92:r.getD 0 0 ≠ 92) (h:r ≠ []):(letT r = none∧(decide (32 ≤ ((decT r).1:Int)) && (((decT r).1:Int) != 65533 || decide (1 < ((decT r).2:Int)))) = false)∨(letT r = some (decT r)∧(decide (32 ≤ ((decT r).1:Int)) && (((decT r).1:Int) != 65533 || decide (1 < ((decT r).2:Int)))) = true) := by
  obtain ⟨l1,l2⟩ := dec_lo h
  obtain ⟨l3,_⟩ := dec_len h
  unfold letT
  rw [if_neg h92]
  by_cases h1:(r.getD 0 0).toNat < 32
  · have := l1 h1
    rw [if_pos h1]
    refine .inl ⟨rfl,?_⟩
    rw [decide_eq_false (by omega)]; rfl
  · have := l2 h1
    rw [if_neg h1,decide_eq_true (show 32 ≤ ((decT r).1:Int) by omega),Bool.true_and]
    by_cases h2:decT r = (65533,1)
    · rw [if_pos h2,h2]
      exact .inl ⟨rfl,by decide⟩
    · rw [if_neg h2]
      refine .inr ⟨rfl,?_⟩
      by_cases h3:(decT r).1 = 65533
      · have h4:(decT r).2 ≠ 1 := fun e => h2 (Prod.ext h3 e)
        rw [decide_eq_true (show 1 < ((decT r).2:Int) by omega),Bool.or_true]
      · have:(((decT r).1:Int) != 65533) = true := by
          rw [bne_iff_ne]; omega
        rw [this]; rfl
def escC (s:List UInt8) (a:Nat) (c:UInt8):Option (Nat × Nat) := if c = 110 then some (10,2) else if c = 116 then some (9,2) else if c = 114 then some (13,2)
  else if c = 92∨c = 39∨c = 34 then some (c.toNat,2)
  else if c = 117 then (codeT (s.drop (a + 2))).map fun x => (x.1,x.2 + 2)
  else none
theorem let_escC {s:List UInt8} {a:Nat} (h:s.getD a 0 = 92):letT (s.drop a) = escC s a (s.getD (a + 1) 0) := by
  have e0:(s.drop a).getD 0 0 = s.getD a 0 := by simp [List.getD_eq_getElem?_getD]
  have e1:(s.drop a).getD 1 0 = s.getD (a + 1) 0 := by simp [List.getD_eq_getElem?_getD]
  unfold letT
  rw [e0,if_pos h]
  unfold escT escC
  rw [e1,List.drop_drop]
noncomputable def Erd2 (x:Nat) (s:List UInt8) (p:Int) (l:D):Senv := EC (conRd x s p l) 80 2 [4,5,6,7,8,9,16,48,57,58,60,62,64,68] (fun _ => ([],[]))
noncomputable section
def tv1q0 (p0:Nat) (p1:List UInt8):Nat × Nat := decT (List.drop (Int.toNat (↑p0:Int)) (List.take (TL p1) p1))
def tv1q1 (p0:Nat) (p1:List UInt8):Int := (NI (Prod.fst (tv1q0 p0 p1)))
def tv1q2 (p0:Nat) (p1:List UInt8):Bool := decide ((32:Int) ≤ tv1q1 p0 p1)
def tv1q3 (p0:Nat) (p1:List UInt8):Bool := tv1q1 p0 p1 != (65533:Int)
def tv1q4 (p0:Nat) (p1:List UInt8):Prop := SM (tv1q1 p0 p1)
def tv1q5 (p0:Nat) (p1:List UInt8):Int := (NI (Prod.snd (tv1q0 p0 p1)))
def tv1q6 (p0:Nat) (p1:List UInt8):Int := IntKind.wrap IntKind.i64 ((↑p0:Int) + tv1q5 p0 p1)
def tv1q7 (p0:Nat) (p1:List UInt8):Prop := SM (tv1q6 p0 p1)
def tv1q8 (p0:Nat) (p1:List UInt8):Bool := decide (Z1 < tv1q5 p0 p1)
def tv1q9 (p0:Nat) (p1:List UInt8):Bool := bif tv1q2 p0 p1 then bif tv1q3 p0 p1 then true else tv1q8 p0 p1 else false
def tv1q10 (p0:Nat) (p1:List UInt8) (p2:Int × Int × Bool):Prop := codQ p0 (letT (List.drop p0 p1)) p2
def tv1q11 (p0:Nat) (p1:List UInt8) (p2:Nat) (p3:D):Prop := (SM p0∧(SM p1∧SM (↑p2:Int)∧weakD p3 p3∧True)∧True)∧True
def tv1q12 (p0:Nat):Int := IntKind.wrap IntKind.i64 ((↑p0:Int) + Z1)
def tv1q13 (p0:Nat) (p1:List UInt8) (p2 p3:Nat) (p4:D):Prop := True∧∃ (y:Int × Int × Bool),tv1q10 p0 p1 y∧(Z0 = y.1∧Z0 = y.2.1∧false = y.2.2∧True)∧tv1q11 p2 p1 p3 p4
def tv1q14 (p0:List UInt8) (p1:Nat):Int := IntKind.wrap IntKind.i32 (BI p0 (Int.toNat (tv1q12 p1)))
def tv1q15 (p0:Nat):Int := IntKind.wrap IntKind.i64 ((↑p0:Int) + (2:Int))
def tv1q16 (p0:Nat) (p1:Int) (p2:Bool):Prop := tv1q15 p0 = p1∧true = p2∧True
def tv1q17 (p0:List UInt8) (p1:Nat):Bool := tv1q14 p0 p1 == (92:Int)
def tv1q18 (p0:Nat) (p1:List UInt8) (p2 p3:Nat) (p4:D):Prop := True∧∃ (y:Int × Int × Bool),tv1q10 p0 p1 y∧(tv1q14 p1 p0 = y.1∧tv1q16 p0 y.2.1 y.2.2)∧tv1q11 p2 p1 p3 p4
def tv1q19 (p0:List UInt8) (p1 p2 p3:Nat) (p4:D):Prop := ifB (tv1q14 p0 p1 == (117:Int)) (∃ (_x:Unit),(SM p2∧SM (tv1q15 p1)∧True)∧tv1q11 p2 p0 p3 p4∧(Z0 ≤ tv1q15 p1∧tv1q15 p1 ≤ (LI p0)∧LN p0 ≤ (4294967296:Nat)∧Z0 ≤ (↑p3:Int))∧∀ (y:Int × Int × Bool),codQ (Int.toNat (tv1q15 p1)) (codeT (List.drop (Int.toNat (tv1q15 p1)) p0)) y→True∧∃ (y_1:Int × Int × Bool),tv1q10 p1 p0 y_1∧(y.1 = y_1.1∧y.2.1 = y_1.2.1∧y.2.2 = y_1.2.2∧True)∧tv1q11 p2 p0 p3 p4) (tv1q13 p1 p0 p2 p3 p4)
def tv1q20 (p0:List UInt8) (p1:Nat):Bool := tv1q14 p0 p1 == (39:Int)
end
theorem read_char (x : Nat) (s : List UInt8) (p : Nat) (l : D) (a : Nat) (ha : a < s.length) (hs : s.length ≤ 4294967296) :
    ACalls Tryz.prog 49 [.ref 0 x 0,.int .i64 a] (scS x s p l) (SpecR (sStQ [.ref 0 x 0,.int .i64 a] (scS x s p l) codD (codQ a (letT (s.drop a))) True) ()) := by
  refine con_of (A := sStQ _ _ _ _ _) (x := ()) (E := Erd2 x s p l) (eOk (conRd_ok x s p l) rfl) Tryz.func49 rfl (by kernel_rfl) rfl (by simp [sStQ,Erd2,EC,E0]) ?_
  refine vc_eq (T :=
    SM x∧side (Z0 ≤ (↑a:Int)∧(↑a:Int) < (LI s)) (ifB ((BI s (Int.toNat (↑a:Int))) != (92:Int)) (SM x∧side (Z0 ≤ (↑a:Int)∧(↑a:Int) ≤ (LI s)∧(LI s) ≤ (LI s)) (List.drop (Int.toNat (↑a:Int)) (List.take (TL s) s) ≠ []∧∀ (y:Unit),True→ifB (tv1q2 a s) (ifB (tv1q3 a s) (tv1q4 a s∧tv1q7 a s∧true = tv1q9 a s∧True) (tv1q4 a s∧tv1q7 a s∧tv1q8 a s = tv1q9 a s∧True)) (tv1q4 a s∧tv1q7 a s∧false = tv1q9 a s∧True)∧True∧∃ (y:Int × Int × Bool),tv1q10 a s y∧(tv1q1 a s = y.1∧tv1q6 a s = y.2.1∧tv1q9 a s = y.2.2∧True)∧tv1q11 x s p l)) (SM x∧ifB (decide ((LI s) ≤ tv1q12 a)) (tv1q13 a s x p l) (SM x∧side (Z0 ≤ tv1q12 a∧tv1q12 a < (LI s)) (ifB (tv1q14 s a == (110:Int)) (True∧∃ (y:Int × Int × Bool),tv1q10 a s y∧((10:Int) = y.1∧tv1q16 a y.2.1 y.2.2)∧tv1q11 x s p l) (ifB (tv1q14 s a == (116:Int)) (True∧∃ (y:Int × Int × Bool),tv1q10 a s y∧((9:Int) = y.1∧tv1q16 a y.2.1 y.2.2)∧tv1q11 x s p l) (ifB (tv1q14 s a == (114:Int)) (True∧∃ (y:Int × Int × Bool),tv1q10 a s y∧((13:Int) = y.1∧tv1q16 a y.2.1 y.2.2)∧tv1q11 x s p l) (ifB (tv1q17 s a) (ifB (tv1q17 s a) (tv1q18 a s x p l) (tv1q19 s a x p l)) (ifB (tv1q20 s a) (ifB (tv1q20 s a) (tv1q18 a s x p l) (tv1q19 s a x p l)) (ifB (tv1q14 s a == (34:Int)) (tv1q18 a s x p l) (tv1q19 s a x p l))))))))))) (by kernel_rfl) ?_
  delta BI LI LN NI SM TL U0 Z0 Z1 tv1q0 tv1q1 tv1q10 tv1q11 tv1q12 tv1q13 tv1q14 tv1q15 tv1q16 tv1q17 tv1q18 tv1q19 tv1q2 tv1q20 tv1q3 tv1q4 tv1q5 tv1q6 tv1q7 tv1q8 tv1q9
  simp only [eq_self,ne_eq,weakD_refl,Int.toNat_natCast,ifB_iff,side_iff,decide_eq_true_eq,decide_eq_false_iff_not,true_and,and_true,beq_iff_eq,Bool.cond_false_right,Bool.cond_true_left,beq_eq_false_iff_ne,exists_const,forall_const]
  have hbn:∀ b:UInt8,IntKind.i32.wrap (b.toNat:Int) = (b.toNat:Int) := fun b => by
    have := b.toNat_lt
    exact Go.Ab.wrap_small (k := .i32) rfl (by simp only [IntKind.bits]; omega) (by simp only [IntKind.bits]; omega)
  have h92:∀ b:UInt8,(((b.toNat:Int)) != 92) = (b != 92) := fun b => by
    by_cases hb:b = 92
    · rw [hb]; rfl
    · have h1:(b != 92) = true := by simpa using hb
      rw [h1]
      simpa using fun e => hb (b_eq (n := 92) e (by decide))
  have w1:IntKind.i64.wrap ((a:Int) + 1) = ((a + 1:Nat):Int) := by rw [wrap_i64' (by omega) (by omega)]; rfl
  have w2:IntKind.i64.wrap ((a:Int) + 2) = ((a + 2:Nat):Int) := by rw [wrap_i64' (by omega) (by omega)]; rfl
  have ne:s.drop a ≠ [] := fun e => by
    have := congrArg List.length e
    rw [List.length_drop,List.length_nil] at this; omega
  have e0:(s.drop a).getD 0 0 = s.getD a 0 := by simp [List.getD_eq_getElem?_getD]
  have dl := dec_len ne
  rw [List.length_drop] at dl
  simp only [hbn,h92,w1,w2,List.take_length,Int.toNat_natCast]
  have k110:∀ b:UInt8,(b.toNat:Int) = 110↔b = 110 := fun b => ⟨fun h => b_eq (n := 110) h (by decide),fun h => by rw [h]; rfl⟩
  have k116:∀ b:UInt8,(b.toNat:Int) = 116↔b = 116 := fun b => ⟨fun h => b_eq (n := 116) h (by decide),fun h => by rw [h]; rfl⟩
  have k114:∀ b:UInt8,(b.toNat:Int) = 114↔b = 114 := fun b => ⟨fun h => b_eq (n := 114) h (by decide),fun h => by rw [h]; rfl⟩
  have k92:∀ b:UInt8,(b.toNat:Int) = 92↔b = 92 := fun b => ⟨fun h => b_eq (n := 92) h (by decide),fun h => by rw [h]; rfl⟩
  have k39:∀ b:UInt8,(b.toNat:Int) = 39↔b = 39 := fun b => ⟨fun h => b_eq (n := 39) h (by decide),fun h => by rw [h]; rfl⟩
  have k34:∀ b:UInt8,(b.toNat:Int) = 34↔b = 34 := fun b => ⟨fun h => b_eq (n := 34) h (by decide),fun h => by rw [h]; rfl⟩
  have k117:∀ b:UInt8,(b.toNat:Int) = 117↔b = 117 := fun b => ⟨fun h => b_eq (n := 117) h (by decide),fun h => by rw [h]; rfl⟩
  simp only [k110,k116,k114,k92,k39,k34,k117]
  refine ⟨by omega,fun h => ⟨by omega,ne,?_,?_⟩,fun h => ?_⟩
  · generalize (((decT (s.drop a)).1:Int) != 65533) = P
    refine ⟨fun h1 => ⟨fun h2 => ?_,fun h2 => ?_⟩,fun h1 => ?_⟩
    · rw [decide_eq_true h1,h2]; rfl
    · rw [decide_eq_true h1,h2]; rfl
    · rw [decide_eq_false h1]; rfl
  · have w3:IntKind.i64.wrap ((a:Int) + ((decT (s.drop a)).2:Int)) = ((a + (decT (s.drop a)).2:Nat):Int) := by rw [wrap_i64' (by omega) (by omega)]; omega
    rw [w3]
    refine ⟨(((decT (s.drop a)).1:Int),((a + (decT (s.drop a)).2:Nat):Int),decide (32 ≤ ((decT (s.drop a)).1:Int)) && (((decT (s.drop a)).1:Int) != 65533 || decide (1 < ((decT (s.drop a)).2:Int)))),?_,rfl,rfl,rfl⟩
    rcases let_plain (by rw [e0]; simpa using h) ne with ⟨q1,q2⟩ | ⟨q1,q2⟩
    · rw [q1,q2]
      exact ⟨fun _ => rfl,fun c w h => by cases h⟩
    · rw [q1,q2]
      exact ⟨fun h => (by cases h),fun c w h => by rw [Option.some.inj h]⟩
  · have h:s.getD a 0 = 92 := by simpa using h
    rw [let_escC h]
    have fin:∀ (c w:Nat) (r:Option (Nat × Nat)) (C W:Int),r = some (c,w)→C = c→W = ((a + w:Nat):Int)→∃ y:Int × Int × Bool,codQ a r y∧C = y.1∧W = y.2.1∧true = y.2.2 := fun c w r C W hr hC hW => ⟨(C,W,true),⟨fun h => (by rw [hr] at h; cases h),fun c' w' h => by
      rw [hr] at h
      have h := Option.some.inj h
      have e1:c = c' := congrArg Prod.fst h
      have e2:w = w' := congrArg Prod.snd h
      rw [hC,hW,e1,e2]⟩,rfl,rfl,rfl⟩
    have fail:∀ r:Option (Nat × Nat),r = none→∃ y:Int × Int × Bool,codQ a r y∧0 = y.1∧0 = y.2.1∧false = y.2.2 := fun r hr => ⟨(0,0,false),⟨fun _ => rfl,fun c w h => (by rw [hr] at h; cases h)⟩,rfl,rfl,rfl⟩
    have fcod:∀ y:Int × Int × Bool,codQ (a + 2) (codeT (s.drop (a + 2))) y→∃ z:Int × Int × Bool,codQ a ((codeT (s.drop (a + 2))).map fun x => (x.1,x.2 + 2)) z∧y.1 = z.1∧y.2.1 = z.2.1∧y.2.2 = z.2.2 := fun y ⟨q1,q2⟩ => ⟨y,by
      cases hc:codeT (s.drop (a + 2)) with
      | none => exact ⟨fun _ => q1 hc,fun c w h => by cases h⟩
      | some v =>
        obtain ⟨c,w⟩ := v
        refine ⟨fun h => (by cases h),fun c' w' h => ?_⟩
        have h := Option.some.inj h
        have e1:c = c' := congrArg Prod.fst h
        have e2:w + 2 = w' := congrArg Prod.snd h
        rw [q2 c w hc,← e1,← e2,Nat.add_assoc,Nat.add_comm 2 w],rfl,rfl,rfl⟩
    refine ⟨fun h1 => fail _ ?_,fun h1 => ⟨by omega,?_⟩⟩
    · rw [gd_ge (by omega)]
      rfl
    · generalize hc:s.getD (a + 1) 0 = c
      unfold escC
      refine ⟨fun q => fin 10 2 _ _ _ (if_pos q) rfl rfl,fun q => ?_⟩
      rw [if_neg q]
      refine ⟨fun q => fin 9 2 _ _ _ (if_pos q) rfl rfl,fun q => ?_⟩
      rw [if_neg q]
      refine ⟨fun q => fin 13 2 _ _ _ (if_pos q) rfl rfl,fun q => ?_⟩
      rw [if_neg q]
      refine ⟨fun q1 => ⟨fun q => fin c.toNat 2 _ _ _ (if_pos (.inl q)) rfl rfl,fun q => (q q1).elim⟩,fun q1 => ⟨fun q2 => ⟨fun q => fin c.toNat 2 _ _ _ (if_pos (.inr (.inl q))) rfl rfl,fun q => (q q2).elim⟩,fun q2 => ⟨fun q => fin c.toNat 2 _ _ _ (if_pos (.inr (.inr q))) rfl rfl,fun q3 => ?_⟩⟩⟩
      rw [if_neg (by rintro (h | h | h) <;> contradiction)]
      refine ⟨fun q => ⟨by omega,fun y hy => ?_⟩,fun q => fail _ (if_neg q)⟩
      rw [if_pos q]
      exact fcod y hy
end Go.Proofs.YtfldjfpcefcjdaaGreatDoor
namespace Go.Proofs.YtfldjfpcefcjdaaGreatDoor
open Go Go.Ab
set_option maxRecDepth 100000
def litD (p:Nat):Lex→D
  | .error (e,o) => .tup [.agg [.int .i64 0,.int .i64 0,.int .i64 0,.int .i64 0,.str []],.int .i64 ((p + o:Nat):Int),.int .i64 e]
  | .ok (k,len,num,text) => .tup [.agg [.int .i64 k,.int .i64 0,.int .i64 len,.int .i64 num,.str text],.int .i64 0,.int .i64 0]
def conRr (x:Nat) (s:List UInt8) (p:Int) (l:D):Con := fun k ds S => match k with
  | 49 => match ds with
    | [_,.int .i64 a] => some (sStQ [.ref 0 x 0,.int .i64 a] (scS x s p l) codD (codQ a.toNat (letT (s.drop a.toNat))) (0 ≤ a∧a < s.length∧s.length ≤ 4294967296∧0 ≤ p))
    | _ => none
  | k => conRd x s p l k ds S
theorem conRr_ok (x:Nat) (s:List UInt8) (p:Int) (l:D):ConOk Tryz.prog (conRr x s p l) := by
  have nn:∀ {a:Int},0 ≤ a→((a.toNat:Nat):Int) = a := fun h => by omega
  intro k ds S A h
  unfold conRr at h
  split at h
  · split at h
    · injection h with h; subst h
      refine ConOk.plain (sStQ_ok fun ⟨h1,h2,h3,h4⟩ => ?_) rfl rfl
      have := read_char x s p.toNat l _ ((Int.toNat_lt h1).2 h2) h3
      rw [nn h1,nn h4] at this
      exact this
    · cases h
  · exact conRd_ok x s p l _ _ _ _ h
theorem endT_at {s:List UInt8} {a:Nat}:endT (s.drop a) = true↔(s.length:Int) ≤ (a:Int)∨s.getD a 0 = 10 := by
  have e0:(s.drop a).getD 0 0 = s.getD a 0 := by simp [List.getD_eq_getElem?_getD]
  unfold endT
  rw [Bool.or_eq_true,e0,beq_iff_eq,List.isEmpty_iff,List.drop_eq_nil_iff,Int.ofNat_le]
theorem some_of {a:Nat} {r:Option (Nat × Nat)} {z:Int × Int × Bool} (h:codQ a r z) (hz:(!z.2.2) = false):∃ c w,r = some (c,w)∧z = ((c:Int),((a + w:Nat):Int),true) := by
  cases r with
  | none =>
    rw [h.1 rfl] at hz
    exact Bool.noConfusion hz
  | some v => exact ⟨v.1,v.2,rfl,h.2 _ _ rfl⟩
structure StrI (s:List UInt8) (p:Nat) (a m:Nat) (acc:List UInt8):Prop where
  lo:p + 1 ≤ a
  hi:a ≤ s.length
  many:m ≤ a
  len:acc.length ≤ 4 * a
  go:∃ n,s.length - a < n∧strGo n (s.drop a) (a - p) acc = strT (s.drop p)
noncomputable def Eli (x:Nat) (s:List UInt8) (p:Nat) (l:D):Senv := { EC (conBl (conRr x s p l)) 105 2 [4,5,6,7,8,9,10,11,12,13,14,15,25,34,61,68,98] (fun id => match id with | 7 => ([0,1,2,3,4,5,6,7],[5]) | 9 => ([0,1,2,3,4,5,6,7,8,9,10],[7,9,10]) | 14 => ([0,1,2,3,4,5,6,7],[5]) | _ => ([],[])) with
  bd := fun t => match t with
    | 65 => some 5
    | _ => none
  ann := fun b _ S => match b with
    | 0 => some { slots := [11,9,10],keep := [0,1,4,7,8],α := Nat × Nat × Int × Nat × List UInt8,st := fun y => ([.int .i64 y.1,.int .i64 y.2.1,.int .i32 y.2.2.1],⟨setO S.objs 2 (.bld 65 5 (bsl y.2.2.2.2 (.tok 0 y.2.2.2.1))),[(0,y.2.2.2.1)]⟩),inv := fun y => StrI s p y.1 y.2.1 y.2.2.2.2,mu := fun y => s.length - y.1 }
    | _ => none }
noncomputable section
def tv4q0 (p0:List UInt8) (p1:Nat):List D := [ZB (BI p0 p1)]
def tv4q1 (p0 p1:Nat) (p2:List UInt8) (p3:Nat) (p4:D):Prop := SM p0∧(SM Z0∧SM Z0∧SM Z0∧SM Z0∧eqOf (List UInt8) [] []∧True)∧SM p1∧(SM p2∧SM (↑p3:Int)∧weakD p4 p4∧True)∧True
def tv4q2 (p0:List UInt8) (p1:Nat):Bool := bif decide ((LI p0) ≤ (↑p1:Int)) then true else (BI p0 (Int.toNat (↑p1:Int))) == (10:Int)
def tv4q3 (p0 p1:Nat):Prop := SM p0∧SM (ZI (↑p1:Int))
def tv4q4:D := D.agg [ZI Z0,ZI Z0,ZI Z0,ZI Z0,D.str []]
def tv4q5 (p0:Nat) (p1:List UInt8):D := litD p0 (strT (List.drop p0 p1))
def tv4q6 (p0:Nat) (p1:List UInt8) (p2:Nat) (p3:D):Prop := (SM p0∧(SM p1∧SM (↑p2:Int)∧weakD p3 p3∧True)∧True)∧True
def tv4q7 (p0:List UInt8) (p1:Nat):Bool := bif (BI p0 (Int.toNat (↑p1:Int))) == (34:Int) then true else false
def tv4q8 (p0 p1:Nat) (p2:List UInt8):Prop := bFit [(N0,p0)] p1 p1 (65:Nat) (5:Nat) N0 p0 (LN p2) fun (i:Nat) => tv4q0 p2 i
def tv4q9 (p0 p1:Nat) (p2:List UInt8):Prop := (tv4q8 p0 p1 p2∧LN p2 ≤ (140737488355328:Nat))∧True
def tv4q10 (p0:List UInt8):List UInt8 := bytesOf (LN p0) fun (i:Nat) => tv4q0 p0 i
def tv4q11 (p0 p1 p2 p3 p4:Nat) (p5 p6:List UInt8) (p7:D):Prop := tv4q3 p0 p1∧SM p2∧SM p2∧SM p3∧(SM p3∧True)∧∃ (_y:Unit),True∧weakD (D.tup [D.agg [ZI (3:Int),ZI Z0,ZI (IntKind.wrap IntKind.i64 (IntKind.wrap IntKind.i64 ((↑p4:Int) + Z1) - (↑p1:Int))),ZI Z0,D.str (tv4q10 p5)],ZI Z0,ZI Z0]) (tv4q5 p1 p6)∧tv4q6 p0 p6 p1 p7
def tv4q12 (p0:List UInt8) (p1:Int):List UInt8 := tv4q10 p0 ++ utf8 p1
def tv4q13 (p0:List UInt8) (p1:Int):Nat := LN (tv4q12 p0 p1)
end
theorem lit34_ok (x : Nat) (s : List UInt8) (p : Nat) (l : D) (hp : p < s.length) (hs : s.length ≤ 4294967296) :
    ACalls Tryz.prog 27 [.ref 0 x 0,.int .u8 34] (scS x s p l) (SpecR (sSt [.ref 0 x 0,.int .u8 34] (scS x s p l) (litD p (strT (s.drop p)))) ()) := by
  refine con_of (A := sSt _ _ _) (x := ()) (E := Eli x s p l) (eOk (conBl_ok (conRr_ok x s p l)) rfl) Tryz.func27 rfl (by kernel_rfl) rfl (by simp [sSt,Eli,EC,E0]) ?_
  refine vc_eq (T :=
    ∀ (x_1:Nat),x ≠ x_1∧True→∀ (y t:Nat),x_1 ≠ y∧x ≠ y∧True→SM x∧(∃ (x_2:Nat × Nat × Int × Nat × List UInt8),StrI s p x_2.1 x_2.2.1 x_2.2.2.2.2∧(IntKind.wrap IntKind.i64 ((↑p:Int) + Z1) = (NI x_2.1)∧Z0 = (NI x_2.2.1)∧Z0 = x_2.2.2.1∧True)∧(SM y∧(N0 = LN x_2.2.2.2.2∧(∀ (i:Nat),i < N0→eqOf (List D) [] (tv4q0 x_2.2.2.2.2 i))∧t = x_2.2.2.2.1)∧tv4q1 x_1 x s p l)∧t = x_2.2.2.2.1∧True)∧∀ (x_2:Nat × Nat × Int × Nat × List UInt8),StrI s p x_2.1 x_2.2.1 x_2.2.2.2.2→(SM x∧ifB (decide ((LI s) ≤ (NI x_2.1))) (true = tv4q2 s x_2.1∧True) (SM x∧side (Z0 ≤ (NI x_2.1)∧(NI x_2.1) < (LI s)) (((BI s (TN x_2.1)) == (10:Int)) = tv4q2 s x_2.1∧True)))∧True∧ifB (tv4q2 s x_2.1) (SM x∧SM x_1∧tv4q3 x p∧(SM x_1∧True)∧∃ (y:Unit),True∧weakD (D.tup [tv4q4,ZI (↑p:Int),ZI (5:Int)]) (tv4q5 p s)∧tv4q6 x s p l) ((SM x∧side (Z0 ≤ (NI x_2.1)∧(NI x_2.1) < (LI s)) (ifB ((BI s (TN x_2.1)) == (34:Int)) (true = tv4q7 s x_2.1∧True) (false = tv4q7 s x_2.1∧True)))∧ifB (tv4q7 s x_2.1) (SM x∧(tv4q9 x_2.2.2.2.1 y x_2.2.2.2.2∧∀ (y:Unit),True→tv4q3 x p∧∀ (x_3:Nat),x_1 ≠ x_3∧x ≠ x_3∧True→tv4q11 x p x_3 x_1 x_2.1 x_2.2.2.2.2 s l)∧∀ (x_3:Nat),y ≠ x_3∧x_1 ≠ x_3∧x ≠ x_3∧True→tv4q3 x p∧tv4q9 x_2.2.2.2.1 y x_2.2.2.2.2∧∀ (y:Unit),True→tv4q11 x p x_3 x_1 x_2.1 x_2.2.2.2.2 s l) ((SM false∧True)∧∃ (x_3:Unit),(SM x∧SM (NI x_2.1)∧True)∧tv4q6 x s p l∧(Z0 ≤ (NI x_2.1)∧(NI x_2.1) < (LI s)∧LN s ≤ (4294967296:Nat)∧Z0 ≤ (↑p:Int))∧∀ (y_1:Int × Int × Bool),codQ (TN x_2.1) (letT (List.drop (TN x_2.1) s)) y_1→ifB (!Prod.snd y_1.2) (SM x_1∧(SM x_1∧True)∧∃ (y:Unit),True∧weakD (D.tup [tv4q4,ZI (NI x_2.1),ZI (3:Int)]) (tv4q5 p s)∧tv4q6 x s p l) (((tv4q8 x_2.2.2.2.1 y x_2.2.2.2.2∧(Z0 ≤ y_1.1∧runeP (Int.toNat y_1.1))∧LN x_2.2.2.2.2 + N4 ≤ (140737488355328:Nat))∧True)∧∀ (y_2:Nat),True→(SM (D.ref N0 x N0)∧SM (ZB (34:Int))∧SM (D.ref N1 x_1 N0)∧SM (D.fn (Fn.func (49:Nat)) [D.ref N0 x N0] [])∧SM (D.ref N2 y N0)∧True)∧∃ (y_3:Nat × Nat × Int × Nat × List UInt8),StrI s p y_3.1 y_3.2.1 y_3.2.2.2.2∧LN s - y_3.1 < LN s - x_2.1∧(y_1.2.1 = (NI y_3.1)∧IntKind.wrap IntKind.i64 ((NI x_2.2.1) + Z1) = (NI y_3.2.1)∧y_1.1 = y_3.2.2.1∧True)∧(SM y∧(tv4q13 x_2.2.2.2.2 y_1.1 = LN y_3.2.2.2.2∧(∀ (i:Nat),i < tv4q13 x_2.2.2.2.2 y_1.1→[ZB (BI (tv4q12 x_2.2.2.2.2 y_1.1) i)] = tv4q0 y_3.2.2.2.2 i)∧y_2 = y_3.2.2.2.1)∧tv4q1 x_1 x s p l)∧y_2 = y_3.2.2.2.1∧True)))) (by kernel_rfl) ?_
  delta BI LI LN N0 N1 N2 N4 NI SM TN U0 Z0 Z1 ZB ZI tv4q0 tv4q1 tv4q10 tv4q11 tv4q12 tv4q13 tv4q2 tv4q3 tv4q4 tv4q5 tv4q6 tv4q7 tv4q8 tv4q9
  simp only [eq_self,ne_eq,weakD_refl,Int.toNat_natCast,ifB_iff,side_iff,decide_eq_true_eq,decide_eq_false_iff_not,true_and,and_true,beq_iff_eq,Bool.cond_false_right,Bool.cond_true_left,Bool.or_eq_true,Bool.or_eq_false_iff,beq_eq_false_iff_ne,exists_const,forall_const,bytesOf_bsl,bfit_ok,Bool.and_true]
  have ku:∀ (b:UInt8) (n:Nat),n < 256→((b.toNat:Int) = (n:Int)↔b = UInt8.ofNat n) := fun b n hn => ⟨fun h => b_eq h hn,fun h => by rw [h,byteN n hn]⟩
  have k10:∀ b:UInt8,(b.toNat:Int) = 10↔b = 10 := fun b => ku b 10 (by decide)
  have k34:∀ b:UInt8,(b.toNat:Int) = 34↔b = 34 := fun b => ku b 34 (by decide)
  have p10:∀ b:UInt8,((b.toNat:Int) == 10) = (b == 10) := fun b => by
    rw [Bool.eq_iff_iff,beq_iff_eq,beq_iff_eq]; exact k10 b
  have p34:∀ b:UInt8,((b.toNat:Int) == 34) = (b == 34) := fun b => by
    rw [Bool.eq_iff_iff,beq_iff_eq,beq_iff_eq]; exact k34 b
  simp only [k10,k34,p10,p34]
  intro x1 _ y t _
  refine ⟨⟨(p + 1,0,0,t,[]),⟨Nat.le_refl _,by omega,Nat.zero_le _,Nat.zero_le _,s.length - p,by simp only; omega,?_⟩,⟨wrap_i64' (by omega) (by omega),rfl,rfl⟩,⟨rfl,fun i hi => absurd hi (by omega),rfl⟩,rfl⟩,?_⟩
  · unfold strT
    rw [List.length_drop,List.drop_drop]
    simp only [Nat.add_sub_cancel_left]
  rintro ⟨a,m,z,t1,acc⟩ hI
  simp only at hI ⊢
  obtain ⟨i1,i2,i3,i4,n,i5,i6⟩ := hI
  obtain ⟨n,rfl⟩:∃ k,n = k + 1 := ⟨n - 1,by omega⟩
  have e0:(s.drop a).getD 0 0 = s.getD a 0 := by simp [List.getD_eq_getElem?_getD]
  have hT := endT_at (s := s) (a := a)
  simp only [strGo] at i6
  refine ⟨⟨fun h => by rw [decide_eq_true h]; rfl,fun h => ⟨by omega,by rw [decide_eq_false h]; rfl⟩⟩,fun h => ?_,fun h => ⟨⟨⟨by omega,by omega⟩,fun h => by rw [h]; rfl,fun h => ?_⟩,fun h34 => ⟨⟨by omega,fun _ _ => ?_⟩,fun _ _ => ⟨by omega,?_⟩⟩,fun h34 => ⟨⟨by omega,by omega,hs,by omega⟩,fun z1 hz => ⟨fun hz2 => ?_,fun hz2 => ⟨⟨⟨?_,?_⟩,by omega⟩,fun t2 => ?_⟩⟩⟩⟩⟩
  · rw [← i6,if_pos (hT.2 h)]
    exact weakD_refl _
  · exact (by simpa using h:(s.getD a 0 == 34) = false).symm
  · rw [← i6,if_neg (fun h2 => (hT.1 h2).elim h.1 h.2),if_pos (by rw [e0]; exact h34)]
    rw [wrap_i64' (n := (a:Int) + 1) (by omega) (by omega),wrap_i64' (by omega) (by omega),show (a:Int) + 1 - (p:Int) = ((a - p + 1:Nat):Int) by omega]
    exact weakD_refl _
  · rw [← i6,if_neg (fun h2 => (hT.1 h2).elim h.1 h.2),if_pos (by rw [e0]; exact h34)]
    rw [wrap_i64' (n := (a:Int) + 1) (by omega) (by omega),wrap_i64' (by omega) (by omega),show (a:Int) + 1 - (p:Int) = ((a - p + 1:Nat):Int) by omega]
    exact weakD_refl _
  · have hn:letT (s.drop a) = none := by
      cases hl:letT (s.drop a) with
      | none => rfl
      | some v =>
        obtain ⟨c,w⟩ := v
        rw [hz.2 c w hl] at hz2
        exact Bool.noConfusion hz2
    rw [hn] at i6
    rw [← i6,if_neg (fun h2 => (hT.1 h2).elim h.1 h.2),if_neg (by rw [e0]; exact h34)]
    simp only [litD]
    rw [show p + (a - p) = a by omega]
    exact weakD_refl _
  · obtain ⟨c,w,hl,rfl⟩ := some_of hz hz2
    exact Int.natCast_nonneg c
  · obtain ⟨c,w,hl,rfl⟩ := some_of hz hz2
    exact let_rune hl
  · obtain ⟨c,w,hl,rfl⟩ := some_of hz hz2
    obtain ⟨w1,w2⟩ := let_len (fun e => by have := congrArg List.length e; rw [List.length_drop,List.length_nil] at this; omega) hl
    rw [List.length_drop] at w2
    have hu := utf8_len (c:Int)
    refine ⟨(a + w,m + 1,(c:Int),t2,acc ++ utf8 (c:Int)),⟨by simp only; omega,by simp only; omega,by simp only; omega,by simp only; rw [List.length_append]; omega,n,by simp only; omega,?_⟩,by simp only; omega,⟨rfl,wrap_i64' (by omega) (by omega),rfl⟩,⟨rfl,fun _ _ => rfl,rfl⟩,rfl⟩
    rw [hl] at i6
    rw [← i6,if_neg (fun h2 => (hT.1 h2).elim h.1 h.2),if_neg (by rw [e0]; exact h34)]
    simp only
    rw [List.drop_drop,show a + w - p = a - p + w by omega]
    rfl
end Go.Proofs.YtfldjfpcefcjdaaGreatDoor
namespace Go.Proofs.YtfldjfpcefcjdaaGreatDoor
open Go Go.Ab
set_option maxRecDepth 100000
theorem char_at {s : List UInt8} {p : Nat} : charT (s.drop p) = if endT (s.drop (p + 1)) = true then .error (5, 0) else if s.getD (p + 1) 0 = 39 then .error (3, 0)
    else match letT (s.drop (p + 1)) with
      | none => .error (3,1)
      | some (c,w) => if endT (s.drop (p + 1 + w)) = true then .error (5,0) else if s.getD (p + 1 + w) 0 = 39 then .ok (2,w + 2,c,[]) else .error (3,0) := by
  have e:∀ k,(s.drop k).getD 0 0 = s.getD k 0 := fun k => by simp [List.getD_eq_getElem?_getD]
  unfold charT
  simp only [List.drop_drop,e]
  rfl
noncomputable def Elj (x:Nat) (s:List UInt8) (p:Nat) (l:D):Senv := { EC (conBl (conRr x s p l)) 105 2 [4,5,6,7,8,9,10,11,12,13,14,15,25,34,61,68,98] (fun id => match id with | 7 => ([0,1,2,3,4,5,6,7],[5]) | 9 => ([0,1,2,3,4,5,6,7,8,9,10],[7,9,10]) | 14 => ([0,1,2,3,4,5,6,7],[5]) | _ => ([],[])) with
  bd := fun t => match t with
    | 65 => some 5
    | _ => none
  unr := fun b => match b with
    | 0 => 2
    | _ => 0 }
noncomputable section
def tv5q0 (p0:Nat):Int := IntKind.wrap IntKind.i64 ((↑p0:Int) + Z1)
def tv5q1 (p0:Nat):Nat := Int.toNat (tv5q0 p0)
def tv5q2 (p0:List UInt8) (p1:Nat):Bool := (BI p0 (tv5q1 p1)) == (10:Int)
def tv5q3 (p0:List UInt8) (p1:Nat):Bool := bif decide ((LI p0) ≤ tv5q0 p1) then true else tv5q2 p0 p1
def tv5q4 (p0 p1:Nat):Prop := SM p0∧SM (ZI (↑p1:Int))
def tv5q5:D := D.agg [ZI Z0,ZI Z0,ZI Z0,ZI Z0,D.str []]
def tv5q6 (p0:Nat) (p1:List UInt8):D := litD p0 (charT (List.drop p0 p1))
def tv5q7 (p0:Nat) (p1:List UInt8) (p2:Nat) (p3:D):Prop := (SM p0∧(SM p1∧SM (↑p2:Int)∧weakD p3 p3∧True)∧True)∧True
def tv5q8 (p0 p1 p2:Nat) (p3:List UInt8) (p4:D):Prop := SM p0∧SM p1∧tv5q4 p0 p2∧(SM p1∧True)∧∃ (_y:Unit),True∧weakD (D.tup [tv5q5,ZI (↑p2:Int),ZI (5:Int)]) (tv5q6 p2 p3)∧tv5q7 p0 p3 p2 p4
def tv5q9 (p0:List UInt8) (p1:Nat):Bool := (BI p0 (tv5q1 p1)) == (39:Int)
def tv5q10 (p0:List UInt8) (p1:Nat):Bool := bif tv5q9 p0 p1 then false else false
def tv5q11 (p0:List UInt8) (p1:Nat):Prop := false = tv5q10 p0 p1∧True
def tv5q12 (p0 p1:Nat):Prop := bFit [(N0,p0)] p1 p1 (65:Nat) (5:Nat) N0 p0 N0 fun (_x:Nat) => []
def tv5q13 (p0 p1:Nat):Prop := (tv5q12 p0 p1∧N0 ≤ (140737488355328:Nat))∧True
def tv5q14 (p0 p1 p2 p3:Nat) (p4:List UInt8) (p5:D):Prop := tv5q4 p0 p1∧SM p2∧SM p2∧SM p2∧SM p2∧SM p2∧SM p3∧(SM p3∧True)∧∃ (_y:Unit),True∧weakD (D.tup [D.agg [ZI (2:Int),ZI Z0,ZI (IntKind.wrap IntKind.i64 (IntKind.wrap IntKind.i64 (tv5q0 p1 + Z1) - (↑p1:Int))),ZI Z0,D.str []],ZI Z0,ZI Z0]) (tv5q6 p1 p4)∧tv5q7 p0 p4 p1 p5
def tv5q15 (p0 p1 p2:Nat) (p3:List UInt8) (p4:D):Prop := SM p0∧SM p1∧tv5q4 p0 p2∧(SM p1∧True)∧∃ (_y:Unit),True∧weakD (D.tup [tv5q5,ZI (↑p2:Int),ZI (3:Int)]) (tv5q6 p2 p3)∧tv5q7 p0 p3 p2 p4
def tv5q16 (p0:List UInt8) (p1:Int):Bool := bif decide ((LI p0) ≤ p1) then true else (BI p0 (Int.toNat p1)) == (10:Int)
def tv5q17 (p0:List UInt8) (p1:Int):Bool := bif (BI p0 (Int.toNat p1)) == (39:Int) then true else false
def tv5q18 (p0:Int):List UInt8 := [] ++ utf8 p0
def tv5q19 (p0:Int):Nat := LN (tv5q18 p0)
def tv5q20 (p0 p1:Nat) (p2:Int):Prop := ((bFit [(N0,p0)] p1 p1 (65:Nat) (5:Nat) N0 p0 (tv5q19 p2) fun (i:Nat) => [ZB (BI (tv5q18 p2) i)])∧tv5q19 p2 ≤ (140737488355328:Nat))∧True
def tv5q21 (p0 p1 p2 p3:Nat) (p4 p5:Int) (p6:List UInt8) (p7:D):Prop := tv5q4 p0 p1∧SM p2∧SM p2∧SM p2∧SM p2∧SM p2∧SM p3∧(SM p3∧True)∧∃ (_y:Unit),True∧weakD (D.tup [D.agg [ZI (2:Int),ZI Z0,ZI (IntKind.wrap IntKind.i64 (IntKind.wrap IntKind.i64 (p4 + Z1) - (↑p1:Int))),ZI (IntKind.wrap IntKind.i64 p5),D.str []],ZI Z0,ZI Z0]) (tv5q6 p1 p6)∧tv5q7 p0 p6 p1 p7
end
theorem lit39_ok (x : Nat) (s : List UInt8) (p : Nat) (l : D) (hp : p < s.length) (hs : s.length ≤ 4294967296) :
    ACalls Tryz.prog 27 [.ref 0 x 0,.int .u8 39] (scS x s p l) (SpecR (sSt [.ref 0 x 0,.int .u8 39] (scS x s p l) (litD p (charT (s.drop p)))) ()) := by
  refine con_of (A := sSt _ _ _) (x := ()) (E := Elj x s p l) (eOk (conBl_ok (conRr_ok x s p l)) rfl) Tryz.func27 rfl (by kernel_rfl) rfl (by simp [sSt,Elj,EC,E0]) ?_
  refine vc_eq (T :=
    ∀ (x_1:Nat),x ≠ x_1∧True→∀ (y t:Nat),x_1 ≠ y∧x ≠ y∧True→SM x∧(SM x∧ifB (decide ((LI s) ≤ tv5q0 p)) (true = tv5q3 s p∧True) (SM x∧side (Z0 ≤ tv5q0 p∧tv5q0 p < (LI s)) (tv5q2 s p = tv5q3 s p∧True)))∧True∧ifB (tv5q3 s p) (tv5q8 x x_1 p s l) ((SM x∧side (Z0 ≤ tv5q0 p∧tv5q0 p < (LI s)) (ifB (tv5q9 s p) (tv5q11 s p) (tv5q11 s p)))∧ifB (tv5q10 s p) (SM x∧(tv5q13 t y∧∀ (y:Unit),True→tv5q4 x p∧∀ (x_2:Nat),x_1 ≠ x_2∧x ≠ x_2∧True→tv5q14 x p x_2 x_1 s l)∧∀ (x_2:Nat),y ≠ x_2∧x_1 ≠ x_2∧x ≠ x_2∧True→tv5q4 x p∧tv5q13 t y∧∀ (y:Unit),True→tv5q14 x p x_2 x_1 s l) ((SM x∧side (Z0 ≤ tv5q0 p∧tv5q0 p < (LI s)) (SM (tv5q9 s p)∧True))∧ifB (tv5q9 s p) (tv5q15 x x_1 p s l) (∃ (x_2:Unit),(SM x∧SM (tv5q0 p)∧True)∧tv5q7 x s p l∧(Z0 ≤ tv5q0 p∧tv5q0 p < (LI s)∧LN s ≤ (4294967296:Nat)∧Z0 ≤ (↑p:Int))∧∀ (y_1:Int × Int × Bool),codQ (tv5q1 p) (letT (List.drop (tv5q1 p) s)) y_1→ifB (!Prod.snd y_1.2) (SM x_1∧(SM x_1∧True)∧∃ (y:Unit),True∧weakD (D.tup [tv5q5,ZI (tv5q0 p),ZI (3:Int)]) (tv5q6 p s)∧tv5q7 x s p l) (((tv5q12 t y∧(Z0 ≤ y_1.1∧runeP (Int.toNat y_1.1))∧N4 ≤ (140737488355328:Nat))∧True)∧∀ (y_2:Nat),True→(SM x∧ifB (decide ((LI s) ≤ y_1.2.1)) (true = tv5q16 s y_1.2.1∧True) (SM x∧side (Z0 ≤ y_1.2.1∧y_1.2.1 < (LI s)) (((BI s (Int.toNat y_1.2.1)) == (10:Int)) = tv5q16 s y_1.2.1∧True)))∧True∧ifB (tv5q16 s y_1.2.1) (tv5q8 x x_1 p s l) ((SM x∧side (Z0 ≤ y_1.2.1∧y_1.2.1 < (LI s)) (ifB ((BI s (Int.toNat y_1.2.1)) == (39:Int)) (true = tv5q17 s y_1.2.1∧True) (false = tv5q17 s y_1.2.1∧True)))∧ifB (tv5q17 s y_1.2.1) (SM x∧(tv5q20 y_2 y y_1.1∧∀ (y:Unit),True→tv5q4 x p∧∀ (x_3:Nat),x ≠ x_3∧x_1 ≠ x_3∧True→tv5q21 x p x_3 x_1 y_1.2.1 y_1.1 s l)∧∀ (x_3:Nat),y ≠ x_3∧x ≠ x_3∧x_1 ≠ x_3∧True→tv5q4 x p∧tv5q20 y_2 y y_1.1∧∀ (y:Unit),True→tv5q21 x p x_3 x_1 y_1.2.1 y_1.1 s l) ((SM true∧True)∧tv5q15 x x_1 p s l))))))) (by kernel_rfl) ?_
  delta BI LI LN N0 N4 SM U0 Z0 Z1 ZB ZI tv5q0 tv5q1 tv5q10 tv5q11 tv5q12 tv5q13 tv5q14 tv5q15 tv5q16 tv5q17 tv5q18 tv5q19 tv5q2 tv5q20 tv5q21 tv5q3 tv5q4 tv5q5 tv5q6 tv5q7 tv5q8 tv5q9
  simp only [eq_self,ne_eq,weakD_refl,ifB_iff,side_iff,decide_eq_true_eq,decide_eq_false_iff_not,true_and,and_true,beq_iff_eq,Bool.cond_false_right,Bool.cond_true_left,Bool.and_eq_true,Bool.and_eq_false_iff,Bool.or_eq_true,Bool.or_eq_false_iff,beq_eq_false_iff_ne,exists_const,forall_const,bfit_ok,Bool.and_true,reduceCtorEq]
  have ku:∀ (b:UInt8) (n:Nat),n < 256→((b.toNat:Int) = (n:Int)↔b = UInt8.ofNat n) := fun b n hn => ⟨fun h => b_eq h hn,fun h => by rw [h,byteN n hn]⟩
  have k10:∀ b:UInt8,(b.toNat:Int) = 10↔b = 10 := fun b => ku b 10 (by decide)
  have k39:∀ b:UInt8,(b.toNat:Int) = 39↔b = 39 := fun b => ku b 39 (by decide)
  have p10:∀ b:UInt8,((b.toNat:Int) == 10) = (b == 10) := fun b => by
    rw [Bool.eq_iff_iff,beq_iff_eq,beq_iff_eq]; exact k10 b
  have p39:∀ b:UInt8,((b.toNat:Int) == 39) = (b == 39) := fun b => by
    rw [Bool.eq_iff_iff,beq_iff_eq,beq_iff_eq]; exact k39 b
  have w1:IntKind.i64.wrap ((p:Int) + 1) = ((p + 1:Nat):Int) := by rw [wrap_i64' (by omega) (by omega)]; rfl
  simp only [k10,k39,p10,p39,w1,Int.toNat_natCast,Bool.and_false,implies_true,and_true,true_and,and_false,false_implies,or_true,true_implies]
  intro x1 _ y t _
  have hb:bFit [(0,t)] y y 65 5 0 t 0 (fun _ => []) := ⟨rfl,rfl,rfl,rfl,rfl⟩
  have hT := endT_at (s := s) (a := p + 1)
  rw [char_at]
  refine ⟨⟨fun h => by rw [decide_eq_true h]; rfl,fun h => ⟨by omega,by rw [decide_eq_false h]; rfl⟩⟩,fun h => ?_,fun h => ⟨by omega,by omega,fun h39 => ?_,fun h39 => ⟨⟨by omega,by omega,hs,by omega⟩,fun z hz => ⟨fun hz2 => ?_,fun hz2 => ?_⟩⟩⟩⟩
  · rw [if_pos (hT.2 h)]; exact weakD_refl _
  · rw [if_neg (fun h2 => (hT.1 h2).elim h.1 h.2),if_pos h39]; exact weakD_refl _
  · have hn:letT (s.drop (p + 1)) = none := by
      cases hl:letT (s.drop (p + 1)) with
      | none => rfl
      | some v =>
        obtain ⟨c,w⟩ := v
        rw [hz.2 c w hl] at hz2
        exact Bool.noConfusion hz2
    rw [if_neg (fun h2 => (hT.1 h2).elim h.1 h.2),if_neg h39,hn]; exact weakD_refl _
  · obtain ⟨c,w,hl,rfl⟩ := some_of hz hz2
    have hr := let_rune hl
    have hc:c ≤ 1114111 := by unfold runeP at hr; omega
    obtain ⟨l1,l2⟩ := let_len (fun e => by have := congrArg List.length e; rw [List.length_drop,List.length_nil] at this; omega) hl
    rw [List.length_drop] at l2
    have hU := endT_at (s := s) (a := p + 1 + w)
    have hu := utf8_len (c:Int)
    have w2:IntKind.i64.wrap ((((p + 1 + w:Nat):Int)) + 1) = ((p + 1 + w + 1:Nat):Int) := by rw [wrap_i64' (by omega) (by omega)]; rfl
    have w3:IntKind.i64.wrap ((((p + 1 + w + 1:Nat):Int)) - (p:Int)) = ((w + 2:Nat):Int) := by rw [wrap_i64' (by omega) (by omega)]; omega
    have w4:IntKind.i64.wrap (c:Int) = (c:Int) := wrap_i64' (by omega) (by omega)
    simp only [w2,w3,w4,Int.toNat_natCast]
    rw [if_neg (fun h2 => (hT.1 h2).elim h.1 h.2),if_neg h39,hl]
    simp only
    refine ⟨⟨hb,⟨by omega,hr⟩,by omega⟩,⟨fun h => by rw [decide_eq_true h]; rfl,fun h => ⟨by omega,by rw [decide_eq_false h]; rfl⟩⟩,fun h => ?_,fun h => ⟨⟨by omega,fun h3 => by rw [h3]; rfl,fun h3 => ?_⟩,fun h3 => ⟨⟨by simp only [List.nil_append]; omega,fun _ _ => ?_⟩,fun _ _ => ⟨by simp only [List.nil_append]; omega,?_⟩⟩,fun h3 => ?_⟩⟩
    · rw [if_pos (hU.2 h)]; exact weakD_refl _
    · exact (by simpa using h3:(s.getD (p + 1 + w) 0 == 39) = false).symm
    · rw [if_neg (fun h2 => (hU.1 h2).elim h.1 h.2),if_pos h3]; exact weakD_refl _
    · rw [if_neg (fun h2 => (hU.1 h2).elim h.1 h.2),if_pos h3]; exact weakD_refl _
    · rw [if_neg (fun h2 => (hU.1 h2).elim h.1 h.2),if_neg h3]; exact weakD_refl _
end Go.Proofs.YtfldjfpcefcjdaaGreatDoor
namespace Go.Proofs.YtfldjfpcefcjdaaGreatDoor
open Go Go.Ab
set_option maxRecDepth 100000
def bstS (r b w:List UInt8):List UInt8 := if b.length < w.length∧w.isPrefixOf r = true then w else b
def bstL (r:List UInt8) (l:List (List UInt8)):List UInt8 := l.foldl (bstS r) []
theorem bst_props (r : List UInt8) : ∀ (l : List (List UInt8)) (b : List UInt8), (b = [] ∨ b.isPrefixOf r = true) →
    (l.foldl (bstS r) b = b∨l.foldl (bstS r) b ∈ l)∧(l.foldl (bstS r) b = []∨(l.foldl (bstS r) b).isPrefixOf r = true)∧b.length ≤ (l.foldl (bstS r) b).length∧∀ w ∈ l,w.isPrefixOf r = true→w.length ≤ (l.foldl (bstS r) b).length
  | [],b,h => ⟨.inl rfl,h,Nat.le_refl _,fun w hw => by cases hw⟩
  | v :: l,b,h => by
    have hb:bstS r b v = []∨(bstS r b v).isPrefixOf r = true := by
      unfold bstS
      split
      · rename_i hc; exact .inr hc.2
      · exact h
    obtain ⟨i1,i2,i3,i4⟩ := bst_props r l (bstS r b v) hb
    simp only [List.foldl_cons]
    have hle:b.length ≤ (bstS r b v).length∧(v.isPrefixOf r = true→v.length ≤ (bstS r b v).length)∧(bstS r b v = b∨bstS r b v = v) := by
      unfold bstS
      split
      · rename_i hc; exact ⟨by omega,fun _ => Nat.le_refl _,.inr rfl⟩
      · rename_i hc; exact ⟨Nat.le_refl _,fun hp => by
          refine Nat.le_of_not_lt fun hl => hc ⟨hl,hp⟩,.inl rfl⟩
    refine ⟨?_,i2,by omega,fun w hw hp => ?_⟩
    · rcases i1 with e | e
      · rcases hle.2.2 with q | q
        · exact .inl (e.trans q)
        · right; rw [e,q]; simp
      · right; simp [e]
    · rcases List.mem_cons.1 hw with rfl | hw
      · have := hle.2.1 hp; omega
      · exact i4 w hw hp
theorem sym_lens:(symL.all fun w => decide (w.length = 1) || decide (w.length = 2)) = true := by decide +kernel
theorem pre_take {w r:List UInt8} (h:w.isPrefixOf r = true):w = r.take w.length∧w.length ≤ r.length := by
  have := List.isPrefixOf_iff_prefix.1 h
  exact ⟨(List.prefix_iff_eq_take.1 this),this.length_le⟩
theorem bst_sym (r:List UInt8):bstL r symL = if symL.contains (r.take 2) = true∧2 ≤ r.length then r.take 2 else if symL.contains (r.take 1) = true then r.take 1 else [] := by
  obtain ⟨h1,h2,_,h4⟩ := bst_props r symL [] (.inl rfl)
  have hl:∀ w ∈ symL,w.length = 1∨w.length = 2 := fun w hw => by
    have := List.all_eq_true.1 sym_lens w hw
    simpa using this
  have hp:∀ k,(r.take k).isPrefixOf r = true := fun k => List.isPrefixOf_iff_prefix.2 (List.take_prefix k r)
  unfold bstL
  generalize hb:symL.foldl (bstS r) [] = b at *
  have hmem:1 ≤ b.length→b ∈ symL∧b = r.take b.length∧b.length ≤ r.length := fun h => by
    have hne:b ≠ [] := fun e => by rw [e] at h; exact absurd h (by decide)
    have hm:b ∈ symL := by
      rcases h1 with e | e
      · exact (hne e).elim
      · exact e
    have hq:b.isPrefixOf r = true := by
      rcases h2 with e | e
      · exact (hne e).elim
      · exact e
    exact ⟨hm,pre_take hq⟩
  split
  · rename_i hc
    obtain ⟨c1,c2⟩ := hc
    have c1:r.take 2 ∈ symL := by simpa using c1
    have k1 := h4 _ c1 (hp 2)
    rw [List.length_take,Nat.min_eq_left c2] at k1
    obtain ⟨m1,m2,_⟩ := hmem (by omega)
    have := hl b m1
    rw [m2,show b.length = 2 by omega]
  · rename_i hc
    split
    · rename_i c1
      have c1:r.take 1 ∈ symL := by simpa using c1
      have k1 := h4 _ c1 (hp 1)
      have k2 := hl _ c1
      have k3:(r.take 1).length ≤ 1 := by rw [List.length_take]; omega
      obtain ⟨m1,m2,m3⟩ := hmem (by omega)
      rcases hl b m1 with e | e
      · rw [m2,e]
      · refine (hc ⟨?_,by omega⟩).elim
        rw [e] at m2
        rw [← m2]; simpa using m1
    · rename_i c1
      by_cases h:1 ≤ b.length
      · exfalso
        obtain ⟨m1,m2,m3⟩ := hmem h
        rcases hl b m1 with e | e
        · rw [e] at m2
          rw [m2] at m1
          exact c1 (by simpa using m1)
        · rw [e] at m2
          rw [m2] at m1
          exact hc ⟨by simpa using m1,by omega⟩
      · exact List.length_eq_zero_iff.1 (by omega)
theorem hp_ok (a b:List UInt8):ACalls Tryz.prog 52 [.str a,.str b] ⟨[],[]⟩ (SpecR (sC [.str a,.str b] (.bool (b.isPrefixOf a))) ()) := by
  refine ACalls.of_shelf ⟨_,Tryz.func52,by kernel_rfl,by kernel_rfl⟩ fun C args w ha => ?_
  obtain ⟨u,v,e,hu,hv⟩ := repL_two' ha
  have e2:args = [u,v].toArray := by rw [← e]
  subst e2
  simp only [Rep] at hu hv; subst hu hv
  exact (Tryz.strings_HasPrefix ⟨a.toArray⟩ ⟨b.toArray⟩ w).mono fun e w' ⟨h1,h2⟩ => ⟨⟨_,h1,by simp [Rep,Lib.hasPrefix]⟩,by subst h2; exact Go.RowKit.Below.refl _ _⟩
def conSg (x:Nat) (s:List UInt8) (p:Int) (l:D):Con := fun k ds S => match k with
  | 52 => match ds with
    | [.str a,.str b] => some (pC [.str a,.str b] (.bool (b.isPrefixOf a)) True)
    | _ => none
  | k => conRr x s p l k ds S
theorem conSg_ok (x:Nat) (s:List UInt8) (p:Int) (l:D):ConOk Tryz.prog (conSg x s p l) := by
  intro k ds S A h
  unfold conSg at h
  split at h
  · split at h
    · injection h with h; subst h
      exact pC_ok fun _ => ⟨weakL_refl _,hp_ok _ _⟩
    · cases h
  · exact conRr_ok x s p l _ _ _ _ h
noncomputable def Esg (x:Nat) (s:List UInt8) (p:Nat) (l:D):Senv := { EC (conSg x s p l) 42 1 [2,3,4,6,9,10,11,12,32,36] (fun id => match id with | 5 => ([0,1,2,3,4,5,6,7,8,9,10,11,12,13,14,15,16,17],[16]) | _ => ([],[])) with
  ann := fun b _ S => match b with
    | 0 => some { slots := [11,4,9],keep := [0,2,10],α := Nat,st := fun y => ([.int .i64 y,.str (bstL (s.drop p) (symL.take y)),ssl symL .any],S),inv := fun y => y ≤ 21,mu := fun y => 21 - y }
    | _ => none }
noncomputable section
def tv6q0 (p0:Nat) (p1:List UInt8) (p2:Nat):List UInt8 := bstL (List.drop p0 p1) (List.take p2 symL)
def tv6q1 (p0:Nat):List D := [D.str (List.getD symL p0 [])]
def tv6q2 (p0 p1:Nat) (p2:List UInt8) (p3:Nat) (p4:D) (p5:Nat):Prop := (SM p0∧(SM Z0∧SM Z0∧SM Z0∧SM Z0∧eqOf (List UInt8) [] []∧True)∧SM p1∧(SM p2∧SM (↑p3:Int)∧weakD p4 p4∧True)∧True)∧SM p5∧True
def tv6q3 (p0:Nat):List UInt8 := List.getD symL (Int.toNat (↑p0:Int)) []
def tv6q4 (p0 p1:Nat):Prop := SM (D.ref N0 p0 N0)∧SM (D.ref N1 p1 N0)∧SM (ZI (21:Int))∧True
def tv6q5:Prop := (SM (LN symL)∧(∀ (i:Nat),i < LN symL→SM (tv6q1 i))∧True)∧True
def tv6q6 (p0 p1 p2 p3:Nat) (p4:List UInt8) (p5:D) (p6:Nat):Prop := tv6q4 p0 p1∧∃ (y:Nat),y ≤ (21:Nat)∧(21:Nat) - y < (21:Nat) - p2∧(IntKind.wrap IntKind.i64 ((↑p2:Int) + Z1) = (↑y:Int)∧tv6q0 p3 p4 p2 = tv6q0 p3 p4 y∧tv6q5)∧tv6q2 p1 p0 p4 p3 p5 p6
def tv6q7 (p0:Nat) (p1:List UInt8):D := lexD (symT (List.drop p0 p1))
end
theorem sign_ok (x : Nat) (s : List UInt8) (p : Nat) (l : D) (hp : p < s.length) (_hs : s.length ≤ 4294967296) :
    ACalls Tryz.prog 28 [.ref 0 x 0] (scS x s p l) (SpecR (sSt [.ref 0 x 0] (scS x s p l) (lexD (symT (s.drop p)))) ()) := by
  refine con_of (A := sSt _ _ _) (x := ()) (E := Esg x s p l) (eOk (conSg_ok x s p l) rfl) Tryz.func28 rfl (by kernel_rfl) rfl (by simp [sSt,Esg,EC,E0]) ?_
  refine vc_eq (T :=
    ∀ (x_1:Nat),x ≠ x_1∧True→True∧∀ (t:Nat),(∃ (x_2:Nat),x_2 ≤ (21:Nat)∧(Z0 = (↑x_2:Int)∧eqOf (List UInt8) [] (tv6q0 p s x_2)∧((21:Nat) = LN symL∧(∀ (i:Nat),i < (21:Nat)→(if i < (15:Nat) then [D.str (List.getD [[(43:UInt8)],[(45:UInt8)],[(42:UInt8)],[(37:UInt8)],[(124:UInt8)],[(94:UInt8)],[(60:UInt8)],[(60:UInt8),(61:UInt8)],[(61:UInt8)],[(126:UInt8),(61:UInt8)],[(62:UInt8),(61:UInt8)],[(62:UInt8)],[(44:UInt8)],[(47:UInt8)],[(92:UInt8)]] i [])] else [D.str (List.getD [[(40:UInt8)],[(41:UInt8)],[(123:UInt8)],[(125:UInt8)],[(58:UInt8)],[(60:UInt8),(45:UInt8)]] (i - (15:Nat)) [])]) = tv6q1 i)∧True)∧True)∧tv6q2 x_1 x s p l t)∧∀ (x_2:Nat),x_2 ≤ (21:Nat)→ifB (decide ((↑x_2:Int) < (21:Int))) (side (Z0 ≤ (↑x_2:Int)∧(↑x_2:Int) < (LI symL)) (ifB (decide ((LI (tv6q0 p s x_2)) < (LI (tv6q3 x_2)))) (SM x∧SM x∧side (Z0 ≤ (↑p:Int)∧(↑p:Int) ≤ (LI s)∧(LI s) ≤ (LI s)) (True∧∀ (y:Unit),True→ifB (List.isPrefixOf (tv6q3 x_2) (List.drop (Int.toNat (↑p:Int)) (List.take (TL s) s))) (tv6q4 x x_1∧∃ (y:Nat),y ≤ (21:Nat)∧(21:Nat) - y < (21:Nat) - x_2∧(IntKind.wrap IntKind.i64 ((↑x_2:Int) + Z1) = (↑y:Int)∧tv6q3 x_2 = tv6q0 p s y∧tv6q5)∧tv6q2 x_1 x s p l t) (tv6q6 x x_1 x_2 p s l t))) (tv6q6 x x_1 x_2 p s l t))) (ifB (tv6q0 p s x_2 == []) (SM x_1∧(SM x_1∧True)∧∃ (y:Unit),True∧weakD (D.tup [D.agg [ZI Z0,ZI Z0,ZI Z0,ZI Z0,D.str []],ZI (6:Int)]) (tv6q7 p s)∧(SM x∧(SM s∧SM (↑p:Int)∧weakD l l∧True)∧True)∧True) (SM x_1∧(SM x_1∧True)∧∃ (y:Unit),True∧weakD (D.tup [D.agg [ZI (5:Int),ZI Z0,ZI (LI (tv6q0 p s x_2)),ZI Z0,D.str (tv6q0 p s x_2)],ZI Z0]) (tv6q7 p s)∧(SM x∧(SM s∧SM (↑p:Int)∧weakD l l∧True)∧True)∧True))) (by kernel_rfl) ?_
  delta LI LN N0 N1 SM TL Z0 Z1 ZI tv6q0 tv6q1 tv6q2 tv6q3 tv6q4 tv6q5 tv6q6 tv6q7
  simp only [eq_self,ne_eq,implies_true,weakD_refl,Int.toNat_natCast,ifB_iff,side_iff,decide_eq_true_eq,decide_eq_false_iff_not,true_and,and_true,beq_iff_eq,beq_eq_false_iff_ne,exists_const,forall_const]
  have hL:symL.length = 21 := by decide +kernel
  have hrow:∀ i,i < 21→(if i < 15 then [D.str (([[43],[45],[42],[37],[124],[94],[60],[60,61],[61],[126,61],[62,61],[62],[44],[47],[92]]:List (List UInt8)).getD i [])] else [D.str (([[40],[41],[123],[125],[58],[60,45]]:List (List UInt8)).getD (i - 15) [])]) = [D.str (symL.getD i [])] := by
    have:∀ i:Fin 21,(if i.val < 15 then (([[43],[45],[42],[37],[124],[94],[60],[60,61],[61],[126,61],[62,61],[62],[44],[47],[92]]:List (List UInt8)).getD i.val []) else (([[40],[41],[123],[125],[58],[60,45]]:List (List UInt8)).getD (i.val - 15) [])) = symL.getD i.val [] := by decide +kernel
    intro i hi
    have h := this ⟨i,hi⟩
    split
    · rename_i hc; rw [if_pos hc] at h; rw [h]
    · rename_i hc; rw [if_neg hc] at h; rw [h]
  have stp:∀ i,i < 21→bstL (s.drop p) (symL.take (i + 1)) = bstS (s.drop p) (bstL (s.drop p) (symL.take i)) (symL.getD i []) := fun i hi => by
    unfold bstL
    rw [List.take_add_one,List.getElem?_eq_getElem (by omega),List.getD_eq_getElem?_getD,List.getElem?_eq_getElem (by omega)]
    simp only [Option.toList_some,List.foldl_append,List.foldl_cons,List.foldl_nil,Option.getD_some]
  intro x1 _
  refine ⟨⟨0,Nat.zero_le _,rfl,rfl,by omega,hrow⟩,fun j hj => ⟨fun hlt => ⟨by omega,fun h => ⟨by omega,?_⟩,fun h => ?_⟩,fun hge => ?_⟩⟩
  · rw [List.take_length]
    refine ⟨fun hq => ⟨j + 1,by omega,by omega,by rw [wrap_i64' (by omega) (by omega)]; rfl,?_⟩,fun hq => ⟨j + 1,by omega,by omega,by rw [wrap_i64' (by omega) (by omega)]; rfl,?_⟩⟩
    · rw [stp j (by omega),bstS,if_pos ⟨by omega,hq⟩]
    · rw [stp j (by omega),bstS,if_neg (fun hc => by rw [hq] at hc; exact Bool.noConfusion hc.2)]
  · refine ⟨j + 1,by omega,by omega,by rw [wrap_i64' (by omega) (by omega)]; rfl,?_⟩
    rw [stp j (by omega),bstS,if_neg (fun hc => by omega)]
  · have hall:symL.take j = symL := List.take_of_length_le (by omega)
    rw [hall,bst_sym]
    have hn:¬ symL.contains [] = true := by decide +kernel
    have hd:(s.drop p).length = s.length - p := List.length_drop
    unfold symT
    by_cases h2:symL.contains ((s.drop p).take 2) = true∧2 ≤ (s.drop p).length
    · rw [if_pos h2,if_pos h2]
      have hl:((s.drop p).take 2).length = 2 := by rw [List.length_take]; omega
      refine ⟨fun e => by rw [e] at hl; exact absurd hl (by decide),fun _ => ?_⟩
      rw [hl]; exact weakD_refl _
    · rw [if_neg h2,if_neg h2]
      by_cases h1:symL.contains ((s.drop p).take 1) = true
      · rw [if_pos h1,if_pos h1]
        have hl:((s.drop p).take 1).length = 1 := by rw [List.length_take]; omega
        refine ⟨fun e => by rw [e] at hl; exact absurd hl (by decide),fun _ => ?_⟩
        rw [hl]; exact weakD_refl _
      · rw [if_neg h1,if_neg h1]
        exact ⟨fun _ => weakD_refl _,fun h => (h rfl).elim⟩
end Go.Proofs.YtfldjfpcefcjdaaGreatDoor
namespace Go.Proofs.YtfldjfpcefcjdaaGreatDoor
open Go Go.Ab
set_option maxRecDepth 100000
def lxK:Lex→Int | .error _ => 0 | .ok (k,_,_,_) => k
def lxL:Lex→Int | .error _ => 0 | .ok (_,len,_,_) => len
def lxN:Lex→Int | .error _ => 0 | .ok (_,_,num,_) => num
def lxT:Lex→List UInt8 | .error _ => [] | .ok (_,_,_,text) => text
def lxE:Lex→Int | .error (e,_) => e | .ok _ => 0
def lxA (p:Nat):Lex→Int | .error (_,o) => ((p + o:Nat):Int) | .ok _ => 0
def lxG (r:Lex):D := .agg [.int .i64 (lxK r),.int .i64 0,.int .i64 (lxL r),.int .i64 (lxN r),.str (lxT r)]
theorem lexD_parts (r:Lex):lexD r = .tup [lxG r,.int .i64 (lxE r)] := by
  cases r <;> rfl
theorem litD_parts (p:Nat) (r:Lex):litD p r = .tup [lxG r,.int .i64 (lxA p r),.int .i64 (lxE r)] := by
  cases r <;> rfl
def conOn (x:Nat) (s:List UInt8) (p:Nat) (l:D):Con := fun k ds S => match k with
  | 24 => some (sStP [.ref 0 x 0] (scS x s p l) (.tup [lxG (numT (s.drop p)),.int .i64 (lxE (numT (s.drop p)))]) (p < s.length∧s.length ≤ 4294967296))
  | 26 => some (sStP [.ref 0 x 0] (scS x s p l) (.tup [lxG (wordT (s.drop p)),.int .i64 (lxE (wordT (s.drop p)))]) (p < s.length∧s.length ≤ 4294967296))
  | 28 => some (sStP [.ref 0 x 0] (scS x s p l) (.tup [lxG (symT (s.drop p)),.int .i64 (lxE (symT (s.drop p)))]) (p < s.length∧s.length ≤ 4294967296))
  | 27 => match ds with
    | [_,.int .u8 c] => some (sStP [.ref 0 x 0,.int .u8 c] (scS x s p l) (.tup [lxG (if c = 34 then strT (s.drop p) else charT (s.drop p)),.int .i64 (lxA p (if c = 34 then strT (s.drop p) else charT (s.drop p))),.int .i64 (lxE (if c = 34 then strT (s.drop p) else charT (s.drop p)))]) ((c = 34∨c = 39)∧p < s.length∧s.length ≤ 4294967296))
    | _ => none
  | k => conSg x s p l k ds S
theorem conOn_ok (x:Nat) (s:List UInt8) (p:Nat) (l:D):ConOk Tryz.prog (conOn x s p l) := by
  intro k ds S A h
  unfold conOn at h
  split at h
  · injection h with h; subst h
    refine ConOk.plain (sStP_ok fun ⟨h1,h2⟩ => ?_) rfl rfl
    rw [← lexD_parts]; exact num_ok x s p l h1 h2
  · injection h with h; subst h
    refine ConOk.plain (sStP_ok fun ⟨h1,h2⟩ => ?_) rfl rfl
    rw [← lexD_parts]; exact word_ok x s p l h1 h2
  · injection h with h; subst h
    refine ConOk.plain (sStP_ok fun ⟨h1,h2⟩ => ?_) rfl rfl
    rw [← lexD_parts]; exact sign_ok x s p l h1 h2
  · split at h
    · injection h with h; subst h
      refine ConOk.plain (sStP_ok fun ⟨h0,h1,h2⟩ => ?_) rfl rfl
      rw [← litD_parts]
      rcases h0 with rfl | rfl
      · rw [if_pos rfl]; exact lit34_ok x s p l h1 h2
      · rw [if_neg (by decide)]; exact lit39_ok x s p l h1 h2
    · cases h
  · exact conSg_ok x s p l _ _ _ _ h
def oneD (r:Lex) (z:Int):D := .tup [lxG r,.int .i64 z,.int .i64 (lxE r)]
def oneQ (p:Nat) (r:Lex) (z:Int):Prop := ∀ e o,r = .error (e,o)→z = ((p + o:Nat):Int)
theorem oneQ_lit (p:Nat) (r:Lex):oneQ p r (lxA p r) := by
  intro e o h
  subst h; rfl
theorem oneQ_zero {p:Nat} {r:Lex} (h:∀ e o,r = .error (e,o)→o = 0):oneQ p r (p:Int) := by
  intro e o he
  rw [h e o he]; rfl
theorem num_zero (r:List UInt8):∀ e o,numT r = .error (e,o)→o = 0 := by
  intro e o h
  unfold numT at h
  simp only at h
  repeat' split at h
  all_goals first
    | (injection h with h; injection h with _ h; exact h.symm)
    | cases h
theorem word_zero (r:List UInt8):∀ e o,wordT r = .error (e,o)→o = 0 := by
  intro e o h
  unfold wordT at h
  simp only at h
  repeat' split at h
  all_goals first
    | (injection h with h; injection h with _ h; exact h.symm)
    | cases h
theorem sym_zero (r:List UInt8):∀ e o,symT r = .error (e,o)→o = 0 := by
  intro e o h
  unfold symT at h
  repeat' split at h
  all_goals first
    | (injection h with h; injection h with _ h; exact h.symm)
    | cases h
theorem oneLeaf {p:Nat} {t r:Lex} {z:Int} (ht:t = r) (hz:oneQ p r z):∃ y,oneQ p t y∧(lxK r = lxK t∧lxL r = lxL t∧lxN r = lxN t∧lxT r = lxT t)∧z = y∧lxE r = lxE t := by
  subst ht
  exact ⟨z,hz,⟨rfl,rfl,rfl,rfl⟩,rfl,rfl⟩
noncomputable def Eon (x:Nat) (s:List UInt8) (p:Nat) (l:D):Senv := EC (conOn x s p l) 69 1 [2,3,4,5,6,7,22,30,42,50] (fun id => match id with | 1 => ([0,1,2,3,4,5,6,7,8,9],[]) | 13 => ([0,1,2,3,4,5,6,7,8],[6]) | _ => ([],[]))
noncomputable section
def tv7q0 (p0:List UInt8) (p1:Nat):Int := (BI p0 (Int.toNat (↑p1:Int)))
def tv7q1 (p0:List UInt8) (p1:Nat):Bool := bif tv7q0 p0 p1 == (10:Int) then true else tv7q0 p0 p1 == (59:Int)
def tv7q2 (p0 p1:Nat):Prop := SM p0∧SM (ZI (↑p1:Int))
def tv7q3 (p0:Nat) (p1:List UInt8):Lex := lexT (List.drop p0 p1)
def tv7q4 (p0:Nat) (p1:List UInt8) (p2:Int):Prop := oneQ p0 (tv7q3 p0 p1) p2
def tv7q5 (p0:Nat) (p1:List UInt8):Int := lxK (tv7q3 p0 p1)
def tv7q6 (p0:Nat) (p1:List UInt8):Int := lxL (tv7q3 p0 p1)
def tv7q7 (p0:Nat) (p1:List UInt8):Int := lxN (tv7q3 p0 p1)
def tv7q8 (p0:Nat) (p1:List UInt8):List UInt8 := lxT (tv7q3 p0 p1)
def tv7q9 (p0:Nat) (p1:List UInt8):Int := lxE (tv7q3 p0 p1)
def tv7q10 (p0:Nat) (p1:List UInt8) (p2:Nat) (p3:D):Prop := (SM p0∧(SM p1∧SM (↑p2:Int)∧weakD p3 p3∧True)∧True)∧True
def tv7q11 (p0:List UInt8) (p1:Nat):Prop := Z0 ≤ tv7q0 p0 p1∧tv7q0 p0 p1 < (256:Int)
def tv7q12 (p0:Nat) (p1:List UInt8):Prop := p0 < LN p1∧LN p1 ≤ (4294967296:Nat)
def tv7q13 (p0:Nat) (p1:List UInt8):Lex := numT (List.drop p0 p1)
def tv7q14 (p0:Nat) (p1:List UInt8) (p2:Nat) (p3:D) (p4 p5:Nat):Prop := ∃ (_x:Unit),(SM p0∧True)∧tv7q10 p0 p1 p2 p3∧tv7q12 p2 p1∧∀ (_y:Unit),True→SM p4∧SM p4∧SM p0∧SM p5∧tv7q2 p0 p2∧(SM p5∧True)∧∃ (y:Int),tv7q4 p2 p1 y∧((lxK (tv7q13 p2 p1) = tv7q5 p2 p1∧SM Z0∧lxL (tv7q13 p2 p1) = tv7q6 p2 p1∧lxN (tv7q13 p2 p1) = tv7q7 p2 p1∧lxT (tv7q13 p2 p1) = tv7q8 p2 p1∧True)∧(↑p2:Int) = y∧lxE (tv7q13 p2 p1) = tv7q9 p2 p1∧True)∧tv7q10 p0 p1 p2 p3
def tv7q15 (p0:Nat) (p1:List UInt8):Lex := wordT (List.drop p0 p1)
def tv7q16 (p0:List UInt8) (p1:Nat):Bool := bif tv7q0 p0 p1 == (34:Int) then true else tv7q0 p0 p1 == (39:Int)
def tv7q17 (p0:List UInt8) (p1:Nat):Lex := if tv7q0 p0 p1 = (34:Int) then strT (List.drop p1 p0) else charT (List.drop p1 p0)
def tv7q18 (p0:Nat) (p1:List UInt8):Lex := symT (List.drop p0 p1)
end
theorem one_tok (x : Nat) (s : List UInt8) (p : Nat) (l : D) (hp : p < s.length) (hs : s.length ≤ 4294967296) :
    ACalls Tryz.prog 12 [.ref 0 x 0] (scS x s p l) (SpecR (sStQ [.ref 0 x 0] (scS x s p l) (oneD (lexT (s.drop p))) (oneQ p (lexT (s.drop p))) True) ()) := by
  refine con_of (A := sStQ _ _ _ _ _) (x := ()) (E := Eon x s p l) (eOk (conOn_ok x s p l) rfl) Tryz.func12 rfl (by kernel_rfl) rfl (by simp [sStQ,Eon,EC,E0]) ?_
  refine vc_eq (T :=
    ∀ (x_1:Nat),x ≠ x_1∧True→SM x∧SM x∧side (Z0 ≤ (↑p:Int)∧(↑p:Int) < (LI s)) (∀ (x_2:Nat),x_1 ≠ x_2∧x ≠ x_2∧True→ifB (tv7q0 s p == (10:Int)) (true = tv7q1 s p∧True) ((tv7q0 s p == (59:Int)) = tv7q1 s p∧True)∧ifB (tv7q1 s p) (SM x_2∧SM x_2∧SM x∧SM x_1∧tv7q2 x p∧(SM x_1∧True)∧∃ (y:Int),tv7q4 p s y∧(((6:Int) = tv7q5 p s∧SM Z0∧Z1 = tv7q6 p s∧Z0 = tv7q7 p s∧eqOf (List UInt8) [] (tv7q8 p s)∧True)∧(↑p:Int) = y∧Z0 = tv7q9 p s∧True)∧tv7q10 x s p l) (tv7q11 s p∧∀ (y:Unit),True→ifB (dig (UInt8.ofNat (Int.toNat (tv7q0 s p)))) (tv7q14 x s p l x_2 x_1) (ifB (tv7q0 s p == (95:Int)) (tv7q14 x s p l x_2 x_1) (tv7q11 s p∧∀ (y:Unit),True→ifB (alp (UInt8.ofNat (Int.toNat (tv7q0 s p)))) (∃ (x_3:Unit),(SM x∧True)∧tv7q10 x s p l∧tv7q12 p s∧∀ (y:Unit),True→SM x_2∧SM x_2∧SM x∧SM x_1∧tv7q2 x p∧(SM x_1∧True)∧∃ (y:Int),tv7q4 p s y∧((lxK (tv7q15 p s) = tv7q5 p s∧SM Z0∧lxL (tv7q15 p s) = tv7q6 p s∧lxN (tv7q15 p s) = tv7q7 p s∧lxT (tv7q15 p s) = tv7q8 p s∧True)∧(↑p:Int) = y∧lxE (tv7q15 p s) = tv7q9 p s∧True)∧tv7q10 x s p l) (ifB (tv7q0 s p == (34:Int)) (true = tv7q16 s p∧True) ((tv7q0 s p == (39:Int)) = tv7q16 s p∧True)∧ifB (tv7q16 s p) (∃ (x_3:Unit),(SM x∧SM (tv7q0 s p)∧True)∧tv7q10 x s p l∧((tv7q0 s p = (34:Int)∨tv7q0 s p = (39:Int))∧tv7q12 p s)∧∀ (y:Unit),True→SM x_1∧(SM x_1∧True)∧∃ (y:Int),tv7q4 p s y∧((lxK (tv7q17 s p) = tv7q5 p s∧SM Z0∧lxL (tv7q17 s p) = tv7q6 p s∧lxN (tv7q17 s p) = tv7q7 p s∧lxT (tv7q17 s p) = tv7q8 p s∧True)∧lxA p (tv7q17 s p) = y∧lxE (tv7q17 s p) = tv7q9 p s∧True)∧tv7q10 x s p l) (∃ (x_3:Unit),(SM x∧True)∧tv7q10 x s p l∧tv7q12 p s∧∀ (y:Unit),True→SM x_2∧SM x_2∧SM x∧SM x_1∧tv7q2 x p∧(SM x_1∧True)∧∃ (y:Int),tv7q4 p s y∧((lxK (tv7q18 p s) = tv7q5 p s∧SM Z0∧lxL (tv7q18 p s) = tv7q6 p s∧lxN (tv7q18 p s) = tv7q7 p s∧lxT (tv7q18 p s) = tv7q8 p s∧True)∧(↑p:Int) = y∧lxE (tv7q18 p s) = tv7q9 p s∧True)∧tv7q10 x s p l))))))) (by kernel_rfl) ?_
  delta BI LI LN SM U0 Z0 Z1 ZI tv7q0 tv7q1 tv7q10 tv7q11 tv7q12 tv7q13 tv7q14 tv7q15 tv7q16 tv7q17 tv7q18 tv7q2 tv7q3 tv7q4 tv7q5 tv7q6 tv7q7 tv7q8 tv7q9
  simp only [eq_self,ne_eq,weakD_refl,Int.toNat_natCast,ifB_iff,side_iff,true_and,and_true,beq_iff_eq,Bool.cond_true_left,Bool.or_eq_true,Bool.or_eq_false_iff,beq_eq_false_iff_ne,exists_const,forall_const]
  have ku:∀ (b:UInt8) (n:Nat),n < 256→((b.toNat:Int) = (n:Int)↔b = UInt8.ofNat n) := fun b n hn => ⟨fun h => b_eq h hn,fun h => by rw [h,byteN n hn]⟩
  have k10:∀ b:UInt8,(b.toNat:Int) = 10↔b = 10 := fun b => ku b 10 (by decide)
  have k59:∀ b:UInt8,(b.toNat:Int) = 59↔b = 59 := fun b => ku b 59 (by decide)
  have k95:∀ b:UInt8,(b.toNat:Int) = 95↔b = 95 := fun b => ku b 95 (by decide)
  have k34:∀ b:UInt8,(b.toNat:Int) = 34↔b = 34 := fun b => ku b 34 (by decide)
  have k39:∀ b:UInt8,(b.toNat:Int) = 39↔b = 39 := fun b => ku b 39 (by decide)
  have hob:∀ b:UInt8,UInt8.ofNat b.toNat = b := fun b => by simp
  have e0:(s.drop p).getD 0 0 = s.getD p 0 := by simp [List.getD_eq_getElem?_getD]
  have hlt := (s.getD p 0).toNat_lt
  have orT:∀ {P Q:Bool},P = true→true = (P || Q) := fun h => by rw [h]; rfl
  have orF:∀ {P Q:Bool},P = false→Q = (P || Q) := fun h => by rw [h]; rfl
  have hT:lexT (s.drop p) = (if s.getD p 0 = 10∨s.getD p 0 = 59 then .ok (6,1,0,[]) else if (dig (s.getD p 0) || s.getD p 0 == 95) = true then numT (s.drop p) else if alp (s.getD p 0) = true then wordT (s.drop p) else if s.getD p 0 = 34 then strT (s.drop p) else if s.getD p 0 = 39 then charT (s.drop p) else symT (s.drop p)) := by
    unfold lexT
    simp only [e0]
  simp only [k10,k59,k95,k34,k39,hob]
  intro x1 _
  refine ⟨by omega,fun x2 _ => ⟨⟨fun h => orT (by rw [beq_iff_eq]; exact (k10 _).2 h),fun h => orF (by simpa using fun q => h ((k10 _).1 q))⟩,fun h => ?_,fun ⟨n1,n2⟩ => ⟨by omega,fun hd => ⟨⟨hp,hs⟩,oneLeaf ?_ (oneQ_zero (num_zero _))⟩,fun hd => ⟨fun h95 => ⟨⟨hp,hs⟩,oneLeaf ?_ (oneQ_zero (num_zero _))⟩,fun n95 => ⟨by omega,fun ha => ⟨⟨hp,hs⟩,oneLeaf ?_ (oneQ_zero (word_zero _))⟩,fun na => ⟨⟨fun h => orT (by rw [beq_iff_eq]; exact (k34 _).2 h),fun h => orF (by simpa using fun q => h ((k34 _).1 q))⟩,fun h => ⟨⟨h,hp,hs⟩,oneLeaf ?_ (oneQ_lit _ _)⟩,fun ⟨n34,n39⟩ => ⟨⟨hp,hs⟩,oneLeaf ?_ (oneQ_zero (sym_zero _))⟩⟩⟩⟩⟩⟩⟩
  · rw [hT,if_pos h]
    exact ⟨p,fun e o h => (by cases h),⟨rfl,rfl,rfl,rfl⟩,rfl,rfl⟩
  · rw [hT,if_neg (by rintro (h | h) <;> contradiction),if_pos (by rw [hd]; rfl)]
  · rw [hT,if_neg (by rintro (h | h) <;> contradiction),if_pos (by rw [h95]; decide)]
  · have hb:(s.getD p 0 == 95) = false := by simpa using n95
    rw [hT,if_neg (by rintro (h | h) <;> contradiction),if_neg (by rw [hd,hb]; decide),if_pos ha]
  · have hb:(s.getD p 0 == 95) = false := by simpa using n95
    rw [hT,if_neg (by rintro (h | h) <;> contradiction),if_neg (by rw [hd,hb]; decide),if_neg (by rw [na]; decide)]
    by_cases h34:s.getD p 0 = 34
    · rw [if_pos h34,if_pos h34]
    · rw [if_neg h34,if_neg h34,if_pos (h.resolve_left h34)]
  · have hb:(s.getD p 0 == 95) = false := by simpa using n95
    rw [hT,if_neg (by rintro (h | h) <;> contradiction),if_neg (by rw [hd,hb]; decide),if_neg (by rw [na]; decide),if_neg n34,if_neg n39]
end Go.Proofs.YtfldjfpcefcjdaaGreatDoor
namespace Go.Proofs.YtfldjfpcefcjdaaGreatDoor
open Go Go.Ab
set_option maxRecDepth 100000
def sCh (args:List D) (S S':St) (d:D) (p:Prop):FnSpec where
  β := Unit
  α := Unit
  args := fun _ => args
  st := fun _ => S
  pre := fun _ => p
  post := fun _ _ => True
  res := fun _ _ => .ret d
  out := fun _ _ => S'
def conSk (x:Nat) (s:List UInt8) (l:D):Con := fun k ds _S => match k with
  | 21 => match ds with
    | [_,.int .i64 a,.fn (.func 22) [] []] => some (sStP [.ref 0 x 0,.int .i64 a,.fn (.func 22) [] []] (scS x s a l) (.int .i64 (runT nln s a.toNat:Nat)) (0 ≤ a∧a ≤ s.length∧s.length ≤ maxB))
    | _ => none
  | _ => none
theorem conSk_ok (x:Nat) (s:List UInt8) (l:D):ConOk Tryz.prog (conSk x s l) := by
  have nn:∀ {a:Int},0 ≤ a→((a.toNat:Nat):Int) = a := fun h => by omega
  intro k ds S A h
  unfold conSk at h
  split at h
  · split at h
    · rename_i a
      injection h with h; subst h
      refine ConOk.plain (sStP_ok fun ⟨h1,h2,h3⟩ => ?_) rfl rfl
      have h2' := Int.toNat_le.2 h2
      have := run_nln x s a l _ h2' h3
      rw [nn h1] at this
      exact this
    · cases h
  · cases h
theorem skip_true:∀ r:List UInt8,skipM true r = (r.takeWhile nln).length
  | [] => rfl
  | b :: r => by
    simp only [skipM]
    by_cases h:b = 10
    · have hq:¬ nln b = true := by rw [h]; decide
      rw [if_pos h,List.takeWhile_cons,if_neg hq]; rfl
    · have hq:nln b = true := by unfold nln; simpa using h
      rw [if_neg h,List.takeWhile_cons,if_pos hq,List.length_cons,skip_true r]
theorem skip_nlend:∀ r:List UInt8,skipM false (r.drop (r.takeWhile nln).length) = 0
  | [] => rfl
  | b :: r => by
    by_cases h:b = 10
    · have hq:¬ nln b = true := by rw [h]; decide
      rw [List.takeWhile_cons,if_neg hq,h]; rfl
    · have hq:nln b = true := by unfold nln; simpa using h
      rw [List.takeWhile_cons,if_pos hq,List.length_cons,List.drop_succ_cons,skip_nlend r]
theorem skip_at {s:List UInt8} {a:Nat} (h:a < s.length):skipM false (s.drop a) = if blank (s.getD a 0) = true then skipM false (s.drop (a + 1)) + 1 else if s.getD a 0 = 35 then skipM true (s.drop (a + 1)) + 1 else 0 := by
  rw [List.drop_eq_getElem_cons h]
  simp only [skipM]
  rw [List.getD_eq_getElem?_getD,List.getElem?_eq_getElem h]; rfl
theorem skip_end {s:List UInt8} {a:Nat} (h:¬ a < s.length):skipM false (s.drop a) = 0 := by
  rw [List.drop_eq_nil_of_le (by omega)]; rfl
theorem skip_com {s:List UInt8} {a:Nat} (h:a < s.length) (h35:s.getD a 0 = 35):a + skipM false (s.drop a) = runT nln s a∧skipM false (s.drop (runT nln s a)) = 0∧a < runT nln s a := by
  have hn:nln (s.getD a 0) = true := by rw [h35]; decide
  have hy := runT_yes h hn
  rw [skip_at h,if_neg (by rw [h35]; decide),if_pos h35,skip_true,← hy]
  have := skip_nlend (s.drop (a + 1))
  rw [List.drop_drop] at this
  unfold runT
  exact ⟨by omega,this,by omega⟩
noncomputable def Esk (x:Nat) (s:List UInt8) (p:Nat) (l:D):Senv := { EC (conSk x s l) 44 1 [11,20,21,23,25] (fun id => match id with | 0 => ([0,1,2,3,4,5,6,7,8,9],[]) | 1 => ([0,1,2,3,4,5,6,7,8],[]) | _ => ([],[])) with
  ann := fun b _ _S => match b with
    | 0 => some { slots := [],keep := [0],α := Nat,st := fun y => ([],scS x s y l),inv := fun y => p ≤ y∧y ≤ s.length∧y + skipM false (s.drop y) = p + skipM false (s.drop p),mu := fun y => s.length - y }
    | _ => none }
noncomputable section
def tv8q0 (p0:Nat) (p1:List UInt8):Nat := p0 + skipM false (List.drop p0 p1)
def tv8q1 (p0 p1:Nat) (p2:List UInt8):Prop := p0 ≤ p1∧p1 ≤ LN p2∧tv8q0 p1 p2 = tv8q0 p0 p2
def tv8q2 (p0:List UInt8) (p1:Nat):Int := (BI p0 (Int.toNat (↑p1:Int)))
def tv8q3 (p0 p1:Nat) (p2:List UInt8) (p3:Nat) (p4:D):Prop := SM p0∧SM p0∧(SM (D.ref N0 p0 N0)∧True)∧∃ (y:Nat),tv8q1 p1 y p2∧LN p2 - y < LN p2 - p3∧True∧(SM p0∧(SM p2∧IntKind.wrap IntKind.i64 ((↑p3:Int) + Z1) = (↑y:Int)∧weakD p4 p4∧True)∧True)∧True
def tv8q4 (p0:Nat) (p1:List UInt8) (p2 p3:Nat) (p4:D):Prop := True∧∃ (_y:Unit),True∧True∧(SM p0∧(SM p1∧(↑p2:Int) = (NI (tv8q0 p3 p1))∧weakD p4 p4∧True)∧True)∧True
end
theorem skip_ok (x : Nat) (s : List UInt8) (p : Nat) (l : D) (hp : p ≤ s.length) (hs : s.length ≤ 4294967296) :
    ACalls Tryz.prog 11 [.ref 0 x 0] (scS x s p l) (SpecR (sCh [.ref 0 x 0] (scS x s p l) (scS x s (p + skipM false (s.drop p):Nat) l) (.tup []) True) ()) := by
  refine con_of (A := sCh _ _ _ _ _) (x := ()) (E := Esk x s p l) (eOk (conSk_ok x s l) rfl) Tryz.func11 rfl (by kernel_rfl) rfl (by simp [sCh,Esk,EC,E0]) ?_
  refine vc_eq (T :=
    (∃ (x_1:Nat),tv8q1 p x_1 s∧True∧(SM x∧(SM s∧(↑p:Int) = (↑x_1:Int)∧weakD l l∧True)∧True)∧True)∧∀ (x_1:Nat),tv8q1 p x_1 s→SM x∧SM x∧ifB (decide ((↑x_1:Int) < (LI s))) (SM x∧SM x∧side (Z0 ≤ (↑x_1:Int)∧(↑x_1:Int) < (LI s)) (ifB (tv8q2 s x_1 == (35:Int)) (SM x∧∃ (x_2:Unit),(SM x∧SM (↑x_1:Int)∧SM (D.fn (Fn.func (22:Nat)) [] [])∧True)∧((SM x∧(SM s∧SM (↑x_1:Int)∧weakD l l∧True)∧True)∧True)∧(Z0 ≤ (↑x_1:Int)∧(↑x_1:Int) ≤ (LI s)∧LN s ≤ (140737488351232:Nat))∧∀ (y:Unit),True→SM x∧(SM (D.ref N0 x N0)∧True)∧∃ (y:Nat),tv8q1 p y s∧LN s - y < LN s - x_1∧True∧(SM x∧(SM s∧(NI (runT nln s (Int.toNat (↑x_1:Int)))) = (↑y:Int)∧weakD l l∧True)∧True)∧True) (ifB (tv8q2 s x_1 == (32:Int)) (tv8q3 x p s x_1 l) (ifB (tv8q2 s x_1 == (9:Int)) (ifB (tv8q2 s x_1 == (9:Int)) (tv8q3 x p s x_1 l) (tv8q4 x s x_1 p l)) (ifB (tv8q2 s x_1 == (13:Int)) (tv8q3 x p s x_1 l) (tv8q4 x s x_1 p l)))))) (tv8q4 x s x_1 p l)) (by kernel_rfl) ?_
  delta BI LI LN N0 NI SM U0 Z0 Z1 tv8q0 tv8q1 tv8q2 tv8q3 tv8q4
  simp only [eq_self,ne_eq,weakD_refl,Int.toNat_natCast,ifB_iff,side_iff,decide_eq_true_eq,decide_eq_false_iff_not,true_and,and_true,beq_iff_eq,beq_eq_false_iff_ne,exists_const,forall_const]
  have ku:∀ (b:UInt8) (n:Nat),n < 256→((b.toNat:Int) = (n:Int)↔b = UInt8.ofNat n) := fun b n hn => ⟨fun h => b_eq h hn,fun h => by rw [h,byteN n hn]⟩
  have k35:∀ b:UInt8,(b.toNat:Int) = 35↔b = 35 := fun b => ku b 35 (by decide)
  have k32:∀ b:UInt8,(b.toNat:Int) = 32↔b = 32 := fun b => ku b 32 (by decide)
  have k9:∀ b:UInt8,(b.toNat:Int) = 9↔b = 9 := fun b => ku b 9 (by decide)
  have k13:∀ b:UInt8,(b.toNat:Int) = 13↔b = 13 := fun b => ku b 13 (by decide)
  simp only [k35,k32,k9,k13]
  refine ⟨⟨p,⟨Nat.le_refl _,hp,rfl⟩,rfl⟩,fun a ⟨i1,i2,i3⟩ => ⟨fun hlt => ?_,fun hge => ?_⟩⟩
  · have hlt':a < s.length := by omega
    have hbl:blank (s.getD a 0) = true→∃ y,(p ≤ y∧y ≤ s.length∧y + skipM false (s.drop y) = p + skipM false (s.drop p))∧s.length - y < s.length - a∧IntKind.i64.wrap ((a:Int) + 1) = (y:Int) := fun h => by
      rw [skip_at hlt',if_pos h] at i3
      exact ⟨a + 1,⟨by omega,by omega,by omega⟩,by omega,by rw [wrap_i64' (by omega) (by omega)]; rfl⟩
    have hnb:blank (s.getD a 0) = false→¬ s.getD a 0 = 35→(a:Int) = ((p + skipM false (s.drop p):Nat):Int) := fun h h2 => by
      rw [skip_at hlt',if_neg (by rw [h]; decide),if_neg h2] at i3
      omega
    refine ⟨by omega,fun h => ⟨by omega,?_⟩,fun n35 => ⟨fun h => hbl (by rw [h]; rfl),fun n32 => ⟨fun h => ⟨fun _ => hbl (by rw [h]; rfl),fun h2 => (h2 h).elim⟩,fun n9 => ⟨fun h => hbl (by rw [h]; rfl),fun n13 => hnb ?_ n35⟩⟩⟩⟩
    · obtain ⟨c1,c2,c3⟩ := skip_com hlt' h
      have hle := (runT_le (q := nln) (s := s) (a := a) i2).2
      exact ⟨runT nln s a,⟨by omega,hle,by rw [c2]; omega⟩,by omega,rfl⟩
    · unfold blank
      have e1:(s.getD a 0 == 32) = false := by simpa using n32
      have e2:(s.getD a 0 == 9) = false := by simpa using n9
      have e3:(s.getD a 0 == 13) = false := by simpa using n13
      rw [e1,e2,e3]; rfl
  · rw [skip_end (a := a) (by omega)] at i3
    omega
end Go.Proofs.YtfldjfpcefcjdaaGreatDoor
namespace Go.Proofs.YtfldjfpcefcjdaaGreatDoor
open Go Go.Ab
set_option maxRecDepth 100000
abbrev scK (k x:Nat) (s:List UInt8) (p:Int) (l:D):St := ⟨[(k,x,.cells [.str s,.int .i64 p,l])],[]⟩
theorem skip_k (k x : Nat) (s : List UInt8) (p : Nat) (l : D) (hp : p ≤ s.length) (hs : s.length ≤ 4294967296) :
    ACalls Tryz.prog 11 [.ref k x 0] (scK k x s p l) (SpecR (sCh [.ref k x 0] (scK k x s p l) (scK k x s (p + skipM false (s.drop p):Nat) l) (.tup []) True) ()) := by
  refine ACalls.respec (A := sCh [.ref 0 x 0] (scS x s p l) (scS x s (p + skipM false (s.drop p):Nat) l) (.tup []) True) (x := ()) (skip_ok x s p l hp hs) (A' := sCh [.ref k x 0] (scK k x s p l) (scK k x s (p + skipM false (s.drop p):Nat) l) (.tup []) True) (x' := ()) ?_ ?_ fun y _ => ⟨y,trivial,?_,?_⟩
  · simp [sCh,weakL,weakD,chk]
  · simp [sCh,posS,posO,posT,weakO,weakL,weakD,chk,kEq,weakD_refl]
  · simp [sCh,weakEnd,weakD_refl]
  · simp [sCh,posS,posO,posT,weakO,weakL,weakD,chk,kEq,weakD_refl]
theorem one_k (k x : Nat) (s : List UInt8) (p : Nat) (l : D) (hp : p < s.length) (hs : s.length ≤ 4294967296) :
    ACalls Tryz.prog 12 [.ref k x 0] (scK k x s p l) (SpecR (sStQ [.ref k x 0] (scK k x s p l) (oneD (lexT (s.drop p))) (oneQ p (lexT (s.drop p))) True) ()) := by
  refine ACalls.respec (A := sStQ [.ref 0 x 0] (scS x s p l) (oneD (lexT (s.drop p))) (oneQ p (lexT (s.drop p))) True) (x := ()) (one_tok x s p l hp hs) (A' := sStQ [.ref k x 0] (scK k x s p l) (oneD (lexT (s.drop p))) (oneQ p (lexT (s.drop p))) True) (x' := ()) ?_ ?_ fun y hy => ⟨y,hy,?_,?_⟩
  · simp [sStQ,weakL,weakD,chk]
  · simp [sStQ,posS,posO,posT,weakO,weakL,weakD,chk,kEq,weakD_refl]
  · simp [sStQ,weakEnd,weakD_refl]
  · simp [sStQ,posS,posO,posT,weakO,weakL,weakD,chk,kEq,weakD_refl]
def scFit (x y:Nat) (s:List UInt8) (p:Int):Prop := y = x∧0 ≤ p∧p ≤ s.length∧s.length ≤ 4294967296
def conSc:Con := fun k ds S => match k with
  | 11 => match ds with
    | [.ref g x 0] => match getO S.objs g with
      | some (y,.cells [.str s,.int .i64 p,l]) => some ((sCh [.ref g x 0] (scK g x s p l) (scK g x s (p.toNat + skipM false (s.drop p.toNat):Nat) l) (.tup []) True).fits () (scFit x y s p))
      | _ => none
    | _ => none
  | 12 => match ds with
    | [.ref g x 0] => match getO S.objs g with
      | some (y,.cells [.str s,.int .i64 p,l]) => some ((sStQ [.ref g x 0] (scK g x s p l) (oneD (lexT (s.drop p.toNat))) (oneQ p.toNat (lexT (s.drop p.toNat))) True).fits () (scFit x y s p∧p < s.length))
      | _ => none
    | _ => none
  | _ => none
theorem leS_sc {S:St} {g x y:Nat} {s:List UInt8} {p:Int} {l:D} (hg:getO S.objs g = some (y,.cells [.str s,.int .i64 p,l])) (h:y = x):leS (scK g x s p l) S := by
  subst h
  refine chk_iff.2 ⟨rfl,?_,trivial⟩
  simp only [leO,hg,weakO]
  exact ⟨trivial,weakL_refl _,trivial⟩
theorem conSc_ok:ConOk Tryz.prog conSc := by
  intro k ds S A h
  unfold conSc at h
  split at h
  · split at h
    · split at h
      · rename_i g x _ y s p l hg
        injection h with h; subst h
        refine ⟨fun _ hy => ?_,fun _ _ hy => ?_,fun h => nomatch h⟩
        · obtain ⟨⟨_,h1,h2,h3⟩,_⟩ := hy
          obtain ⟨q,rfl⟩:∃ q:Nat,p = q := ⟨p.toNat,by omega⟩
          exact skip_k g x s q l (by omega) h3
        · obtain ⟨⟨h0,_⟩,_⟩ := hy
          exact ⟨by simp [sCh,FnSpec.fits,weakL,weakD,chk],leS_sc hg h0⟩
      · cases h
    · cases h
  · split at h
    · split at h
      · rename_i g x _ y s p l hg
        injection h with h; subst h
        refine ⟨fun _ hy => ?_,fun _ _ hy => ?_,fun h => nomatch h⟩
        · obtain ⟨⟨⟨_,h1,h2,h3⟩,h4⟩,_⟩ := hy
          obtain ⟨q,rfl⟩:∃ q:Nat,p = q := ⟨p.toNat,by omega⟩
          exact one_k g x s q l (by omega) h3
        · obtain ⟨⟨⟨h0,_⟩,_⟩,_⟩ := hy
          exact ⟨by simp [sStQ,FnSpec.fits,weakL,weakD,chk],leS_sc hg h0⟩
      · cases h
    · cases h
  · cases h
def tsl (l:List Tok) (m:Ab.Mode):D := .sl 5 l.length (fun i => (l.getD i default).row) m
def scL:Except (Int × Nat) (List Tok)→List Tok | .error _ => [] | .ok l => l
def scE:Except (Int × Nat) (List Tok)→Int | .error (e,_) => e | .ok _ => 0
def scA:Except (Int × Nat) (List Tok)→Int | .error (_,a) => (a:Int) | .ok _ => 0
def nilS:D := .sl 1 0 (fun _ => []) .nil
def fltD (e a:Int):D := .agg [.int .i64 e,.int .i64 a,nilS,nilS,.str []]
def rawD:Except (Int × Nat) (List Tok)→D
  | .error (e,a) => .tup [nilS,fltD e a]
  | .ok l => .tup [tsl l .any,fltD 0 0]
def scanD (r:Except (Int × Nat) (List Tok)):D := .tup [tsl (scL r) .any,fltD (scE r) (scA r)]
theorem strGo_err:∀ (n:Nat) (r:List UInt8) (p:Nat) (acc:List UInt8) (e:Int) (o:Nat),strGo n r p acc = .error (e,o)→e ≠ 0
  | 0,r,p,acc,e,o,h => by
    simp only [strGo] at h
    injection h with h; injection h with h _
    omega
  | n + 1,r,p,acc,e,o,h => by
    simp only [strGo] at h
    split at h
    · injection h with h; injection h with h _
      omega
    · split at h
      · cases h
      · split at h
        · injection h with h; injection h with h _
          omega
        · exact strGo_err n _ _ _ e o h
theorem lex_err {r:List UInt8} {e:Int} {o:Nat} (h:lexT r = .error (e,o)):e ≠ 0 := by
  unfold lexT at h
  simp only at h
  split at h
  · cases h
  · split at h
    · unfold numT at h
      simp only at h
      repeat' split at h
      all_goals first
        | (injection h with h; injection h with h _; omega)
        | cases h
    · split at h
      · unfold wordT at h
        simp only at h
        repeat' split at h
        all_goals first
          | (injection h with h; injection h with h _; omega)
          | cases h
      · split at h
        · exact strGo_err _ _ _ _ _ _ h
        · split at h
          · unfold charT at h
            simp only at h
            repeat' split at h
            all_goals first
              | (injection h with h; injection h with h _; omega)
              | cases h
          · unfold symT at h
            repeat' split at h
            all_goals first
              | (injection h with h; injection h with h _; omega)
              | cases h
structure ScI (s:List UInt8) (p:Nat) (l:List Tok):Prop where
  hi:p ≤ s.length
  cap:l.length ≤ 16384
  go:∃ n,s.length - p < n∧scanGo n (s.drop p) p l = scanT s
noncomputable def Esn (s:List UInt8):Senv := { EC conSc 55 1 [2,3,4,5,6,7,10,19,29,36] (fun id => match id with | 11 => ([0,1,2,3,4],[4]) | _ => ([],[])) with
  gh := fun b => match b with
    | 0 => [.cell 1 502]
    | _ => []
  ann := fun b _ S => match b with
    | 0 => some { slots := [],keep := [0,3,4],α := Nat × List Tok × Nat,st := fun y => ([],⟨setO S.objs 1 (.cells [.str s,.int .i64 y.1,tsl y.2.1 (.tok 0 y.2.2)]),[(0,y.2.2)]⟩),inv := fun y => ScI s y.1 y.2.1,mu := fun y => s.length - y.1 }
    | _ => none }
noncomputable section
def tv9q0:D := D.sl N1 N0 (fun (_x:Nat) => []) Mode.nil
def tv9q1:List D := [tv9q0,tv9q0,D.str []]
def tv9q2:List D := ZI Z0 :: tv9q1
def tv9q3 (p0:List UInt8):D := rawD (scanT p0)
def tv9q4 (p0:List Tok) (p1:Nat):List D := Tok.row (List.getD p0 p1 (Tok.mk Z0 Z0 Z0 Z0 []))
def tv9q5:Prop := SM N0∧(∀ (i:Nat),i < N0→eqOf (List D) [] [])∧True
def tv9q6 (p0:Nat):Prop := SM p0∧(SM Z0∧SM Z0∧tv9q5∧tv9q5∧eqOf (List UInt8) [] []∧True)∧True
def tv9q7 (p0:Nat) (p1:List UInt8):Int := (NI (Int.toNat (↑p0:Int) + skipM false (List.drop (Int.toNat (↑p0:Int)) p1)))
def tv9q8 (p0:Nat) (p1:List UInt8):Nat := Int.toNat (tv9q7 p0 p1)
def tv9q9 (p0:Nat) (p1:List UInt8):Lex := lexT (List.drop (tv9q8 p0 p1) p1)
def tv9q10 (p0:Nat) (p1:List UInt8):Int := lxE (tv9q9 p0 p1)
def tv9q11 (p0:Nat) (p1:List UInt8):D := ZI (tv9q7 p0 p1)
def tv9q12 (p0:Nat) (p1:List UInt8):Int := lxL (tv9q9 p0 p1)
end
theorem scan_raw (s:List UInt8) (hs:s.length ≤ 140737488355328):ACalls Tryz.prog 5 [.str s] ⟨[],[]⟩ (SpecR (sC [.str s] (rawD (scanT s))) ()) := by
  refine con_of (A := sC _ _) (x := ()) (E := Esn s) (eOk conSc_ok rfl) Tryz.func5 rfl (by kernel_rfl) rfl (by simp [sC,Esn,EC,E0]) ?_
  refine vc_eq (T :=
    ∀ (x:Nat),True→ifB (decide ((65536:Int) < (LI s))) (SM x∧(SM x∧True)∧∃ (y:Unit),True∧weakD (D.tup [tv9q0,D.agg (ZI (2:Int) :: tv9q2)]) (tv9q3 s)∧True∧True) (∀ (x_1:Nat),x ≠ x_1∧True→SM x_1∧∀ (t:Nat),(∃ (x_2:Nat × List Tok × Nat),ScI s x_2.1 x_2.2.1∧True∧(SM x_1∧(SM s∧Z0 = (NI x_2.1)∧(N0 = LN x_2.2.1∧(∀ (i:Nat),i < N0→eqOf (List D) [] (tv9q4 x_2.2.1 i))∧t = x_2.2.2)∧True)∧tv9q6 x)∧t = x_2.2.2∧True)∧∀ (x_2:Nat × List Tok × Nat),ScI s x_2.1 x_2.2.1→(scFit x_1 x_1 s (NI x_2.1)∧True)∧∀ (y:Unit),True→SM x_1∧ifB (decide ((LI s) ≤ tv9q7 x_2.1 s)) (SM x_1∧SM x∧(SM x∧True)∧∃ (y:Unit),True∧weakD (D.tup [D.sl (5:Nat) (LN x_2.2.1) (fun (i:Nat) => tv9q4 x_2.2.1 i) (Mode.tok N0 x_2.2.2),D.agg (ZI Z0 :: tv9q2)]) (tv9q3 s)∧True∧True) (((scFit x_1 x_1 s (tv9q7 x_2.1 s)∧tv9q7 x_2.1 s < (LI s))∧True)∧∀ (y:Int),oneQ (tv9q8 x_2.1 s) (tv9q9 x_2.1 s) y→∀ (x_3:Nat),x_1 ≠ x_3∧x ≠ x_3∧True→SM x_3∧ifB (tv9q10 x_2.1 s != Z0) (SM x∧(SM x∧True)∧∃ (y_1:Unit),True∧weakD (D.tup [tv9q0,D.agg (ZI (tv9q10 x_2.1 s) :: ZI y :: tv9q1)]) (tv9q3 s)∧True∧True) (SM x_1∧ifB ((LI x_2.2.1) == (16384:Int)) (SM x_1∧SM x∧(SM x∧True)∧∃ (y:Unit),True∧weakD (D.tup [tv9q0,D.agg (ZI (21:Int) :: tv9q11 x_2.1 s :: tv9q1)]) (tv9q3 s)∧True∧True) (SM x_1∧SM x_3∧SM x_1∧SM x_3∧SM x_2.2.2∧side ((LN x_2.2.1 + N1) * (48:Nat) ≤ (140737488355328:Nat)∧LN x_2.2.1 + N1 ≤ (9223372036854775807:Nat)) (∀ (t:Nat),SM x_1∧SM x_1∧SM x_3∧SM x_1∧(SM (D.str s)∧SM (D.ref N0 x N0)∧SM (D.ref N1 x_1 N0)∧True)∧∃ (y:Nat × List Tok × Nat),ScI s y.1 y.2.1∧LN s - y.1 < LN s - x_2.1∧True∧(SM x_1∧(SM s∧IntKind.wrap IntKind.i64 (tv9q7 x_2.1 s + tv9q12 x_2.1 s) = (NI y.1)∧(LN x_2.2.1 + N1 = LN y.2.1∧(∀ (i:Nat),i < LN x_2.2.1 + N1→appF (LN x_2.2.1) (fun (i:Nat) => tv9q4 x_2.2.1 i) (fun (i:Nat) => List.getD [[ZI (lxK (tv9q9 x_2.1 s)),tv9q11 x_2.1 s,ZI (tv9q12 x_2.1 s),ZI (lxN (tv9q9 x_2.1 s)),D.str (lxT (tv9q9 x_2.1 s))]] i []) i = tv9q4 y.2.1 i)∧t = y.2.2)∧True)∧tv9q6 x)∧t = y.2.2∧True)))))) (by kernel_rfl) ?_
  delta LI LN N0 N1 NI SM Z0 ZI tv9q0 tv9q1 tv9q10 tv9q11 tv9q12 tv9q2 tv9q3 tv9q4 tv9q5 tv9q6 tv9q7 tv9q8 tv9q9
  simp only [eq_self,ne_eq,implies_true,Int.toNat_natCast,ifB_iff,side_iff,decide_eq_true_eq,decide_eq_false_iff_not,true_and,and_true,beq_iff_eq,beq_eq_false_iff_ne,exists_const,forall_const]
  have dt:(default:Tok) = { kind := 0,at_ := 0,len := 0,num := 0,text := [] } := rfl
  simp only [← dt]
  intro x
  refine ⟨fun h => ?_,fun h x1 _ t => ⟨⟨(0,[],t),⟨Nat.zero_le _,Nat.zero_le _,s.length + 1,by simp only; omega,?_⟩,⟨rfl,rfl,fun i hi => absurd hi (by omega),rfl⟩,rfl⟩,?_⟩⟩
  · unfold scanT
    rw [if_pos (by omega)]
    exact weakD_refl _
  · unfold scanT
    rw [if_neg (by omega)]
    rfl
  rintro ⟨p,l,t1⟩ ⟨i1,i2,n,i3,i4⟩
  simp only at i1 i2 i3 i4 ⊢
  obtain ⟨n,rfl⟩:∃ k,n = k + 1 := ⟨n - 1,by omega⟩
  have hk := skip_le false (s.drop p)
  rw [List.length_drop] at hk
  simp only [scanGo,List.drop_drop] at i4
  generalize hkk:skipM false (s.drop p) = k at *
  have hnil:s.drop (p + k) = []↔s.length ≤ p + k := List.drop_eq_nil_iff
  refine ⟨⟨rfl,by omega,by omega,by omega⟩,fun hge => ?_,fun hlt => ⟨⟨⟨rfl,by omega,by omega,by omega⟩,by omega⟩,fun y hy x3 _ => ?_⟩⟩
  · rw [if_pos (hnil.2 (by omega))] at i4
    rw [← i4]
    exact ⟨chk_iff.2 ⟨rfl,rfl,fun _ _ => rfl,trivial⟩,weakD_refl _,trivial⟩
  · have hne:s.drop (p + k) ≠ [] := fun e => by have := hnil.1 e; omega
    rw [if_neg hne] at i4
    have hlen := lex_len hne
    have herr:∀ (e:Int) (o:Nat),lexT (s.drop (p + k)) = .error (e,o)→e ≠ 0 := fun e o h => lex_err h
    revert hlen herr hy i4
    generalize lexT (s.drop (p + k)) = r
    intro i4 hy hlen herr
    match r,hy,i4,hlen,herr with
    | .error (e,o),hy,i4,_,herr =>
      have he:e ≠ 0 := herr e o rfl
      have hb:(lxE (.error (e,o)) != 0) = true := by simpa [lxE] using he
      refine ⟨fun _ => ?_,fun h => by rw [hb] at h; exact Bool.noConfusion h⟩
      rw [← i4,hy e o rfl]
      exact weakD_refl _
    | .ok (kd,len,num,text),_,i4,hlen,_ =>
      refine ⟨fun h => Bool.noConfusion h,fun _ => ⟨fun h => ?_,fun h => ⟨by omega,fun t2 => ?_⟩⟩⟩
      · have h:l.length = 16384 := by omega
        simp only [if_pos h] at i4
        rw [← i4]
        exact weakD_refl _
      · have h:¬ l.length = 16384 := by omega
        simp only [if_neg h] at i4
        have hlen:1 ≤ len∧len ≤ (s.drop (p + k)).length := hlen
        rw [List.length_drop] at hlen
        refine ⟨(p + k + len,l ++ [⟨kd,((p + k:Nat):Int),len,num,text⟩],t2),⟨by simp only; omega,by simp only [List.length_append,List.length_cons,List.length_nil]; omega,n,by simp only; omega,?_⟩,by simp only; omega,⟨?_,?_,?_,rfl⟩,rfl⟩
        · simp only
          rw [← i4,Int.natCast_add]
        · have e:lxL (.ok (kd,len,num,text)) = (len:Int) := rfl
          rw [e,wrap_i64' (by omega) (by omega)]
          simp only
          omega
        · simp
        · intro i hi
          simp only [appF]
          by_cases hl:i < l.length
          · rw [if_pos hl]
            simp [List.getD_eq_getElem?_getD,List.getElem?_append_left hl]
          · have e:i = l.length := by omega
            subst e
            rw [if_neg hl,Nat.sub_self]
            simp [List.getD_eq_getElem?_getD,Tok.row,lxK,lxL,lxN,lxT]
theorem tup_wk {C:Ctx} {ds ds':List D} {v:Value} (h:wkL ds ds') (H:Rep C (.tup ds) v):Rep C (.tup ds') v := by
  simp only [Rep] at H ⊢
  obtain ⟨vs,e,hr⟩ := H
  exact ⟨vs,e,wkL_weak _ _ h C _ hr⟩
theorem sC_tup {k:FuncId} {us ds ds':List D} (hw:wkL ds ds') (h:ACalls Tryz.prog k us ⟨[],[]⟩ (SpecR (sC us (.tup ds)) ())):ACalls Tryz.prog k us ⟨[],[]⟩ (SpecR (sC us (.tup ds')) ()) :=
  ⟨h.1,fun C F args w hr hs => (h.2 C F args w hr hs).mono fun e w' ⟨C',r,S',h1,h2,h3,_,_,h5,h6⟩ => ⟨C',.ret (.tup ds'),S',h1,h2,by
    subst h5
    cases e with
    | returned v => exact tup_wk hw h3
    | _ => exact h3.elim,(),trivial,rfl,h6⟩⟩
theorem scan_ok (s:List UInt8) (hs:s.length ≤ 140737488355328):ACalls Tryz.prog 5 [.str s] ⟨[],[]⟩ (SpecR (sC [.str s] (scanD (scanT s))) ()) := by
  have h := scan_raw s hs
  cases hr:scanT s with
  | error z =>
    obtain ⟨e,a⟩ := z
    rw [hr] at h
    refine sC_tup (ds' := [tsl [] .any,fltD e (a:Int)]) ?_ h
    simp only [wkL]
    refine ⟨?_,wkD_refl _,trivial⟩
    unfold nilS tsl
    simp only [wkD]
    exact chk_iff.2 ⟨rfl,rfl,fun i hi => absurd hi (by simp),trivial⟩
  | ok l =>
    rw [hr] at h
    exact h
end Go.Proofs.YtfldjfpcefcjdaaGreatDoor
namespace Go.Proofs.YtfldjfpcefcjdaaGreatDoor
open Go Go.Ab
set_option maxRecDepth 100000
def conTk (base:Con):Con := fun k ds S => match k with
  | 16 => match ds with
    | [.agg [.int .i64 kd,.int .i64 a,.int .i64 ln,.int .i64 nm,.str t]] => some (pC [.agg [.int .i64 kd,.int .i64 a,.int .i64 ln,.int .i64 nm,.str t]] (.str (showTok ⟨kd,a,ln,nm,t⟩)) (inI64 nm∧t.length ≤ 1099511627776))
    | _ => none
  | k => base k ds S
theorem conTk_ok {base:Con} (hb:ConOk Tryz.prog base):ConOk Tryz.prog (conTk base) := by
  intro k ds S A h
  unfold conTk at h
  split at h
  · split at h
    · injection h with h; subst h
      exact pC_ok fun ⟨h1,h2⟩ => ⟨weakL_refl _,text_ok ⟨_,_,_,_,_⟩ h1 h2⟩
    · cases h
  · exact hb _ _ _ _ h
noncomputable def Eto (l:List Tok):Senv := { EC (conTk conJn) 20 1 [2,3,5,6,7,8,9] (fun _ => ([],[])) with
  gh := fun b => match b with
    | 0 => [.slot 3]
    | _ => []
  ann := fun b _ S => match b with
    | 0 => some { slots := [8,3],keep := [0,6,7],α := Nat × Nat,st := fun y => ([.int .i64 y.1,ssl ((l.take y.1).map showTok) (.tok 0 y.2)],⟨S.objs,[(0,y.2)]⟩),inv := fun y => y.1 ≤ l.length,mu := fun y => l.length - y.1 }
    | _ => none }
theorem app_str1 {l:List (List UInt8)} {w:List UInt8}:∀ i,i < l.length + 1→appF l.length (fun i => [D.str (l.getD i [])]) (fun i => [D.str ([w].getD i [])]) i = [D.str ((l ++ [w]).getD i [])] := by
  intro i hi
  simp only [appF]
  by_cases h:i < l.length
  · rw [if_pos h]
    simp [List.getD_eq_getElem?_getD,List.getElem?_append_left h]
  · have e:i = l.length := by omega
    subst e
    rw [if_neg h,Nat.sub_self]
    simp [List.getD_eq_getElem?_getD]
def tokOk (t:Tok):Prop := inI64 t.num∧t.text.length ≤ 1099511627776
noncomputable section
def tq4q0 (p0:Nat) (p1:List Tok):Nat := LN (List.map showTok (List.take p0 p1))
def tq4q1 (p0:Nat) (p1:List Tok) (p2:Nat):List D := [D.str (List.getD (List.map showTok (List.take p0 p1)) p2 [])]
def tq4q2:Tok := Tok.mk Z0 Z0 Z0 Z0 []
def tq4q3 (p0:List Tok) (p1:Nat):Tok := List.getD p0 (Int.toNat (↑p1:Int)) tq4q2
def tq4q4 (p0:List Tok) (p1:Nat):Int := Tok.num (tq4q3 p0 p1)
def tq4q5 (p0:List Tok) (p1:Nat):List UInt8 := Tok.text (tq4q3 p0 p1)
def tq4q6 (p0:Nat) (p1:List Tok):Nat := tq4q0 p0 p1 + N1
def tq4q7 (p0:List Tok) (p1:Nat):Tok := List.getD p0 p1 tq4q2
def tq4q8 (p0:List Tok):D := D.sl (5:Nat) (LN p0) (fun (i:Nat) => [ZI (Tok.kind (tq4q7 p0 i)),ZI (Tok.at_ (tq4q7 p0 i)),ZI (Tok.len (tq4q7 p0 i)),ZI (Tok.num (tq4q7 p0 i)),D.str (Tok.text (tq4q7 p0 i))]) Mode.any
def tq4q9 (p0:List Tok):Prop := SM (tq4q8 p0)
def tq4q10 (p0:Nat) (p1:List Tok):List (List UInt8) := strsOf (tq4q0 p0 p1) fun (i:Nat) => tq4q1 p0 p1 i
end
theorem tshow_ok (l:List Tok) (hl:l.length ≤ 4294967296) (ht:∀ t ∈ l,tokOk t) (hj:(Lib.join (l.map showTok) [32]).length ≤ 140737488355328):ACalls Tryz.prog 9 [tsl l .any] ⟨[],[]⟩ (SpecR (sC [tsl l .any] (.str (Lib.join (l.map showTok) [32]))) ()) := by
  refine con_of (A := sC _ _) (x := ()) (E := Eto l) (eOk (conTk_ok conJn_ok) rfl) Tryz.func9 rfl (by kernel_rfl) rfl (by simp [sC,Eto,EC,E0]) ?_
  refine vc_eq (T :=
    ∀ (t:Nat),(∃ (x:Nat × Nat),x.1 ≤ LN l∧(Z0 = (NI x.1)∧(N0 = tq4q0 x.1 l∧(∀ (i:Nat),i < N0→eqOf (List D) [] (tq4q1 x.1 l i))∧t = x.2)∧True)∧True∧t = x.2∧True)∧∀ (x:Nat × Nat),x.1 ≤ LN l→ifB (decide ((NI x.1) < (LI l))) (side (Z0 ≤ (NI x.1)∧(NI x.1) < (LI l)) (∀ (x_1:Nat),True→SM x_1∧SM x_1∧(inI64 (tq4q4 l x.1)∧LN (tq4q5 l x.1) ≤ (1099511627776:Nat))∧∀ (y:Unit),True→SM x.2∧side (tq4q6 x.1 l * (16:Nat) ≤ (140737488355328:Nat)∧tq4q6 x.1 l ≤ (9223372036854775807:Nat)) (∀ (t:Nat),(tq4q9 l∧tq4q9 l∧SM (ZI (LI l))∧True)∧∃ (y:Nat × Nat),y.1 ≤ LN l∧LN l - y.1 < LN l - x.1∧(IntKind.wrap IntKind.i64 ((NI x.1) + Z1) = (NI y.1)∧(tq4q6 x.1 l = tq4q0 y.1 l∧(∀ (i:Nat),i < tq4q6 x.1 l→appF (tq4q0 x.1 l) (fun (i:Nat) => tq4q1 x.1 l i) (fun (i:Nat) => [D.str (List.getD [showTok (Tok.mk (Tok.kind (tq4q3 l x.1)) (Tok.at_ (tq4q3 l x.1)) (Tok.len (tq4q3 l x.1)) (tq4q4 l x.1) (tq4q5 l x.1))] i [])]) i = tq4q1 y.1 l i)∧t = y.2)∧True)∧True∧t = y.2∧True))) (((strsB (tq4q0 x.1 l) fun (i:Nat) => tq4q1 x.1 l i) = true∧joinOk (tq4q10 x.1 l) [(32:UInt8)])∧∀ (y:Unit),True→True∧∃ (y:Unit),True∧Lib.join (tq4q10 x.1 l) [(32:UInt8)] = Lib.join (List.map showTok l) [(32:UInt8)]∧True∧True)) (by kernel_rfl) ?_
  delta LI LN N0 N1 NI SM Z0 Z1 ZI tq4q0 tq4q1 tq4q10 tq4q2 tq4q3 tq4q4 tq4q5 tq4q6 tq4q7 tq4q8 tq4q9
  simp only [eq_self,Int.toNat_natCast,ifB_iff,side_iff,decide_eq_true_eq,decide_eq_false_iff_not,true_and,and_true,exists_const,forall_const]
  have dt:(default:Tok) = { kind := 0,at_ := 0,len := 0,num := 0,text := [] } := rfl
  simp only [← dt]
  have ex:∀ t:Tok,({ kind := t.kind,at_ := t.at_,len := t.len,num := t.num,text := t.text }:Tok) = t := fun _ => rfl
  have stp:∀ i,i < l.length→(l.take (i + 1)).map showTok = (l.take i).map showTok ++ [showTok (l.getD i default)] := fun i hi => by
    have e:l.take (i + 1) = l.take i ++ [l.getD i default] := by
      rw [List.take_add_one,List.getElem?_eq_getElem hi,List.getD_eq_getElem?_getD,List.getElem?_eq_getElem hi]; rfl
    rw [e,List.map_append]; rfl
  have hso:∀ L:List (List UInt8),strsOf L.length (fun i => [D.str (L.getD i [])]) = L := fun L => strsOf_eq rfl fun _ _ => rfl
  have hsb:∀ L:List (List UInt8),strsB L.length (fun i => [D.str (L.getD i [])]) = true := fun L => strsB_eq (l := L) rfl fun _ _ => rfl
  simp only [hso,hsb]
  have hln:∀ i,((l.take i).map showTok).length ≤ l.length := fun i => by rw [List.length_map,List.length_take]; omega
  intro t
  refine ⟨⟨(0,t),Nat.zero_le _,⟨rfl,rfl,fun i hi => absurd hi (by omega),rfl⟩,rfl⟩,?_⟩
  rintro ⟨i,t1⟩ hi
  simp only at hi ⊢
  have hli := hln i
  refine ⟨fun hlt => ⟨by omega,?_,by omega,fun t2 => ⟨(i + 1,t2),by simp only; omega,by simp only; omega,⟨wrap_i64' (by omega) (by omega),?_,?_,rfl⟩,rfl⟩⟩,fun hge => ?_⟩
  · have hi':i < l.length := by omega
    have hm:l.getD i default ∈ l := by
      rw [List.getD_eq_getElem?_getD,List.getElem?_eq_getElem hi']; exact List.getElem_mem hi'
    exact ht _ hm
  · rw [stp i (by omega),List.length_append]; rfl
  · rw [stp i (by omega)]
    exact app_str1
  · rw [List.take_of_length_le (by omega)]
    refine ⟨⟨by first | rfl | trivial,?_,hj⟩,by first | rfl | trivial⟩
    rw [List.length_map]; omega
end Go.Proofs.YtfldjfpcefcjdaaGreatDoor
namespace Go.Proofs.YtfldjfpcefcjdaaGreatDoor
open Go Go.Ab
set_option maxRecDepth 100000
def jT (sep:List UInt8) (l:List (List UInt8)):List UInt8 := l.flatMap fun x => sep ++ x
theorem join_nil (sep:List UInt8):Lib.join [] sep = [] := by simp [Lib.join,List.intercalate]
def jR (sep:List UInt8) (i:Nat) (l:List (List UInt8)):List UInt8 := if i = 0 then Lib.join l sep else jT sep l
structure JHd (sep:List UInt8) (l:List (List UInt8)) (i:Nat) (out:List UInt8):Prop where
  hi:i ≤ l.length
  ho:out ++ jR sep i (l.drop i) = Lib.join l sep
theorem drop_stepS {l:List (List UInt8)} {i:Nat} (h:i < l.length):l.drop i = l.getD i [] :: l.drop (i + 1) := by
  rw [List.drop_eq_getElem_cons h,List.getD_eq_getElem?_getD,List.getElem?_eq_getElem h]; rfl
theorem JHd.step {sep:List UInt8} {l:List (List UInt8)} {i:Nat} {out:List UInt8} (h:JHd sep l i out) (h0:i ≠ 0) (hlt:i < l.length):JHd sep l (i + 1) (out ++ sep ++ l.getD i []) := by
  refine ⟨by omega,?_⟩
  have := h.ho
  rw [drop_stepS hlt,jR,if_neg h0] at this
  rw [← this,jR,if_neg (by omega)]
  simp [jT]
theorem JHd.len {sep:List UInt8} {l:List (List UInt8)} {i:Nat} {out:List UInt8} (h:JHd sep l i out):out.length ≤ (Lib.join l sep).length := by
  have := congrArg List.length h.ho
  simp only [List.length_append] at this; omega
theorem JHd.done {sep:List UInt8} {l:List (List UInt8)} {i:Nat} {out:List UInt8} (h:JHd sep l i out) (hge:¬ i < l.length):out = Lib.join l sep := by
  have := h.ho
  rw [List.drop_of_length_le (by omega)] at this
  have e:jR sep i [] = [] := by unfold jR; split <;> simp [jT,join_nil]
  rw [e,List.append_nil] at this
  exact this
end Go.Proofs.YtfldjfpcefcjdaaGreatDoor
namespace Go.Proofs.YtfldjfpcefcjdaaGreatDoor
open Go Go.Ab
set_option maxRecDepth 100000
def rowTok:List D→Tok
  | [.int .i64 k,.int .i64 a,.int .i64 n,.int .i64 m,.str t] => ⟨k,a,n,m,t⟩
  | _ => default
def rowTB:List D→Bool
  | [.int .i64 _,.int .i64 _,.int .i64 _,.int .i64 _,.str _] => true
  | _ => false
def toksOf (n:Nat) (f:Nat→List D):List Tok := (List.range n).map fun i => rowTok (f i)
def toksB (n:Nat) (f:Nat→List D):Bool := (List.range n).all fun i => rowTB (f i)
theorem tsl_weak {n:Nat} {f:Nat→List D} {m:Ab.Mode} (h:toksB n f = true):weakD (.sl 5 n f m) (tsl (toksOf n f) .any) := by
  simp only [tsl,weakD,chk_iff]
  refine ⟨by simp,by simp [toksOf],fun i hi => ?_,by cases m <;> simp [weakM]⟩
  have hb:rowTB (f i) = true := List.all_eq_true.1 h i (List.mem_range.2 hi)
  have hg:(toksOf n f).getD i default = rowTok (f i) := by simp [toksOf,List.getD_eq_getElem?_getD,hi]
  rw [hg]
  unfold rowTB at hb
  split at hb
  · rename_i hd; rw [hd]; rfl
  · cases hb
theorem toksOf_eq {n:Nat} {l:List Tok} {F:Nat→List D} (hn:n = l.length) (hF:∀ i,i < n→F i = (l.getD i default).row):toksOf n F = l := by
  subst hn
  apply List.ext_getElem
  · simp [toksOf]
  · intro i h1 h2
    simp only [toksOf,List.getElem_map,List.getElem_range,hF i h2,rowTok,Tok.row,List.getD_eq_getElem?_getD,List.getElem?_eq_getElem h2,Option.getD_some]
theorem toksB_eq {n:Nat} {l:List Tok} {F:Nat→List D} (hn:n = l.length) (hF:∀ i,i < n→F i = (l.getD i default).row):toksB n F = true := by
  subst hn
  simp only [toksB,List.all_eq_true,List.mem_range]
  intro i hi
  rw [hF i hi]; rfl
theorem eqTok (t u:Tok):(t.kind == u.kind && (t.at_ == u.at_ && (t.len == u.len && (t.num == u.num && (t.text == u.text && true))))) = decide (t = u) := by
  obtain ⟨a1,a2,a3,a4,a5⟩ := t
  obtain ⟨b1,b2,b3,b4,b5⟩ := u
  rw [Bool.eq_iff_iff]
  simp only [Bool.and_eq_true,beq_iff_eq,decide_eq_true_eq,Bool.and_true,Tok.mk.injEq]
theorem take_grow {α:Type} [Inhabited α] {a b:List α} {i:Nat} (ha:i < a.length) (hb:i < b.length) (h:a.take i = b.take i) (he:a.getD i default = b.getD i default):a.take (i + 1) = b.take (i + 1) := by
  rw [take_step ha,take_step hb,h,he]
theorem take_all {α:Type} {a b:List α} {i:Nat} (hl:a.length = b.length) (hi:a.length ≤ i) (h:a.take i = b.take i):a = b := by
  rw [List.take_of_length_le hi,List.take_of_length_le (by omega)] at h
  exact h
noncomputable def Esm (a b:List Tok):Senv := { EC con0 26 2 [4,5,10,14,25] (fun id => match id with | 6 => ([0,1,2,3,4,5,6,7,8],[]) | _ => ([],[])) with
  ann := fun k _ S => match k with
    | 0 => some { slots := [5],keep := [0,1],α := Nat,st := fun y => ([.int .i64 y],S),inv := fun y => y ≤ a.length∧a.take y = b.take y,mu := fun y => a.length - y }
    | _ => none }
noncomputable section
def tr1q0 (p0 p1:List Tok):Prop := True∧∃ (_y:Unit),True∧false = decide (p0 = p1)∧True∧True
def tr1q1:Tok := Tok.mk Z0 Z0 Z0 Z0 []
def tr1q2 (p0:List Tok) (p1:Nat):Tok := List.getD p0 (Int.toNat (↑p1:Int)) tr1q1
def tr1q3 (p0:List Tok) (p1:Nat):Int := Tok.kind (tr1q2 p0 p1)
def tr1q4 (p0:List Tok) (p1:Nat):Int := Tok.at_ (tr1q2 p0 p1)
def tr1q5 (p0:List Tok) (p1:Nat):Int := Tok.len (tr1q2 p0 p1)
def tr1q6 (p0:List Tok) (p1:Nat):Int := Tok.num (tr1q2 p0 p1)
def tr1q7 (p0:List Tok) (p1:Nat):List UInt8 := Tok.text (tr1q2 p0 p1)
def tr1q8 (p0:List Tok) (p1:Nat):Tok := List.getD p0 p1 tr1q1
def tr1q9 (p0:List Tok):D := D.sl (5:Nat) (LN p0) (fun (i:Nat) => [ZI (Tok.kind (tr1q8 p0 i)),ZI (Tok.at_ (tr1q8 p0 i)),ZI (Tok.len (tr1q8 p0 i)),ZI (Tok.num (tr1q8 p0 i)),D.str (Tok.text (tr1q8 p0 i))]) Mode.any
def tr1q10 (p0:List Tok):Prop := SM (tr1q9 p0)
end
theorem same_ok (a b:List Tok) (ha:a.length ≤ 140737488355328) (_hb:b.length ≤ 140737488355328):ACalls Tryz.prog 7 [tsl a .any,tsl b .any] ⟨[],[]⟩ (SpecR (sC [tsl a .any,tsl b .any] (.bool (decide (a = b)))) ()) := by
  refine con_of (A := sC _ _) (x := ()) (E := Esm a b) (eOk con0_ok rfl) Tryz.func7 rfl (by kernel_rfl) rfl (by simp [sC,Esm,EC,E0]) ?_
  refine vc_eq (T :=
    ifB ((LI a) != (LI b)) (tr1q0 a b) ((∃ (x:Nat),(x ≤ LN a∧List.take x a = List.take x b)∧(Z0 = (↑x:Int)∧True)∧True∧True)∧∀ (x:Nat),x ≤ LN a∧List.take x a = List.take x b→ifB (decide ((↑x:Int) < (LI a))) (side (Z0 ≤ (↑x:Int)∧(↑x:Int) < (LI a)) (side (Z0 ≤ (↑x:Int)∧(↑x:Int) < (LI b)) (ifB (! (tr1q3 a x == tr1q3 b x && (tr1q4 a x == tr1q4 b x && (tr1q5 a x == tr1q5 b x && (tr1q6 a x == tr1q6 b x && (tr1q7 a x == tr1q7 b x && true)))))) (tr1q0 a b) ((tr1q10 a∧tr1q10 b∧True)∧∃ (y:Nat),(y ≤ LN a∧List.take y a = List.take y b)∧LN a - y < LN a - x∧(IntKind.wrap IntKind.i64 ((↑x:Int) + Z1) = (↑y:Int)∧True)∧True∧True)))) (True∧∃ (y:Unit),True∧true = decide (a = b)∧True∧True))) (by kernel_rfl) ?_
  delta LI LN SM Z0 Z1 ZI tr1q0 tr1q1 tr1q10 tr1q2 tr1q3 tr1q4 tr1q5 tr1q6 tr1q7 tr1q8 tr1q9
  simp only [eq_self,Int.toNat_natCast,ifB_iff,side_iff,decide_eq_true_eq,decide_eq_false_iff_not,true_and,and_true,exists_const]
  have dt:(default:Tok) = { kind := 0,at_ := 0,len := 0,num := 0,text := [] } := rfl
  simp only [← dt,eqTok]
  refine ⟨fun h => ?_,fun h => ⟨⟨0,⟨Nat.zero_le _,by simp⟩,rfl⟩,fun i ⟨i1,i2⟩ => ⟨fun hlt => ?_,fun hge => ?_⟩⟩⟩
  · have h:¬ a = b := fun e => by rw [e] at h; simp at h
    rw [decide_eq_false h]
  · have hl:a.length = b.length := by
      have:(a.length:Int) = (b.length:Int) := by simpa using h
      omega
    refine ⟨by omega,by omega,fun hd => ?_,fun hd => ?_⟩
    · have hne:¬ a.getD i default = b.getD i default := by simpa using hd
      rw [decide_eq_false (fun e => hne (by rw [e]))]
    · have he:a.getD i default = b.getD i default := by simpa using hd
      exact ⟨i + 1,⟨by omega,take_grow (by omega) (by omega) i2 he⟩,by omega,by rw [wrap_i64' (by omega) (by omega)]; rfl⟩
  · have hl:a.length = b.length := by
      have:(a.length:Int) = (b.length:Int) := by simpa using h
      omega
    rw [decide_eq_true (take_all hl (by omega) i2)]
end Go.Proofs.YtfldjfpcefcjdaaGreatDoor
namespace Go.Proofs.YtfldjfpcefcjdaaGreatDoor
open Go Go.Ab
set_option maxRecDepth 100000
noncomputable def Epl (s:List UInt8):Senv := { EC con0 31 1 [2,3,12,16,30] (fun _ => ([],[])) with
  ann := fun k _ S => match k with
    | 0 => some { slots := [3],keep := [0],α := Nat,st := fun y => ([.int .i64 y],S),inv := fun y => y ≤ s.length∧(s.drop y).all (fun b => low b || dig b) = s.all (fun b => low b || dig b),mu := fun y => s.length - y }
    | _ => none }
noncomputable section
def tr2q0 (p0:List UInt8):Prop := True∧∃ (_y:Unit),True∧false = plainB p0∧True∧True
def tr2q1 (p0:List UInt8):Bool := bif decide ((97:Int) ≤ (BI p0 N0)) then decide ((BI p0 N0) ≤ (122:Int)) else false
def tr2q2 (p0:UInt8):Bool := low p0 || dig p0
def tr2q3 (p0:Nat) (p1:List UInt8):Prop := p0 ≤ LN p1∧(List.all (List.drop p0 p1) fun (b:UInt8) => tr2q2 b) = List.all p1 fun (b:UInt8) => tr2q2 b
def tr2q4 (p0:List UInt8) (p1:Nat):Int := (BI p0 (Int.toNat (↑p1:Int)))
def tr2q5 (p0:List UInt8) (p1:Nat):Bool := bif decide ((97:Int) ≤ tr2q4 p0 p1) then decide (tr2q4 p0 p1 ≤ (122:Int)) else false
def tr2q6 (p0:List UInt8) (p1:Nat):Bool := bif decide ((48:Int) ≤ tr2q4 p0 p1) then decide (tr2q4 p0 p1 ≤ (57:Int)) else false
def tr2q7 (p0:List UInt8) (p1:Nat):Prop := (SM (D.str p0)∧True)∧∃ (y:Nat),tr2q3 y p0∧LN p0 - y < LN p0 - p1∧(IntKind.wrap IntKind.i64 ((↑p1:Int) + Z1) = (↑y:Int)∧True)∧True∧True
end
theorem plain_ok (s:List UInt8) (hs:s.length ≤ 140737488355328):ACalls Tryz.prog 57 [.str s] ⟨[],[]⟩ (SpecR (sC [.str s] (.bool (plainB s))) ()) := by
  refine con_of (A := sC _ _) (x := ()) (E := Epl s) (eOk con0_ok rfl) Tryz.func57 rfl (by kernel_rfl) rfl (by simp [sC,Epl,EC,E0]) ?_
  refine vc_eq (T :=
    ifB ((LI s) == Z0) (tr2q0 s) (side (Z0 ≤ Z0∧Z0 < (LI s)) (ifB (decide ((97:Int) ≤ (BI s N0))) (decide ((BI s N0) ≤ (122:Int)) = tr2q1 s∧True) (false = tr2q1 s∧True)∧True∧ifB (!tr2q1 s) (tr2q0 s) ((∃ (x:Nat),tr2q3 x s∧(Z0 = (↑x:Int)∧True)∧True∧True)∧∀ (x:Nat),tr2q3 x s→ifB (decide ((↑x:Int) < (LI s))) (side (Z0 ≤ (↑x:Int)∧(↑x:Int) < (LI s)) (ifB (decide ((97:Int) ≤ tr2q4 s x)) (decide (tr2q4 s x ≤ (122:Int)) = tr2q5 s x∧True) (false = tr2q5 s x∧True)∧True∧ifB (!tr2q5 s x) (side (Z0 ≤ (↑x:Int)∧(↑x:Int) < (LI s)) (ifB (decide ((48:Int) ≤ tr2q4 s x)) (decide (tr2q4 s x ≤ (57:Int)) = tr2q6 s x∧True) (false = tr2q6 s x∧True)∧True∧ifB (!tr2q6 s x) (tr2q0 s) (tr2q7 s x))) (tr2q7 s x))) (True∧∃ (y:Unit),True∧true = plainB s∧True∧True))))) (by kernel_rfl) ?_
  delta BI LI LN N0 SM U0 Z0 Z1 tr2q0 tr2q1 tr2q2 tr2q3 tr2q4 tr2q5 tr2q6 tr2q7
  simp only [eq_self,ne_eq,Int.toNat_natCast,ifB_iff,side_iff,decide_eq_true_eq,decide_eq_false_iff_not,true_and,and_true,beq_iff_eq,Bool.cond_false_right,beq_eq_false_iff_ne,exists_const]
  have lowI:∀ b:UInt8,(decide (97 ≤ (b.toNat:Int)) && decide ((b.toNat:Int) ≤ 122)) = low b := fun b => by
    unfold low
    rw [Bool.eq_iff_iff]
    simp only [Bool.and_eq_true,decide_eq_true_eq]
    omega
  have digI:∀ b:UInt8,(decide (48 ≤ (b.toNat:Int)) && decide ((b.toNat:Int) ≤ 57)) = dig b := fun b => by
    rw [Bool.eq_iff_iff,dig_iff]
    simp only [Bool.and_eq_true,decide_eq_true_eq]
  have rng:∀ {A B:Prop} [Decidable A] [Decidable B],(A→decide B = (decide A && decide B))∧(¬ A→false = (decide A && decide B)) := ⟨fun h => dec_and1 h,fun h => dec_and0 h⟩
  refine ⟨fun h => ?_,fun h => ⟨by omega,rng,?_⟩⟩
  · have:s = [] := List.length_eq_zero_iff.1 (by omega)
    subst this; rfl
  have hne:s.isEmpty = false := by
    cases s with
    | nil => exact (h rfl).elim
    | cons => rfl
  rw [lowI]
  refine ⟨fun h0 => ?_,fun h0 => ⟨⟨0,⟨Nat.zero_le _,rfl⟩,rfl⟩,fun i ⟨i1,i2⟩ => ⟨fun hlt => ⟨by omega,rng,?_⟩,fun hge => ?_⟩⟩⟩
  · have h0:low (s.getD 0 0) = false := by simpa using h0
    unfold plainB
    rw [h0,hne]; rfl
  · have hi:i < s.length := by omega
    have hd:s.drop i = s.getD i 0 :: s.drop (i + 1) := by
      rw [List.drop_eq_getElem_cons hi,List.getD_eq_getElem?_getD,List.getElem?_eq_getElem hi]; rfl
    rw [hd,List.all_cons] at i2
    rw [lowI]
    have nx:(low (s.getD i 0) || dig (s.getD i 0)) = true→∃ y,(y ≤ s.length∧(s.drop y).all (fun b => low b || dig b) = s.all (fun b => low b || dig b))∧s.length - y < s.length - i∧IntKind.i64.wrap ((i:Int) + 1) = (y:Int) := fun hc => by
      rw [hc,Bool.true_and] at i2
      exact ⟨i + 1,⟨by omega,i2⟩,by omega,by rw [wrap_i64' (by omega) (by omega)]; rfl⟩
    refine ⟨fun hl => ⟨by omega, rng, ?_⟩, fun hl => nx (by have : low (s.getD i 0) = true := by simpa using hl
                                                            rw [this]; rfl)⟩
    have hl:low (s.getD i 0) = false := by simpa using hl
    rw [digI]
    refine ⟨fun hg => ?_, fun hg => nx (by have : dig (s.getD i 0) = true := by simpa using hg
                                           rw [this,hl]; rfl)⟩
    have hg:dig (s.getD i 0) = false := by simpa using hg
    rw [hl,hg] at i2
    unfold plainB
    rw [← i2]
    cases (!s.isEmpty && low (s.getD 0 0)) <;> rfl
  · have h0:low (s.getD 0 0) = true := by simpa using h0
    rw [List.drop_of_length_le (by omega)] at i2
    unfold plainB
    rw [← i2,h0,hne]; rfl
end Go.Proofs.YtfldjfpcefcjdaaGreatDoor
