/- Functions of the given program and what each of them computes: lemmas towards the statement, their conditions stated with each of them. -/
import Derived.Test.YtoglbmhkfkghbaaD1
namespace Go.Proofs.Ytoglbmhkfkghbaa
open Go Go.Ab
noncomputable def Enum:Senv := EC con0 9 1 [2] (fun _ => ([],[]))
noncomputable section
def ar3q0 (p0:Int):Bool := bif decide ((-4611686018427387903:Int) ≤ p0) then decide (p0 ≤ (4611686018427387903:Int)) else false
end
theorem num_ok (z:Int):ACalls Try.prog 58 [.int .i64 z] ⟨[],[]⟩ (SpecR (sC [.int .i64 z] (.bool (numB z))) ()) := by
  refine con_of (A := sC _ _) (x := ()) (E := Enum) (eOk con0_ok rfl) Try.func58 rfl (by kernel_rfl) rfl (by simp [sC,Enum,EC,E0]) ?_
  refine vc_eq (T :=
    ifB (decide ((-4611686018427387903:Int) ≤ z)) (decide (z ≤ (4611686018427387903:Int)) = ar3q0 z∧True) (false = ar3q0 z∧True)∧True∧∃ (y:Unit),True∧ar3q0 z = numB z∧True∧True) (by kernel_rfl) ?_
  delta ar3q0
  simp only [ifB_iff,decide_eq_true_eq,decide_eq_false_iff_not,true_and,and_true,Bool.cond_false_right,exists_const]
  refine ⟨⟨fun h => by rw [decide_eq_true h]; rfl,fun h => by rw [decide_eq_false h]; rfl⟩,rfl⟩
noncomputable def Echr:Senv := EC con0 17 1 [2] (fun _ => ([],[]))
noncomputable section
def ar3q1 (p0:Int):Bool := bif bif decide (Z0 ≤ p0) then decide (p0 ≤ (1114111:Int)) else false then bif decide (p0 < (55296:Int)) then true else decide ((57343:Int) < p0) else false
def ar3q2 (p0:Int):Prop := false = ar3q1 p0∧True
end
theorem chr_ok (z:Int):ACalls Try.prog 59 [.int .i64 z] ⟨[],[]⟩ (SpecR (sC [.int .i64 z] (.bool (chrB z))) ()) := by
  refine con_of (A := sC _ _) (x := ()) (E := Echr) (eOk con0_ok rfl) Try.func59 rfl (by kernel_rfl) rfl (by simp [sC,Echr,EC,E0]) ?_
  refine vc_eq (T :=
    ifB (decide (Z0 ≤ z)) (ifB (decide (z ≤ (1114111:Int))) (ifB (decide (z < (55296:Int))) (true = ar3q1 z∧True) (decide ((57343:Int) < z) = ar3q1 z∧True)) (ar3q2 z)) (ar3q2 z)∧True∧∃ (y:Unit),True∧ar3q1 z = chrB z∧True∧True) (by kernel_rfl) ?_
  delta Z0 ar3q1 ar3q2
  simp only [ifB_iff,decide_eq_true_eq,decide_eq_false_iff_not,true_and,and_true,Bool.cond_false_right,Bool.cond_true_left,exists_const]
  refine ⟨⟨fun h1 => ⟨fun h2 => ⟨fun h3 => by simp [h1,h2,h3],fun h3 => by simp [h1,h2,h3]⟩,fun h2 => by simp [h1,h2]⟩,fun h1 => by simp [h1]⟩,rfl⟩
def sVis (row:Arr→List D) (xb:Nat) (q:Arr→Prop):FnSpec where
  β := Arr
  α := Unit
  args := fun a => [.agg (row a),.ref 1 xb 0]
  st := fun _ => ⟨[(1,xb,.cells [.fn (.func 56) [] [.ref 1 xb 0]])],[]⟩
  pre := q
  post := fun _ _ => True
  res := fun a _ => .ret (.tup [.int .i64 (chkA a).1,.int .i64 (chkA a).2.1,.int .i64 (chkA a).2.2])
  out := fun _ _ => ⟨[(1,xb,.cells [.fn (.func 56) [] [.ref 1 xb 0]])],[]⟩
def conVis (xb:Nat) (its:List Arr):Con := fun k ds S => match k with
  | 56 => some (sVis Arr.row1 xb (fun b => b ∈ its))
  | 57 => match ds with
    | [.agg [.int .i64 k,.sl 1 n f _,.sl 1 nn _g _,.sl 4 ni _h _]] => some (pC ds (.int .i64 (formS k (intsD n f) nn ni)) (IntsP n f∧n ≤ maxLen∧nn ≤ maxLen∧ni ≤ maxLen))
    | _ => none
  | 58 => match ds with
    | [.int .i64 z] => some (pC [.int .i64 z] (.bool (numB z)) True)
    | _ => none
  | 59 => match ds with
    | [.int .i64 z] => some (pC [.int .i64 z] (.bool (chrB z)) True)
    | _ => none
  | k => conAr k ds S
theorem conVis_ok {xb:Nat} {its:List Arr} (ih:∀ b ∈ its,ACalls Try.prog 56 ((sVis Arr.row2 xb (fun _ => True)).args b) ((sVis Arr.row2 xb (fun _ => True)).st b) (SpecR (sVis Arr.row2 xb (fun _ => True)) b)):ConOk Try.prog (conVis xb its) := by
  intro k ds S A h
  unfold conVis at h
  split at h
  · injection h with h; subst h
    refine ConOk.plain (fun b hb => ?_) rfl rfl
    refine ((ih b hb).wkArgs ?_).mono fun _ _ ⟨y,h1,h2,h3⟩ => ⟨y,h1,h2,h3⟩
    simp only [sVis,wkL,wkD]
    exact ⟨row1_wk b,by simp [weakD,chk_iff]⟩
  · split at h
    · rename_i k n f _ nn g _ ni g' _
      injection h with h; subst h
      refine pC_ok fun ⟨h1,h2,h3,h4⟩ => ⟨weakL_refl _,sC_weak (us := [.agg [.int .i64 k,isl (intsD n f) .any,.sl 1 nn g .any,.sl 4 ni g' .any]]) ?_ (form_ok _ _ _ _ _ _ (by rw [intsD_len]; exact h2) h3 h4)⟩
      refine ⟨?_,trivial⟩
      simp only [weakD,weakL]
      refine ⟨by simp [chk_iff,kEq],(isl_weak h1).1,?_,?_,trivial⟩
      · simp [chk_iff,weakM]
      · simp [chk_iff,weakM]
    · cases h
  · split at h
    · injection h with h; subst h
      exact pC_ok fun _ => ⟨weakL_refl _,num_ok _⟩
    · cases h
  · split at h
    · injection h with h; subst h
      exact pC_ok fun _ => ⟨weakL_refl _,chr_ok _⟩
    · cases h
  · exact conAr_ok _ _ _ _ h
theorem chkA_eq (a : Arr) : chkA a = if formS a.k a.sh a.nu.length a.it.length ≠ 0 then (formS a.k a.sh a.nu.length a.it.length, 0, 0)
    else if a.nu.any (badK a.k) then (17,0,0)
    else match chkL a.it 0 ((a.nu.length:Int) + a.it.length) with
      | none => (17,0,0)
      | some r => if 16 < r.1∨262144 < r.2 then (21,0,0) else (0,r.1,r.2) := by
  cases a with
  | mk k s n is => rw [chkA]; rfl
theorem sizeS_le {s:List Int}:sizeS s ≤ 65536 := by
  unfold sizeS
  split
  · omega
  · cases hg:goO s 1 with
    | none => simp
    | some p => have := goO_le s 1 (by omega) p hg; simpa using this
theorem form_small {k:Int} {s:List Int} {nn ni:Nat} (h:formS k s nn ni = 0):nn ≤ 65536∧ni ≤ 65536 := by
  have hs := sizeS_le (s := s)
  unfold formS at h
  by_cases hk:k = 1∨k = 2∨k = 3
  · rw [if_pos hk] at h
    by_cases hd:dimsS s ≠ 0
    · rw [if_pos hd] at h; exact (hd h).elim
    · rw [if_neg hd] at h
      by_cases hc:((if k = 3 then (ni:Int) else nn) ≠ sizeS s)∨((if k = 3 then (nn:Int) else ni) ≠ 0)
      · rw [if_pos hc] at h; omega
      · simp only [not_or,ne_eq,Decidable.not_not] at hc
        obtain ⟨c1,c2⟩ := hc
        by_cases k3:k = 3 <;> simp only [k3,if_true,if_false] at c1 c2 <;> omega
  · rw [if_neg hk] at h; omega
theorem mem_getD {α:Type} [Inhabited α] {l:List α} {i:Nat} (h:i < l.length):l.getD i default ∈ l := by
  rw [List.getD_eq_getElem?_getD,List.getElem?_eq_getElem h]; exact List.getElem_mem h
def cutV (k:Int) (d8:D) (S:St):Option LoopAnn :=
  match d8 with
  | .int _ z => some { slots := [45],keep := [],α := Unit,st := fun _ => ([.bool (badK k z)],S),inv := fun _ => True,mu := fun _ => 0 }
  | _ => none
noncomputable def Evis (xb:Nat) (a:Arr):Senv := { EC (conVis xb a.it) 87 7 [8,9,10,12,13,14,15,19,22,23,24,25,45,55,56,57,58,69,84] (fun id => match id with | 10 => ([0,1,2,3,4,5,6,7,8],[]) | _ => ([],[])) with
  cut := fun id env S => match id with
    | 7 => cutV a.k (Ab.look env 8) S
    | _ => none
  ann := fun b _ S => match b with
    | 0 => some { slots := [24],keep := [0,1,2,22,23],α := Nat,st := fun i => ([.int .i64 i],S),inv := fun i => i ≤ a.nu.length∧∀ z ∈ a.nu.take i,badK a.k z = false,mu := fun i => a.nu.length - i }
    | 2 => some { slots := [57,9,10],keep := [0,1,2,55,56],α := Nat × Int × Int,st := fun y => ([.int .i64 y.1,.int .i64 y.2.1,.int .i64 y.2.2],S),inv := fun y => y.1 ≤ a.it.length∧0 ≤ y.2.1∧y.2.1 ≤ 17∧0 ≤ y.2.2∧y.2.2 ≤ 262145∧chkL (a.it.drop y.1) y.2.1 y.2.2 = chkL a.it 0 ((a.nu.length:Int) + a.it.length),mu := fun y => a.it.length - y.1 }
    | _ => none }
noncomputable section
def ar3q3 (p0:Arr):Nat := LN (Arr.sh p0)
def ar3q4 (p0:Arr) (p1:Nat):List D := [ZI (GI (Arr.sh p0) p1)]
def ar3q5 (p0:Arr):List Int := Arr.nu p0
def ar3q6 (p0:Arr):Nat := LN (ar3q5 p0)
def ar3q7 (p0:Arr):List Arr := Arr.it p0
def ar3q8 (p0:Arr):Nat := LN (ar3q7 p0)
def ar3q9 (p0:Arr):Int := Arr.k p0
def ar3q10 (p0:Arr):Int := formS (ar3q9 p0) (intsD (ar3q3 p0) fun (i:Nat) => ar3q4 p0 i) (ar3q6 p0) (ar3q8 p0)
def ar3q11 (p0:Arr):Int := Prod.fst (chkA p0)
def ar3q12 (p0:Arr):Prop := Z0 = Prod.fst (Prod.snd (chkA p0))∧Z0 = Prod.snd (Prod.snd (chkA p0))∧True
def ar3q13 (p0:Nat):Prop := SM p0∧(SM (D.fn (Fn.func (56:Nat)) [] [D.ref N1 p0 N0])∧True)∧True
def ar3q14 (p0:Nat):Prop := ar3q13 p0∧True
def ar3q15 (p0:Nat) (p1:Arr):Prop := p0 ≤ ar3q6 p1∧∀ (z:Int),z ∈ List.take p0 (ar3q5 p1)→badK (ar3q9 p1) z = false
def ar3q16 (p0:Arr) (p1:Nat):List D := [ZI (GI (ar3q5 p0) p1)]
def ar3q17:Arr := DA
def ar3q18 (p0:Arr) (p1:Nat):Arr := List.getD (ar3q7 p0) p1 ar3q17
def ar3q19 (p0:Arr) (p1:Nat):List Int := Arr.sh (ar3q18 p0 p1)
def ar3q20 (p0:Arr) (p1:Nat):List Int := Arr.nu (ar3q18 p0 p1)
def ar3q21 (p0:Arr) (p1:Nat):List Arr := Arr.it (ar3q18 p0 p1)
def ar3q22 (p0:Arr) (p1:Nat):List D := [ZI (Arr.k (ar3q18 p0 p1)),SI (ar3q19 p0 p1),SI (ar3q20 p0 p1),D.sl N4 (LN (ar3q21 p0 p1)) (fun (i:Nat) => Arr.row (List.getD (ar3q21 p0 p1) i ar3q17)) Mode.any]
def ar3q23 (p0:Nat) (p1:Arr) (p2:Nat):Prop := (SM p0∧(SM (ar3q9 p1)∧(SM (ar3q3 p1)∧(∀ (i:Nat),i < ar3q3 p1→SM (ar3q4 p1 i))∧True)∧(SM (ar3q6 p1)∧(∀ (i:Nat),i < ar3q6 p1→SM (ar3q16 p1 i))∧True)∧(SM (ar3q8 p1)∧(∀ (i:Nat),i < ar3q8 p1→SM (ar3q22 p1 i))∧True)∧True)∧ar3q13 p2)∧True
def ar3q24 (p0:Arr):Int := (NI (ar3q6 p0))
def ar3q25 (p0:Arr) (p1:Nat):Int := GI (ar3q5 p0) (Int.toNat (↑p1:Int))
def ar3q26 (p0:Arr) (p1:Nat):Bool := badK (ar3q9 p0) (ar3q25 p0 p1)
def ar3q27 (p0:Nat) (p1:Arr) (p2 p3:Nat):Prop := SM p0∧ifB (ar3q9 p1 == (2:Int)) (True∧∀ (_y:Unit),True→∃ (_x:Unit),True∧((!chrB (ar3q25 p1 p2)) = ar3q26 p1 p2∧True)∧ar3q23 p0 p1 p3) (∃ (_x:Unit),True∧(false = ar3q26 p1 p2∧True)∧ar3q23 p0 p1 p3)
def ar3q28 (p0:Arr) (p1:Nat):Prop := True∧∃ (_y:Unit),True∧((17:Int) = ar3q11 p0∧ar3q12 p0)∧ar3q14 p1
def ar3q29 (p0:Arr):D := D.sl N1 (ar3q6 p0) (fun (i:Nat) => ar3q16 p0 i) Mode.any
def ar3q30 (p0:Arr):D := D.sl N4 (ar3q8 p0) (fun (i:Nat) => ar3q22 p0 i) Mode.any
def ar3q31 (p0:Arr):D := D.agg [ZI (ar3q9 p0),D.sl N1 (ar3q3 p0) (fun (i:Nat) => ar3q4 p0 i) Mode.any,ar3q29 p0,ar3q30 p0]
def ar3q32 (p0:Arr):Prop := SM (ar3q31 p0)
def ar3q33 (p0:Arr):Int := (NI (ar3q8 p0))
def ar3q34 (p0:Arr):Int := ar3q24 p0 + ar3q33 p0
def ar3q35 (p0:Nat) (p1:Arr) (p2 p3:Int):Prop := p0 ≤ ar3q8 p1∧Z0 ≤ p2∧p2 ≤ (17:Int)∧Z0 ≤ p3∧p3 ≤ (262145:Int)∧chkL (List.drop p0 (ar3q7 p1)) p2 p3 = chkL (ar3q7 p1) Z0 (ar3q34 p1)
def ar3q36 (p0:Arr) (p1:Nat):Arr := List.getD (ar3q7 p0) (Int.toNat (↑p1:Int)) ar3q17
def ar3q37 (p0:Arr) (p1:Nat):List Int := Arr.sh (ar3q36 p0 p1)
def ar3q38 (p0:Arr) (p1:Nat):Nat := LN (ar3q37 p0 p1)
def ar3q39 (p0:Arr) (p1:Nat):List Int := Arr.nu (ar3q36 p0 p1)
def ar3q40 (p0:Arr) (p1:Nat):Nat := LN (ar3q39 p0 p1)
def ar3q41 (p0:Arr) (p1:Nat):List Arr := Arr.it (ar3q36 p0 p1)
def ar3q42 (p0:Arr) (p1:Nat):Nat := LN (ar3q41 p0 p1)
def ar3q43 (p0 p1:Int):Bool := bif decide ((16:Int) < p0) then true else decide ((262144:Int) < p1)
end
theorem vis_step (xb : Nat) (a : Arr) (ha : a.nu.length ≤ maxLen ∧ a.it.length ≤ maxLen ∧ a.sh.length ≤ maxLen) (ih : ∀ b ∈ a.it, ACalls Try.prog 56 ((sVis Arr.row2 xb (fun _ => True)).args b) ((sVis Arr.row2 xb (fun _ => True)).st b) (SpecR (sVis Arr.row2 xb (fun _ => True)) b)) :
    ACalls Try.prog 56 ((sVis Arr.row2 xb (fun _ => True)).args a) ((sVis Arr.row2 xb (fun _ => True)).st a) (SpecR (sVis Arr.row2 xb (fun _ => True)) a) := by
  refine con_of (A := sVis Arr.row2 xb (fun _ => True)) (x := a) (E := Evis xb a) (eOk (conVis_ok ih) rfl) Try.func56 rfl (by kernel_rfl) rfl (by simp [sVis,Evis,EC,E0]) ?_
  refine vc_eq (T :=
    ∀ (x:Nat),xb ≠ x∧True→SM x∧((IntsP (ar3q3 a) fun (i:Nat) => ar3q4 a i)∧ar3q3 a ≤ (9223372036854775807:Nat)∧ar3q6 a ≤ (9223372036854775807:Nat)∧ar3q8 a ≤ (9223372036854775807:Nat))∧∀ (y:Unit),True→ifB (ar3q10 a != Z0) (True∧∃ (y:Unit),True∧(ar3q10 a = ar3q11 a∧ar3q12 a)∧ar3q14 xb) (SM x∧(∃ (x_1:Nat),ar3q15 x_1 a∧(Z0 = (↑x_1:Int)∧True)∧ar3q23 x a xb)∧∀ (x_1:Nat),ar3q15 x_1 a→ifB (decide ((↑x_1:Int) < ar3q24 a)) (side (Z0 ≤ (↑x_1:Int)∧(↑x_1:Int) < ar3q24 a) ((SM x∧ifB (ar3q9 a == Z1) (True∧∀ (y:Unit),True→ifB (!numB (ar3q25 a x_1)) (∃ (x_2:Unit),True∧(true = ar3q26 a x_1∧True)∧ar3q23 x a xb) (ar3q27 x a x_1 xb)) (ar3q27 x a x_1 xb))∧∀ (x_2:Unit),True→ifB (ar3q26 a x_1) (ar3q28 a xb) ((ar3q32 a∧SM (D.ref N1 xb N0)∧SM (D.ref N2 x N0)∧SM (ar3q29 a)∧SM (ZI (ar3q24 a))∧True)∧∃ (y:Nat),ar3q15 y a∧ar3q6 a - y < ar3q6 a - x_1∧(IntKind.wrap IntKind.i64 ((↑x_1:Int) + Z1) = (↑y:Int)∧True)∧ar3q23 x a xb))) (SM x∧SM x∧SM x∧(∃ (x_2:Nat × Int × Int),ar3q35 x_2.1 a x_2.2.1 x_2.2.2∧(Z0 = (NI x_2.1)∧Z0 = x_2.2.1∧IntKind.wrap IntKind.i64 (ar3q34 a) = x_2.2.2∧True)∧ar3q23 x a xb)∧∀ (x_2:Nat × Int × Int),ar3q35 x_2.1 a x_2.2.1 x_2.2.2→ifB (decide ((NI x_2.1) < ar3q33 a)) (side (Z0 ≤ (NI x_2.1)∧(NI x_2.1) < ar3q33 a) (∀ (x_3:Nat),x ≠ x_3∧xb ≠ x_3∧True→SM x_3∧SM xb∧SM x_3∧∃ (x_4:Arr),((Arr.k (ar3q36 a x_2.1) = ar3q9 x_4∧(ar3q38 a x_2.1 = ar3q3 x_4∧(∀ (i:Nat),i < ar3q38 a x_2.1→[ZI (GI (ar3q37 a x_2.1) i)] = ar3q4 x_4 i)∧True)∧(ar3q40 a x_2.1 = ar3q6 x_4∧(∀ (i:Nat),i < ar3q40 a x_2.1→[ZI (GI (ar3q39 a x_2.1) i)] = ar3q16 x_4 i)∧True)∧(ar3q42 a x_2.1 = ar3q8 x_4∧(∀ (i:Nat),i < ar3q42 a x_2.1→Arr.row (List.getD (ar3q41 a x_2.1) i ar3q17) = Arr.row (ar3q18 x_4 i))∧True)∧True)∧SM xb∧True)∧ar3q14 xb∧x_4 ∈ ar3q7 a∧∀ (y:Unit),True→ifB (ar3q11 x_4 != Z0) (ar3q28 a xb) ((ar3q32 a∧SM (D.ref N1 xb N0)∧SM (D.ref N2 x N0)∧SM (ar3q30 a)∧SM (ZI (ar3q33 a))∧True)∧∃ (y:Nat × Int × Int),ar3q35 y.1 a y.2.1 y.2.2∧ar3q8 a - y.1 < ar3q8 a - x_2.1∧(IntKind.wrap IntKind.i64 ((NI x_2.1) + Z1) = (NI y.1)∧(if x_2.2.1 < IntKind.wrap IntKind.i64 (Prod.fst (Prod.snd (chkA x_4)) + Z1) then IntKind.wrap IntKind.i64 (Prod.fst (Prod.snd (chkA x_4)) + Z1) else x_2.2.1) = y.2.1∧(if (262145:Int) < IntKind.wrap IntKind.i64 (x_2.2.2 + Prod.snd (Prod.snd (chkA x_4))) then (262145:Int) else IntKind.wrap IntKind.i64 (x_2.2.2 + Prod.snd (Prod.snd (chkA x_4)))) = y.2.2∧True)∧ar3q23 x a xb))) (ifB (decide ((16:Int) < x_2.2.1)) (true = ar3q43 x_2.2.1 x_2.2.2∧True) (decide ((262144:Int) < x_2.2.2) = ar3q43 x_2.2.1 x_2.2.2∧True)∧ifB (ar3q43 x_2.2.1 x_2.2.2) (True∧∃ (y:Unit),True∧((21:Int) = ar3q11 a∧ar3q12 a)∧ar3q14 xb) (True∧∃ (y:Unit),True∧(Z0 = ar3q11 a∧x_2.2.1 = Prod.fst (Prod.snd (chkA a))∧x_2.2.2 = Prod.snd (Prod.snd (chkA a))∧True)∧ar3q14 xb))))) (by kernel_rfl) ?_
  delta DA GI LN N0 N1 N2 N4 NI SI SM Z0 Z1 ZI ar3q10 ar3q11 ar3q12 ar3q13 ar3q14 ar3q15 ar3q16 ar3q17 ar3q18 ar3q19 ar3q20 ar3q21 ar3q22 ar3q23 ar3q24 ar3q25 ar3q26 ar3q27 ar3q28 ar3q29 ar3q3 ar3q30 ar3q31 ar3q32 ar3q33 ar3q34 ar3q35 ar3q36 ar3q37 ar3q38 ar3q39 ar3q4 ar3q40 ar3q41 ar3q42 ar3q43 ar3q5 ar3q6 ar3q7 ar3q8 ar3q9
  have da:(default:Arr) = Arr.mk 0 [] [] [] := rfl
  simp only [← da,intsD_isl,Int.toNat_natCast,ifB_iff,side_iff,decide_eq_true_eq,decide_eq_false_iff_not,true_and,and_true,beq_iff_eq,bne_iff_ne,Bool.cond_true_left,beq_eq_false_iff_ne,ne_eq,exists_const,forall_const]
  intro x _
  have hA := chkA_eq a
  obtain ⟨l1,l2,l3⟩ := ha
  have tt:(∀ i:Nat,i < a.sh.length→True)∧(∀ i:Nat,i < a.nu.length→True)∧∀ i:Nat,i < a.it.length→True := ⟨fun _ _ => trivial,fun _ _ => trivial,fun _ _ => trivial⟩
  refine ⟨⟨intsP_isl _,l3,l1,l2⟩,fun h => ?_,fun h => ⟨⟨0,⟨Nat.zero_le _,by simp⟩,rfl,tt⟩,fun i hi => ⟨fun hlt => ?_,fun hge => ?_⟩⟩⟩
  · rw [hA,if_pos h]; exact ⟨rfl,rfl,rfl⟩
  · have h0:formS a.k a.sh a.nu.length a.it.length = 0 := by simpa using h
    have hsm := form_small h0
    have hlt':i < a.nu.length := by omega
    have hmem:a.nu.getD i 0 ∈ a.nu := by rw [List.getD_eq_getElem?_getD,List.getElem?_eq_getElem hlt']; exact List.getElem_mem hlt'
    have htk:a.nu.take (i + 1) = a.nu.take i ++ [a.nu.getD i 0] := by
      rw [List.take_add_one]; simp [List.getD_eq_getElem?_getD,hlt']
    generalize a.nu.getD i 0 = z at *
    refine ⟨by omega,?_,fun hb => ?_,fun hb => ⟨i + 1,⟨by omega,fun y hy => ?_⟩,by omega,wrap_i64' (by omega) (by omega),tt⟩⟩
    · refine ⟨fun k1 => ⟨fun hn => ⟨by simp at hn; simp [badK,k1,hn],tt⟩,fun hn => ⟨fun k2 => by omega,fun k2 => ⟨by simp at hn; simp [badK,k1,hn],tt⟩⟩⟩,fun k1 => ⟨fun k2 => ⟨by simp [badK,k2],tt⟩,fun k2 => ⟨by simp [badK,k1,k2],tt⟩⟩⟩
    · have:a.nu.any (badK a.k) = true := List.any_eq_true.2 ⟨z,hmem,hb⟩
      rw [hA,if_neg (by simp [h0]),if_pos this]
      exact ⟨rfl,rfl,rfl⟩
    · rw [htk,List.mem_append] at hy
      rcases hy with hy | hy
      · exact hi.2 y hy
      · simp at hy; rw [hy]; exact hb
  · have h0:formS a.k a.sh a.nu.length a.it.length = 0 := by simpa using h
    have hsm := form_small h0
    have hii:i = a.nu.length := by omega
    rw [hii,List.take_length] at hi
    have hany:¬ a.nu.any (badK a.k) = true := by
      rw [List.any_eq_true]
      rintro ⟨z,hz,hb⟩
      rw [hi.2 z hz] at hb
      cases hb
    rw [if_neg (by simp [h0]),if_neg hany] at hA
    refine ⟨⟨(0,0,(a.nu.length:Int) + a.it.length),⟨Nat.zero_le _,Int.le_refl _,by simp,by simp only; omega,by simp only; omega,by simp⟩,⟨rfl,rfl,wrap_i64' (by omega) (by omega)⟩,tt⟩,?_⟩
    rintro ⟨j,d,w⟩ ⟨b1,b2,b3,b4,b5,hch⟩
    simp only at b1 b2 b3 b4 b5 hch ⊢
    refine ⟨fun hlt => ⟨by omega,fun x3 _ => ?_⟩,fun hge => ?_⟩
    · have hlt':j < a.it.length := by omega
      have hbd := chkA_bounds (a.it.getD j default)
      rw [drop_step hlt',chkL] at hch
      refine ⟨a.it.getD j default,⟨rfl,⟨rfl,fun _ _ => rfl⟩,⟨rfl,fun _ _ => rfl⟩,rfl,fun _ _ => rfl⟩,mem_getD hlt',fun herr => ?_,fun hok => ?_⟩
      · rw [if_pos herr] at hch
        rw [← hch] at hA
        rw [hA]
        exact ⟨rfl,rfl,rfl⟩
      · have hok:(chkA (a.it.getD j default)).1 = 0 := by simpa using hok
        rw [if_neg (fun hne => hne hok)] at hch
        have w1:IntKind.i64.wrap ((chkA (a.it.getD j default)).2.1 + 1) = (chkA (a.it.getD j default)).2.1 + 1 := wrap_i64' (by omega) (by omega)
        have w2:IntKind.i64.wrap (w + (chkA (a.it.getD j default)).2.2) = w + (chkA (a.it.getD j default)).2.2 := wrap_i64' (by omega) (by omega)
        rw [w1,w2]
        refine ⟨(j + 1,(if d < (chkA (a.it.getD j default)).2.1 + 1 then (chkA (a.it.getD j default)).2.1 + 1 else d),(if 262145 < w + (chkA (a.it.getD j default)).2.2 then 262145 else w + (chkA (a.it.getD j default)).2.2)),⟨by simp only; omega,?_,?_,?_,?_,hch⟩,by simp only; omega,⟨wrap_i64' (by omega) (by omega),rfl,rfl⟩,tt⟩
        · simp only; split <;> omega
        · simp only; split <;> omega
        · simp only; split <;> omega
        · simp only; split <;> omega
    · have hj:j = a.it.length := by omega
      rw [hj,List.drop_length,chkL] at hch
      rw [← hch] at hA
      simp only at hA
      refine ⟨⟨fun h1 => by rw [decide_eq_true h1]; rfl,fun h1 => by rw [decide_eq_false h1]; rfl⟩,fun hc => ?_,fun hc => ?_⟩
      · rw [Bool.or_eq_true,decide_eq_true_eq,decide_eq_true_eq] at hc
        rw [if_pos hc] at hA
        rw [hA]; exact ⟨rfl,rfl,rfl⟩
      · rw [Bool.or_eq_false_iff,decide_eq_false_iff_not,decide_eq_false_iff_not] at hc
        rw [if_neg (by omega)] at hA
        rw [hA]; exact ⟨rfl,rfl,rfl⟩
end Go.Proofs.Ytoglbmhkfkghbaa
namespace Go.Proofs.Ytoglbmhkfkghbaa
open Go Go.Ab
theorem vis_all:∀ (a:Arr),a.ok→∀ xb,ACalls Try.prog 56 ((sVis Arr.row2 xb (fun _ => True)).args a) ((sVis Arr.row2 xb (fun _ => True)).st a) (SpecR (sVis Arr.row2 xb (fun _ => True)) a)
  | .mk k s n is,h,xb => by
    have h' := h
    simp only [Arr.ok] at h'
    obtain ⟨_,_,_,h1,h2,h3,h4⟩ := h'
    refine vis_step xb (.mk k s n is) ⟨h2,h3,h1⟩ fun b hb => ?_
    have hb':b ∈ is := hb
    exact vis_all b ((okL_iff _).1 h4 b hb') xb
termination_by a => SizeOf.sizeOf a
decreasing_by
  have := List.sizeOf_lt_of_mem hb'
  simp; omega
theorem vis1_all (a:Arr) (ha:a.ok) (xb:Nat) (q:Arr→Prop):ACalls Try.prog 56 ((sVis Arr.row1 xb q).args a) ((sVis Arr.row1 xb q).st a) (SpecR (sVis Arr.row1 xb q) a) := by
  refine ((vis_all a ha xb).wkArgs ?_).mono fun _ _ ⟨y,h1,h2,h3⟩ => ⟨y,h1,h2,h3⟩
  simp only [sVis,wkL,wkD]
  exact ⟨row1_wk a,by simp [weakD,chk_iff]⟩
def conRi (a:Arr):Con := fun k ds _ => match k with
  | 56 => match ds with
    | [_,.ref _ xb _] => some (sVis Arr.row1 xb (fun b => b = a))
    | _ => none
  | _ => none
theorem conRi_ok {a:Arr} (ha:a.ok):ConOk Try.prog (conRi a) := by
  intro k ds S A h
  unfold conRi at h
  split at h
  · split at h
    · injection h with h; subst h
      refine ConOk.plain (fun b hb => ?_) rfl rfl
      have hb:b = a := hb
      rw [hb]
      exact vis1_all a ha _ _
    · cases h
  · cases h
noncomputable def Eri (a:Arr):Senv := EC (conRi a) 16 7 [] (fun _ => ([],[]))
noncomputable section
def ar4q0 (p0:Arr) (p1:Nat):List D := Arr.row (GA (Arr.it p0) p1)
end
theorem ri_ok (a:Arr) (ha:a.ok):ACalls Try.prog 35 [.agg a.row1] ⟨[],[]⟩ (SpecR (sC [.agg a.row1] (.int .i64 (chkA a).1)) ()) := by
  refine con_of (A := sC _ _) (x := ()) (E := Eri a) (eOk (conRi_ok ha) rfl) Try.func35 rfl (by kernel_rfl) rfl (by simp [sC,Eri,EC,E0]) ?_
  refine vc_eq (T :=
    ∀ (x:Nat),True→∀ (x_1:Nat),x ≠ x_1∧True→SM x_1∧SM x_1∧SM x∧∃ (x:Arr),((Arr.k a = Arr.k x∧(LN (Arr.sh a) = LN (Arr.sh x)∧(∀ (i:Nat),i < LN (Arr.sh a)→[ZI (GI (Arr.sh a) i)] = [ZI (GI (Arr.sh x) i)])∧True)∧(LN (Arr.nu a) = LN (Arr.nu x)∧(∀ (i:Nat),i < LN (Arr.nu a)→[ZI (GI (Arr.nu a) i)] = [ZI (GI (Arr.nu x) i)])∧True)∧(LN (Arr.it a) = LN (Arr.it x)∧(∀ (i:Nat),i < LN (Arr.it a)→ar4q0 a i = ar4q0 x i)∧True)∧True)∧SM x_1∧True)∧((SM x_1∧(D.fn (Fn.func (56:Nat)) [] [D.ref (max (N0 + N1) N0) x_1 N0] = D.fn (Fn.func (56:Nat)) [] [D.ref N1 x_1 N0]∧True)∧True)∧True)∧x = a∧∀ (y:Unit),True→True∧∃ (y:Unit),True∧Prod.fst (chkA x) = Prod.fst (chkA a)∧True∧True) (by kernel_rfl) ?_
  delta DA GA GI LN N0 N1 SM Z0 ZI ar4q0
  intro x _ x1 hx
  exact ⟨rfl,rfl,rfl,a,⟨⟨rfl,⟨rfl,fun _ _ => rfl,trivial⟩,⟨rfl,fun _ _ => rfl,trivial⟩,⟨rfl,fun _ _ => rfl,trivial⟩,trivial⟩,rfl,trivial⟩,⟨⟨rfl,⟨rfl,trivial⟩,trivial⟩,trivial⟩,rfl,fun _ _ => ⟨trivial,(),trivial,rfl,trivial,trivial⟩⟩
end Go.Proofs.Ytoglbmhkfkghbaa
namespace Go.Proofs.Ytoglbmhkfkghbaa
open Go Go.Ab
noncomputable def Ernum:Senv := EC con0 9 1 [2] (fun _ => ([],[]))
noncomputable section
def ar5q0 (p0:Int):Bool := bif decide ((-4611686018427387903:Int) ≤ p0) then decide (p0 ≤ (4611686018427387903:Int)) else false
end
theorem rnum_ok (z:Int):ACalls Try.prog 86 [.int .i64 z] ⟨[],[]⟩ (SpecR (sC [.int .i64 z] (.bool (numB z))) ()) := by
  refine con_of (A := sC _ _) (x := ()) (E := Ernum) (eOk con0_ok rfl) Try.func86 rfl (by kernel_rfl) rfl (by simp [sC,Ernum,EC,E0]) ?_
  refine vc_eq (T :=
    ifB (decide ((-4611686018427387903:Int) ≤ z)) (decide (z ≤ (4611686018427387903:Int)) = ar5q0 z∧True) (false = ar5q0 z∧True)∧True∧∃ (y:Unit),True∧ar5q0 z = numB z∧True∧True) (by kernel_rfl) ?_
  delta ar5q0
  simp only [ifB_iff,decide_eq_true_eq,decide_eq_false_iff_not,true_and,and_true,Bool.cond_false_right,exists_const]
  refine ⟨⟨fun h => by rw [decide_eq_true h]; rfl,fun h => by rw [decide_eq_false h]; rfl⟩,rfl⟩
noncomputable def Erchr:Senv := EC con0 17 1 [2] (fun _ => ([],[]))
noncomputable section
def ar5q1 (p0:Int):Bool := bif bif decide (Z0 ≤ p0) then decide (p0 ≤ (1114111:Int)) else false then bif decide (p0 < (55296:Int)) then true else decide ((57343:Int) < p0) else false
def ar5q2 (p0:Int):Prop := false = ar5q1 p0∧True
end
theorem rchr_ok (z:Int):ACalls Try.prog 87 [.int .i64 z] ⟨[],[]⟩ (SpecR (sC [.int .i64 z] (.bool (chrB z))) ()) := by
  refine con_of (A := sC _ _) (x := ()) (E := Erchr) (eOk con0_ok rfl) Try.func87 rfl (by kernel_rfl) rfl (by simp [sC,Erchr,EC,E0]) ?_
  refine vc_eq (T :=
    ifB (decide (Z0 ≤ z)) (ifB (decide (z ≤ (1114111:Int))) (ifB (decide (z < (55296:Int))) (true = ar5q1 z∧True) (decide ((57343:Int) < z) = ar5q1 z∧True)) (ar5q2 z)) (ar5q2 z)∧True∧∃ (y:Unit),True∧ar5q1 z = chrB z∧True∧True) (by kernel_rfl) ?_
  delta Z0 ar5q1 ar5q2
  simp only [ifB_iff,decide_eq_true_eq,decide_eq_false_iff_not,true_and,and_true,Bool.cond_false_right,Bool.cond_true_left,exists_const]
  refine ⟨⟨fun h1 => ⟨fun h2 => ⟨fun h3 => by simp [h1,h2,h3],fun h3 => by simp [h1,h2,h3]⟩,fun h2 => by simp [h1,h2]⟩,fun h1 => by simp [h1]⟩,rfl⟩
def sizeR (k:Int) (nn ni:Nat):Int := if k = 1∨k = 2 then nn else if k = 3 then ni else 0
noncomputable def Esz:Senv := EC con0 16 3 [4,5,11] (fun _ => ([],[]))
noncomputable section
def ar5q3 (p0 p1:Nat) (p2:Int) (p3:Nat):Prop := SM p0∧True∧∃ (_y:Unit),True∧(↑p1:Int) = sizeR p2 p1 p3∧True∧True
def ar5q4 (p0:Int) (p1 p2 p3:Nat):Prop := ifB (p0 == (3:Int)) (SM p1∧True∧∃ (_y:Unit),True∧(↑p2:Int) = sizeR p0 p3 p2∧True∧True) (True∧∃ (_y:Unit),True∧Z0 = sizeR p0 p3 p2∧True∧True)
end
theorem sz_ok (k : Int) (ns nn ni : Nat) (f g h : Nat → List D) :
    ACalls Try.prog 84 [.agg [.int .i64 k,.sl 1 ns f .any,.sl 1 nn g .any,.sl 4 ni h .any]] ⟨[],[]⟩ (SpecR (sC [.agg [.int .i64 k,.sl 1 ns f .any,.sl 1 nn g .any,.sl 4 ni h .any]] (.int .i64 (sizeR k nn ni))) ()) := by
  refine con_of (A := sC _ _) (x := ()) (E := Esz) (eOk con0_ok rfl) Try.func84 rfl (by kernel_rfl) rfl (by simp [sC,Esz,EC,E0]) ?_
  refine vc_eq (T :=
    ∀ (x:Nat),True→SM x∧ifB (k == Z1) (ifB (k == Z1) (ar5q3 x nn k ni) (ar5q4 k x ni nn)) (ifB (k == (2:Int)) (ar5q3 x nn k ni) (ar5q4 k x ni nn))) (by kernel_rfl) ?_
  delta SM Z0 Z1 ar5q3 ar5q4
  simp only [ifB_iff,true_and,and_true,beq_iff_eq,beq_eq_false_iff_ne,ne_eq,exists_const,forall_const]
  repeat' (first
    | refine And.intro ?_ ?_
    | intro _)
  all_goals first
    | (simp_all [sizeR]; done)
    | grind [sizeR]
    | trace_state
def conRf:Con := fun k ds S => match k with
  | 84 => match ds with
    | [.agg [.int .i64 k,.sl 1 _ _ _,.sl 1 nn _ _,.sl 4 ni _ _]] => some (pC ds (.int .i64 (sizeR k nn ni)) True)
    | _ => none
  | 86 => match ds with
    | [.int .i64 z] => some (pC [.int .i64 z] (.bool (numB z)) True)
    | _ => none
  | 87 => match ds with
    | [.int .i64 z] => some (pC [.int .i64 z] (.bool (chrB z)) True)
    | _ => none
  | k => conAr k ds S
theorem conRf_ok:ConOk Try.prog conRf := by
  intro k ds S A h
  unfold conRf at h
  split at h
  · split at h
    · rename_i k ns f _ nn g _ ni g' _
      injection h with h; subst h
      refine pC_ok fun _ => ⟨weakL_refl _,sC_weak (us := [.agg [.int .i64 k,.sl 1 ns f .any,.sl 1 nn g .any,.sl 4 ni g' .any]]) ?_ (sz_ok _ _ _ _ _ _ _)⟩
      refine ⟨?_,trivial⟩
      simp only [weakD,weakL]
      refine ⟨by simp [chk_iff,kEq],?_,?_,?_,trivial⟩
      · simp [chk_iff,weakM]
      · simp [chk_iff,weakM]
      · simp [chk_iff,weakM]
    · cases h
  · split at h
    · injection h with h; subst h
      exact pC_ok fun _ => ⟨weakL_refl _,rnum_ok _⟩
    · cases h
  · split at h
    · injection h with h; subst h
      exact pC_ok fun _ => ⟨weakL_refl _,rchr_ok _⟩
    · cases h
  · exact conAr_ok _ _ _ _ h
mutual
def wtA:Arr→Int
  | .mk k _ n is => min (wtL k is (sizeR k n.length is.length)) 262145
def wtL (k:Int):List Arr→Int→Int
  | [],n => n
  | x :: r,n => if k = 3∧n ≤ 262144 then wtL k r (n + wtA x) else n
end
theorem wtA_eq (a:Arr):wtA a = min (wtL a.k a.it (sizeR a.k a.nu.length a.it.length)) 262145 := by
  cases a with
  | mk k s n is => rw [wtA]; rfl
theorem wtL_pos (k:Int):∀ (l:List Arr) (n:Int),0 ≤ n→(∀ x ∈ l,0 ≤ wtA x)→0 ≤ wtL k l n
  | [],n,h,_ => by rw [wtL]; exact h
  | x :: r,n,h,h2 => by
    rw [wtL]
    have := h2 x (by simp)
    split
    · exact wtL_pos k r _ (by omega) fun y hy => h2 y (by simp [hy])
    · exact h
theorem wtA_bounds:∀ (a:Arr),0 ≤ wtA a∧wtA a ≤ 262145
  | .mk k s n is => by
    rw [wtA]
    have hs:0 ≤ sizeR k n.length is.length := by unfold sizeR; split <;> (try split) <;> omega
    have := wtL_pos k is _ hs fun x hx => (wtA_bounds x).1
    omega
termination_by a => SizeOf.sizeOf a
decreasing_by
  have := List.sizeOf_lt_of_mem hx
  simp; omega
def sRc (row:Arr→List D) (q:Arr→Prop) (r:Arr→D):FnSpec where
  β := Arr
  α := Unit
  args := fun a => [.agg (row a)]
  st := fun _ => ⟨[],[]⟩
  pre := q
  post := fun _ _ => True
  res := fun a _ => .ret (r a)
  out := fun _ _ => ⟨[],[]⟩
def conWt (its:List Arr):Con := fun k ds S => match k with
  | 88 => some (sRc Arr.row1 (fun b => b ∈ its) (fun b => .int .i64 (wtA b)))
  | k => conRf k ds S
theorem sRc_row {k:Nat} {q q':Arr→Prop} {r:Arr→D} {b:Arr} (h:ACalls Try.prog k ((sRc Arr.row2 q r).args b) ⟨[],[]⟩ (SpecR (sRc Arr.row2 q r) b)):ACalls Try.prog k ((sRc Arr.row1 q' r).args b) ⟨[],[]⟩ (SpecR (sRc Arr.row1 q' r) b) := by
  refine (h.wkArgs ?_).mono fun _ _ ⟨y,h1,h2,h3⟩ => ⟨y,h1,h2,h3⟩
  simp only [sRc,wkL,wkD]
  exact ⟨row1_wk b,trivial⟩
theorem conWt_ok {its:List Arr} (ih:∀ b ∈ its,ACalls Try.prog 88 ((sRc Arr.row2 (fun _ => True) (fun b => .int .i64 (wtA b))).args b) ⟨[],[]⟩ (SpecR (sRc Arr.row2 (fun _ => True) (fun b => .int .i64 (wtA b))) b)):ConOk Try.prog (conWt its) := by
  intro k ds S A h
  unfold conWt at h
  split at h
  · injection h with h; subst h
    exact ConOk.plain (fun b hb => sRc_row (ih b hb)) rfl rfl
  · exact conRf_ok _ _ _ _ h
noncomputable def Ewt (a:Arr):Senv := { EC (conWt a.it) 33 5 [20] (fun _ => ([],[])) with
  ann := fun b _ S => match b with
    | 0 => some { slots := [3,4],keep := [0,1,2],α := Nat × Int,st := fun y => ([.int .i64 y.2,.int .i64 y.1],S),inv := fun y => y.1 ≤ a.it.length∧0 ≤ y.2∧y.2 ≤ maxLen∧wtL a.k (a.it.drop y.1) y.2 = wtL a.k a.it (sizeR a.k a.nu.length a.it.length),mu := fun y => a.it.length - y.1 }
    | _ => none }
noncomputable section
def ar5q5 (p0:Arr):List Arr := Arr.it p0
def ar5q6 (p0:Arr):Nat := LN (ar5q5 p0)
def ar5q7 (p0:Arr):Int := Arr.k p0
def ar5q8 (p0:Arr):Nat := LN (Arr.nu p0)
def ar5q9 (p0:Arr):Int := sizeR (ar5q7 p0) (ar5q8 p0) (ar5q6 p0)
def ar5q10 (p0:Nat) (p1:Arr) (p2:Int):Prop := p0 ≤ ar5q6 p1∧Z0 ≤ p2∧p2 ≤ (9223372036854775807:Int)∧wtL (ar5q7 p1) (List.drop p0 (ar5q5 p1)) p2 = wtL (ar5q7 p1) (ar5q5 p1) (ar5q9 p1)
def ar5q11 (p0:Arr):Nat := LN (Arr.sh p0)
def ar5q12 (p0:Arr) (p1:Nat):List D := [ZI (GI (Arr.sh p0) p1)]
def ar5q13 (p0:Arr) (p1:Nat):List D := [ZI (GI (Arr.nu p0) p1)]
def ar5q14:Arr := DA
def ar5q15 (p0:Arr) (p1:Nat):Arr := List.getD (ar5q5 p0) p1 ar5q14
def ar5q16 (p0:Arr) (p1:Nat):List Int := Arr.sh (ar5q15 p0 p1)
def ar5q17 (p0:Arr) (p1:Nat):List Int := Arr.nu (ar5q15 p0 p1)
def ar5q18 (p0:Arr) (p1:Nat):List Arr := Arr.it (ar5q15 p0 p1)
def ar5q19 (p0:Arr) (p1:Nat):List D := [ZI (Arr.k (ar5q15 p0 p1)),SI (ar5q16 p0 p1),SI (ar5q17 p0 p1),D.sl N4 (LN (ar5q18 p0 p1)) (fun (i:Nat) => Arr.row (List.getD (ar5q18 p0 p1) i ar5q14)) Mode.any]
def ar5q20 (p0:Nat) (p1:Arr):Prop := (SM p0∧(SM (ar5q7 p1)∧(SM (ar5q11 p1)∧(∀ (i:Nat),i < ar5q11 p1→SM (ar5q12 p1 i))∧True)∧(SM (ar5q8 p1)∧(∀ (i:Nat),i < ar5q8 p1→SM (ar5q13 p1 i))∧True)∧(SM (ar5q6 p1)∧(∀ (i:Nat),i < ar5q6 p1→SM (ar5q19 p1 i))∧True)∧True)∧True)∧True
def ar5q21 (p0:Nat) (p1:Arr) (p2:Int):Bool := bif bif decide ((↑p0:Int) < (NI (ar5q6 p1))) then ar5q7 p1 == (3:Int) else false then decide (p2 ≤ (262144:Int)) else false
def ar5q22 (p0:Nat) (p1:Arr) (p2:Int):Prop := false = ar5q21 p0 p1 p2∧True
def ar5q23 (p0:Arr) (p1:Nat):Arr := List.getD (ar5q5 p0) (Int.toNat (↑p1:Int)) ar5q14
def ar5q24 (p0:Arr) (p1:Nat):List Int := Arr.sh (ar5q23 p0 p1)
def ar5q25 (p0:Arr) (p1:Nat):Nat := LN (ar5q24 p0 p1)
def ar5q26 (p0:Arr) (p1:Nat):List Int := Arr.nu (ar5q23 p0 p1)
def ar5q27 (p0:Arr) (p1:Nat):Nat := LN (ar5q26 p0 p1)
def ar5q28 (p0:Arr) (p1:Nat):List Arr := Arr.it (ar5q23 p0 p1)
def ar5q29 (p0:Arr) (p1:Nat):Nat := LN (ar5q28 p0 p1)
def ar5q30 (p0:Arr):D := D.agg [ZI (ar5q7 p0),D.sl N1 (ar5q11 p0) (fun (i:Nat) => ar5q12 p0 i) Mode.any,D.sl N1 (ar5q8 p0) (fun (i:Nat) => ar5q13 p0 i) Mode.any,D.sl N4 (ar5q6 p0) (fun (i:Nat) => ar5q19 p0 i) Mode.any]
end
theorem wt_step (a : Arr) (ha : a.nu.length ≤ maxLen ∧ a.it.length ≤ maxLen ∧ a.sh.length ≤ maxLen) (ih : ∀ b ∈ a.it, ACalls Try.prog 88 ((sRc Arr.row2 (fun _ => True) (fun b => .int .i64 (wtA b))).args b) ⟨[], []⟩ (SpecR (sRc Arr.row2 (fun _ => True) (fun b => .int .i64 (wtA b))) b)) :
    ACalls Try.prog 88 ((sRc Arr.row2 (fun _ => True) (fun b => .int .i64 (wtA b))).args a) ⟨[],[]⟩ (SpecR (sRc Arr.row2 (fun _ => True) (fun b => .int .i64 (wtA b))) a) := by
  refine con_of (A := sRc Arr.row2 (fun _ => True) (fun b => .int .i64 (wtA b))) (x := a) (E := Ewt a) (eOk (conWt_ok ih) rfl) Try.func88 rfl (by kernel_rfl) rfl (by simp [sRc,Ewt,EC,E0]) ?_
  refine vc_eq (T :=
    ∀ (x:Nat),True→SM x∧True∧∀ (y:Unit),True→(∃ (x_1:Nat × Int),ar5q10 x_1.1 a x_1.2∧(ar5q9 a = x_1.2∧Z0 = (NI x_1.1)∧True)∧ar5q20 x a)∧∀ (x_1:Nat × Int),ar5q10 x_1.1 a x_1.2→(SM x∧ifB (decide ((NI x_1.1) < (NI (ar5q6 a)))) (SM x∧ifB (ar5q7 a == (3:Int)) (decide (x_1.2 ≤ (262144:Int)) = ar5q21 x_1.1 a x_1.2∧True) (ar5q22 x_1.1 a x_1.2)) (ar5q22 x_1.1 a x_1.2))∧ifB (ar5q21 x_1.1 a x_1.2) (SM x∧side (Z0 ≤ (NI x_1.1)∧(NI x_1.1) < (NI (ar5q6 a))) (∃ (x_2:Arr),((Arr.k (ar5q23 a x_1.1) = ar5q7 x_2∧(ar5q25 a x_1.1 = ar5q11 x_2∧(∀ (i:Nat),i < ar5q25 a x_1.1→[ZI (GI (ar5q24 a x_1.1) i)] = ar5q12 x_2 i)∧True)∧(ar5q27 a x_1.1 = ar5q8 x_2∧(∀ (i:Nat),i < ar5q27 a x_1.1→[ZI (GI (ar5q26 a x_1.1) i)] = ar5q13 x_2 i)∧True)∧(ar5q29 a x_1.1 = ar5q6 x_2∧(∀ (i:Nat),i < ar5q29 a x_1.1→Arr.row (List.getD (ar5q28 a x_1.1) i ar5q14) = Arr.row (ar5q15 x_2 i))∧True)∧True)∧True)∧(True∧True)∧x_2 ∈ ar5q5 a∧∀ (y:Unit),True→(SM (ar5q30 a)∧SM (D.ref N0 x N0)∧SM (ZI Z0)∧True)∧∃ (y:Nat × Int),ar5q10 y.1 a y.2∧ar5q6 a - y.1 < ar5q6 a - x_1.1∧(IntKind.wrap IntKind.i64 (x_1.2 + wtA x_2) = y.2∧IntKind.wrap IntKind.i64 ((NI x_1.1) + Z1) = (NI y.1)∧True)∧ar5q20 x a)) (True∧∃ (y:Unit),True∧(if (262145:Int) < x_1.2 then (262145:Int) else x_1.2) = wtA a∧True∧True)) (by kernel_rfl) ?_
  delta DA GI LN N0 N1 N4 NI SI SM Z0 Z1 ZI ar5q10 ar5q11 ar5q12 ar5q13 ar5q14 ar5q15 ar5q16 ar5q17 ar5q18 ar5q19 ar5q20 ar5q21 ar5q22 ar5q23 ar5q24 ar5q25 ar5q26 ar5q27 ar5q28 ar5q29 ar5q30 ar5q5 ar5q6 ar5q7 ar5q8 ar5q9
  have da:(default:Arr) = Arr.mk 0 [] [] [] := rfl
  simp only [← da,Int.toNat_natCast,ifB_iff,side_iff,decide_eq_true_eq,decide_eq_false_iff_not,true_and,and_true,beq_iff_eq,Bool.cond_false_right,Bool.and_eq_true,Bool.and_eq_false_iff,beq_eq_false_iff_ne,ne_eq,exists_const,forall_const]
  obtain ⟨l1,l2,l3⟩ := ha
  simp only [maxLen] at l1 l2 l3
  have tt:(∀ i:Nat,i < a.sh.length→True)∧(∀ i:Nat,i < a.nu.length→True)∧∀ i:Nat,i < a.it.length→True := ⟨fun _ _ => trivial,fun _ _ => trivial,fun _ _ => trivial⟩
  have hsz:0 ≤ sizeR a.k a.nu.length a.it.length∧sizeR a.k a.nu.length a.it.length ≤ 9223372036854775807 := by
    unfold sizeR; split <;> (try split) <;> omega
  refine ⟨⟨(0,sizeR a.k a.nu.length a.it.length),⟨Nat.zero_le _,hsz.1,hsz.2,rfl⟩,⟨rfl,rfl⟩,tt⟩,?_⟩
  rintro ⟨j,n⟩ ⟨b1,b2,b3,hch⟩
  simp only at b1 b2 b3 hch ⊢
  refine ⟨⟨fun h1 => ⟨fun h2 => by simp [h1,h2],fun h2 => by simp [h2]⟩,fun h1 => by simp [h1]⟩,fun ⟨⟨h1,h2⟩,h3⟩ => ⟨by omega,?_⟩,fun hc => ?_⟩
  · have hlt':j < a.it.length := by omega
    have hbd := wtA_bounds (a.it.getD j default)
    rw [drop_step hlt',wtL,if_pos ⟨h2,h3⟩] at hch
    refine ⟨a.it.getD j default,⟨rfl,⟨rfl,fun _ _ => rfl⟩,⟨rfl,fun _ _ => rfl⟩,rfl,fun _ _ => rfl⟩,mem_getD hlt',(j + 1,n + wtA (a.it.getD j default)),⟨by simp only; omega,by simp only; omega,by simp only; omega,hch⟩,by simp only; omega,⟨wrap_i64' (by omega) (by omega),wrap_i64' (by omega) (by omega)⟩,tt⟩
  · have he:wtL a.k (a.it.drop j) n = n := by
      by_cases hj:j < a.it.length
      · rw [drop_step hj,wtL,if_neg (by rintro ⟨h2,h3⟩; rcases hc with (h | h) | h <;> omega)]
      · rw [List.drop_eq_nil_of_le (by omega),wtL]
    rw [he] at hch
    rw [wtA_eq,← hch]
    split <;> omega
theorem wt_all:∀ (a:Arr),a.ok→ACalls Try.prog 88 ((sRc Arr.row2 (fun _ => True) (fun b => .int .i64 (wtA b))).args a) ⟨[],[]⟩ (SpecR (sRc Arr.row2 (fun _ => True) (fun b => .int .i64 (wtA b))) a)
  | .mk k s n is,h => by
    have h' := h
    simp only [Arr.ok] at h'
    obtain ⟨_,_,_,h1,h2,h3,h4⟩ := h'
    refine wt_step (.mk k s n is) ⟨h2,h3,h1⟩ fun b hb => ?_
    have hb':b ∈ is := hb
    exact wt_all b ((okL_iff _).1 h4 b hb')
termination_by a => SizeOf.sizeOf a
decreasing_by
  have := List.sizeOf_lt_of_mem hb'
  simp; omega
end Go.Proofs.Ytoglbmhkfkghbaa
namespace Go.Proofs.Ytoglbmhkfkghbaa
open Go Go.Ab
theorem chkL_sat:∀ (l:List Arr) (d d' w':Int),chkL l d 262145 = some (d',w')→w' = 262145
  | [],d,d',w',h => by rw [chkL] at h; injection h with h; injection h with e1 e2; omega
  | x :: r,d,d',w',h => by
    rw [chkL] at h
    have := chkA_bounds x
    split at h
    · cases h
    · have e:(if (262145:Int) < 262145 + (chkA x).2.2 then 262145 else 262145 + (chkA x).2.2) = 262145 := by split <;> omega
      rw [e] at h; exact chkL_sat r _ d' w' h
theorem wtL_chk (k:Int):∀ (l:List Arr) (d w d' w':Int),chkL l d w = some (d',w')→(k = 3∨l = [])→(∀ x ∈ l,(chkA x).1 = 0→wtA x = (chkA x).2.2)→∀ n,min n 262145 = w→min (wtL k l n) 262145 = w'
  | [],d,w,d',w',h,_,_,n,hn => by
    rw [chkL] at h; injection h with h; injection h with e1 e2; rw [wtL]; omega
  | x :: r,d,w,d',w',h,hk,h3,n,hn => by
    have hk:k = 3 := hk.resolve_right (by simp)
    rw [chkL] at h
    have hb := chkA_bounds x
    split at h
    · cases h
    · rename_i hx
      have hx:(chkA x).1 = 0 := by simpa using hx
      have hwx := h3 x (by simp) hx
      rw [wtL]
      by_cases hn2:n ≤ 262144
      · rw [if_pos ⟨hk,hn2⟩]
        refine wtL_chk k r _ _ d' w' h (.inl hk) (fun y hy => h3 y (by simp [hy])) _ ?_
        split <;> omega
      · rw [if_neg (fun e => hn2 e.2)]
        have hw:w = 262145 := by omega
        rw [hw] at h
        have:(if (262145:Int) < 262145 + (chkA x).2.2 then 262145 else 262145 + (chkA x).2.2) = 262145 := by split <;> omega
        rw [this] at h
        have := chkL_sat r _ _ _ h
        omega
theorem form_zero {k:Int} {s:List Int} {nn ni:Nat} (h:formS k s nn ni = 0):(k = 3∧nn = 0)∨((k = 1∨k = 2)∧ni = 0) := by
  unfold formS at h
  by_cases hk:k = 1∨k = 2∨k = 3
  · rw [if_pos hk] at h
    by_cases hd:dimsS s ≠ 0
    · rw [if_pos hd] at h; exact (hd h).elim
    · rw [if_neg hd] at h
      by_cases hc:((if k = 3 then (ni:Int) else nn) ≠ sizeS s)∨((if k = 3 then (nn:Int) else ni) ≠ 0)
      · rw [if_pos hc] at h; omega
      · simp only [not_or,ne_eq,Decidable.not_not] at hc
        obtain ⟨c1,c2⟩ := hc
        by_cases k3:k = 3
        · simp only [k3,if_true] at c2; left; omega
        · simp only [k3,if_false] at c2; right; omega
  · rw [if_neg hk] at h; omega
theorem wt_of {a:Arr} {r:Int × Int} (h0:formS a.k a.sh a.nu.length a.it.length = 0) (hr:chkL a.it 0 ((a.nu.length:Int) + a.it.length) = some r) (h3:∀ x ∈ a.it,(chkA x).1 = 0→wtA x = (chkA x).2.2):wtA a = r.2 := by
  have hz := form_zero h0
  have hs := form_small h0
  rw [wtA_eq]
  refine wtL_chk a.k a.it 0 _ r.1 r.2 hr ?_ h3 _ ?_
  · rcases hz with ⟨h1,_⟩ | ⟨_,h2⟩
    · exact .inl h1
    · exact .inr (List.length_eq_zero_iff.1 h2)
  · unfold sizeR
    rcases hz with ⟨h1,h2⟩ | ⟨h1,h2⟩
    · rw [if_neg (by omega),if_pos h1]; omega
    · rw [if_pos h1]; omega
theorem wt_chk:∀ (a:Arr),(chkA a).1 = 0→wtA a = (chkA a).2.2
  | .mk k s n is,h => by
    have ih:∀ x ∈ (Arr.mk k s n is).it,(chkA x).1 = 0→wtA x = (chkA x).2.2 := fun x hx => by
      have hx':x ∈ is := hx
      exact wt_chk x
    have hA := chkA_eq (Arr.mk k s n is)
    generalize Arr.mk k s n is = a at *
    by_cases h0:formS a.k a.sh a.nu.length a.it.length = 0
    · rw [if_neg (fun e => e h0)] at hA
      by_cases h1:a.nu.any (badK a.k) = true
      · rw [if_pos h1] at hA; rw [hA] at h; cases h
      · rw [if_neg h1] at hA
        cases hr:chkL a.it 0 ((a.nu.length:Int) + a.it.length) with
        | none => rw [hr] at hA; simp only at hA; rw [hA] at h; cases h
        | some r =>
          rw [hr] at hA
          simp only at hA
          split at hA
          · rw [hA] at h; cases h
          · rw [hA]; exact wt_of h0 hr ih
    · rw [if_pos h0] at hA; rw [hA] at h; exact (h0 h).elim
termination_by a => SizeOf.sizeOf a
decreasing_by
  have := List.sizeOf_lt_of_mem hx'
  simp; omega
def resC (b:Arr):D := .tup [.int .i64 (chkA b).1,.int .i64 (chkA b).2.1]
def conCk (a:Arr):Con := fun k ds S => match k with
  | 65 => some (sRc Arr.row1 (fun b => b ∈ a.it) (fun b => .tup [.int .i64 (chkA b).1,.int .i64 (chkA b).2.1]))
  | 88 => some (sRc Arr.row2 (fun b => b = a) (fun b => .int .i64 (wtA b)))
  | k => conRf k ds S
theorem conCk_ok {a:Arr} (ha:a.ok) (ih:∀ b ∈ a.it,ACalls Try.prog 65 ((sRc Arr.row2 (fun _ => True) resC).args b) ⟨[],[]⟩ (SpecR (sRc Arr.row2 (fun _ => True) resC) b)):ConOk Try.prog (conCk a) := by
  intro k ds S A h
  unfold conCk at h
  split at h
  · injection h with h; subst h
    exact ConOk.plain (fun b hb => sRc_row (r := resC) (ih b hb)) rfl rfl
  · injection h with h; subst h
    refine ConOk.plain (fun b hb => ?_) rfl rfl
    have hb:b = a := hb
    rw [hb]
    exact (wt_all a ha).mono fun _ _ ⟨y,h1,h2,h3⟩ => ⟨y,h1,h2,h3⟩
  · exact conRf_ok _ _ _ _ h
def cutW (a:Arr) (d:D) (S:St):Option LoopAnn :=
  match d with
  | .int _ i => some { slots := [76],keep := [],α := Unit,st := fun _ => ([.bool (badK a.k (a.nu.getD i.toNat 0))],S),inv := fun _ => True,mu := fun _ => 0 }
  | _ => none
noncomputable def Eck (a:Arr):Senv := { EC (conCk a) 107 11 [18,23,30,43,48,76,81,94,105] (fun id => match id with | 9 => ([0,2,3,1,4,5,6,7,8,9],[1,4]) | _ => ([],[])) with
  cut := fun id env S => match id with
    | 14 => cutW a (Ab.look env 6) S
    | _ => none
  ann := fun b _ S => match b with
    | 0 => some { slots := [6],keep := [0,1,2,3],α := Nat,st := fun i => ([.int .i64 i],S),inv := fun i => i ≤ a.nu.length∧∀ z ∈ a.nu.take i,badK a.k z = false,mu := fun i => a.nu.length - i }
    | 2 => some { slots := [8,7],keep := [0,1,2,3],α := Nat × Int × Int,st := fun y => ([.int .i64 y.1,.int .i64 y.2.1],S),inv := fun y => y.1 ≤ a.it.length∧0 ≤ y.2.1∧y.2.1 ≤ 17∧0 ≤ y.2.2∧y.2.2 ≤ 262145∧chkL (a.it.drop y.1) y.2.1 y.2.2 = chkL a.it 0 ((a.nu.length:Int) + a.it.length),mu := fun y => a.it.length - y.1 }
    | _ => none }
noncomputable section
def ar6q0 (p0:Arr):Int := Arr.k p0
def ar6q1 (p0:Arr):Bool := bif decide (ar6q0 p0 < Z1) then true else decide ((3:Int) < ar6q0 p0)
def ar6q2 (p0:Arr):Int := Prod.fst (chkA p0)
def ar6q3 (p0:Arr):Prop := Z0 = Prod.fst (Prod.snd (chkA p0))∧True
def ar6q4 (p0:Arr):Nat := LN (Arr.sh p0)
def ar6q5 (p0:Arr) (p1:Nat):List D := [ZI (GI (Arr.sh p0) p1)]
def ar6q6 (p0:Arr):Prop := IntsP (ar6q4 p0) fun (i:Nat) => ar6q5 p0 i
def ar6q7 (p0:Arr):List Int := intsD (ar6q4 p0) fun (i:Nat) => ar6q5 p0 i
def ar6q8 (p0:Arr):Int := dimsS (ar6q7 p0)
def ar6q9 (p0:Arr):D := D.sl N1 (ar6q4 p0) (fun (i:Nat) => ar6q5 p0 i) Mode.any
def ar6q10 (p0:Nat) (p1:Arr):Prop := SM p0∧SM (ar6q9 p1)
def ar6q11 (p0:Arr):Prop := ar6q6 p0∧ar6q8 p0 = Z0
def ar6q12 (p0:Arr):List Int := Arr.nu p0
def ar6q13 (p0:Arr):Nat := LN (ar6q12 p0)
def ar6q14 (p0:Arr):List Arr := Arr.it p0
def ar6q15 (p0:Arr):Nat := LN (ar6q14 p0)
def ar6q16 (p0:Arr):Bool := sizeR (ar6q0 p0) (ar6q13 p0) (ar6q15 p0) != sizeS (ar6q7 p0)
def ar6q17 (p0:Arr):Prop := True∧∃ (_y:Unit),True∧((16:Int) = ar6q2 p0∧ar6q3 p0)∧True∧True
def ar6q18 (p0:Arr):Int := (NI (ar6q13 p0))
def ar6q19 (p0:Nat) (p1:Arr):Prop := p0 ≤ ar6q13 p1∧∀ (z:Int),z ∈ List.take p0 (ar6q12 p1)→badK (ar6q0 p1) z = false
def ar6q20 (p0:Arr) (p1:Nat):List D := [ZI (GI (ar6q12 p0) p1)]
def ar6q21:Arr := DA
def ar6q22 (p0:Arr) (p1:Nat):Arr := List.getD (ar6q14 p0) p1 ar6q21
def ar6q23 (p0:Arr) (p1:Nat):List Int := Arr.sh (ar6q22 p0 p1)
def ar6q24 (p0:Arr) (p1:Nat):List Int := Arr.nu (ar6q22 p0 p1)
def ar6q25 (p0:Arr) (p1:Nat):List Arr := Arr.it (ar6q22 p0 p1)
def ar6q26 (p0:Arr) (p1:Nat):List D := [ZI (Arr.k (ar6q22 p0 p1)),SI (ar6q23 p0 p1),SI (ar6q24 p0 p1),D.sl N4 (LN (ar6q25 p0 p1)) (fun (i:Nat) => Arr.row (List.getD (ar6q25 p0 p1) i ar6q21)) Mode.any]
def ar6q27 (p0:Nat) (p1:Arr):Prop := (SM p0∧(SM (ar6q0 p1)∧(SM (ar6q4 p1)∧(∀ (i:Nat),i < ar6q4 p1→SM (ar6q5 p1 i))∧True)∧(SM (ar6q13 p1)∧(∀ (i:Nat),i < ar6q13 p1→SM (ar6q20 p1 i))∧True)∧(SM (ar6q15 p1)∧(∀ (i:Nat),i < ar6q15 p1→SM (ar6q26 p1 i))∧True)∧True)∧True)∧True
def ar6q28 (p0:Arr) (p1:Nat):Int := GI (ar6q12 p0) (Int.toNat (↑p1:Int))
def ar6q29 (p0:Arr) (p1:Nat):Bool := badK (ar6q0 p0) (ar6q28 p0 p1)
def ar6q30 (p0:Nat) (p1:Arr) (p2:Nat):Prop := SM p0∧ifB (ar6q0 p1 == (2:Int)) (SM p0∧side (Z0 ≤ (↑p2:Int)∧(↑p2:Int) < ar6q18 p1) (True∧∀ (_y:Unit),True→∃ (_x:Unit),True∧((!chrB (ar6q28 p1 p2)) = ar6q29 p1 p2∧True)∧ar6q27 p0 p1)) (∃ (_x:Unit),True∧(false = ar6q29 p1 p2∧True)∧ar6q27 p0 p1)
def ar6q31 (p0:Arr):Prop := True∧∃ (_y:Unit),True∧((17:Int) = ar6q2 p0∧ar6q3 p0)∧True∧True
def ar6q32 (p0:Arr):D := D.agg [ZI (ar6q0 p0),ar6q9 p0,D.sl N1 (ar6q13 p0) (fun (i:Nat) => ar6q20 p0 i) Mode.any,D.sl N4 (ar6q15 p0) (fun (i:Nat) => ar6q26 p0 i) Mode.any]
def ar6q33 (p0:Arr) (p1:Nat):Prop := SM (ar6q32 p0)∧SM (D.ref N0 p1 N0)∧SM (ZI Z0)∧SM (ZI Z0)∧True
def ar6q34 (p0:Arr):Int := (NI (ar6q15 p0))
def ar6q35 (p0:Nat) (p1:Arr) (p2 p3:Int):Prop := p0 ≤ ar6q15 p1∧Z0 ≤ p2∧p2 ≤ (17:Int)∧Z0 ≤ p3∧p3 ≤ (262145:Int)∧chkL (List.drop p0 (ar6q14 p1)) p2 p3 = chkL (ar6q14 p1) Z0 (ar6q18 p1 + ar6q34 p1)
def ar6q36 (p0:Arr) (p1:Nat):Arr := List.getD (ar6q14 p0) (Int.toNat (↑p1:Int)) ar6q21
def ar6q37 (p0:Arr) (p1:Nat):List Int := Arr.sh (ar6q36 p0 p1)
def ar6q38 (p0:Arr) (p1:Nat):Nat := LN (ar6q37 p0 p1)
def ar6q39 (p0:Arr) (p1:Nat):List Int := Arr.nu (ar6q36 p0 p1)
def ar6q40 (p0:Arr) (p1:Nat):Nat := LN (ar6q39 p0 p1)
def ar6q41 (p0:Arr) (p1:Nat):List Arr := Arr.it (ar6q36 p0 p1)
def ar6q42 (p0:Arr) (p1:Nat):Nat := LN (ar6q41 p0 p1)
def ar6q43 (p0:Arr):Prop := True∧∃ (_y:Unit),True∧((21:Int) = ar6q2 p0∧ar6q3 p0)∧True∧True
def ar6q44 (p0:Arr) (p1:Nat):Prop := (∃ (x:Nat),ar6q19 x p0∧(Z0 = (↑x:Int)∧True)∧ar6q27 p1 p0)∧∀ (x:Nat),ar6q19 x p0→SM p1∧ifB (decide ((↑x:Int) < ar6q18 p0)) ((SM p1∧ifB (ar6q0 p0 == Z1) (SM p1∧side (Z0 ≤ (↑x:Int)∧(↑x:Int) < ar6q18 p0) (True∧∀ (_y:Unit),True→ifB (!numB (ar6q28 p0 x)) (∃ (_x_1:Unit),True∧(true = ar6q29 p0 x∧True)∧ar6q27 p1 p0) (ar6q30 p1 p0 x))) (ar6q30 p1 p0 x))∧∀ (_x_1:Unit),True→ifB (ar6q29 p0 x) (ar6q31 p0) (ar6q33 p0 p1∧∃ (y:Nat),ar6q19 y p0∧ar6q13 p0 - y < ar6q13 p0 - x∧(IntKind.wrap IntKind.i64 ((↑x:Int) + Z1) = (↑y:Int)∧True)∧ar6q27 p1 p0)) ((∃ (x:Nat × Int × Int),ar6q35 x.1 p0 x.2.1 x.2.2∧(Z0 = (NI x.1)∧Z0 = x.2.1∧True)∧ar6q27 p1 p0)∧∀ (x:Nat × Int × Int),ar6q35 x.1 p0 x.2.1 x.2.2→SM p1∧ifB (decide ((NI x.1) < ar6q34 p0)) (SM p1∧side (Z0 ≤ (NI x.1)∧(NI x.1) < ar6q34 p0) (∃ (x_1:Arr),((Arr.k (ar6q36 p0 x.1) = ar6q0 x_1∧(ar6q38 p0 x.1 = ar6q4 x_1∧(∀ (i:Nat),i < ar6q38 p0 x.1→[ZI (GI (ar6q37 p0 x.1) i)] = ar6q5 x_1 i)∧True)∧(ar6q40 p0 x.1 = ar6q13 x_1∧(∀ (i:Nat),i < ar6q40 p0 x.1→[ZI (GI (ar6q39 p0 x.1) i)] = ar6q20 x_1 i)∧True)∧(ar6q42 p0 x.1 = ar6q15 x_1∧(∀ (i:Nat),i < ar6q42 p0 x.1→Arr.row (List.getD (ar6q41 p0 x.1) i ar6q21) = Arr.row (ar6q22 x_1 i))∧True)∧True)∧True)∧(True∧True)∧x_1 ∈ ar6q14 p0∧∀ (_y:Unit),True→ifB (ar6q2 x_1 != Z0) (ar6q31 p0) (ar6q33 p0 p1∧∃ (y:Nat × Int × Int),ar6q35 y.1 p0 y.2.1 y.2.2∧ar6q15 p0 - y.1 < ar6q15 p0 - x.1∧(IntKind.wrap IntKind.i64 ((NI x.1) + Z1) = (NI y.1)∧(if x.2.1 < IntKind.wrap IntKind.i64 (Prod.fst (Prod.snd (chkA x_1)) + Z1) then IntKind.wrap IntKind.i64 (Prod.fst (Prod.snd (chkA x_1)) + Z1) else x.2.1) = y.2.1∧True)∧ar6q27 p1 p0))) (ifB (decide ((16:Int) < x.2.1)) (ar6q43 p0) (SM p1∧∃ (x_1:Arr),((ar6q0 p0 = ar6q0 x_1∧(ar6q4 p0 = ar6q4 x_1∧(∀ (i:Nat),i < ar6q4 p0→ar6q5 p0 i = ar6q5 x_1 i)∧True)∧(ar6q13 p0 = ar6q13 x_1∧(∀ (i:Nat),i < ar6q13 p0→ar6q20 p0 i = ar6q20 x_1 i)∧True)∧(ar6q15 p0 = ar6q15 x_1∧(∀ (i:Nat),i < ar6q15 p0→ar6q26 p0 i = ar6q26 x_1 i)∧True)∧True)∧True)∧(True∧True)∧x_1 = p0∧∀ (_y:Unit),True→ifB (decide ((262144:Int) < wtA x_1)) (ar6q43 p0) (True∧∃ (_y:Unit),True∧(Z0 = ar6q2 p0∧x.2.1 = Prod.fst (Prod.snd (chkA p0))∧True)∧True∧True))))
end
theorem ck_step (a : Arr) (hok : a.ok) (ha : a.nu.length ≤ maxLen ∧ a.it.length ≤ maxLen ∧ a.sh.length ≤ maxLen) (ih : ∀ b ∈ a.it, ACalls Try.prog 65 ((sRc Arr.row2 (fun _ => True) resC).args b) ⟨[], []⟩ (SpecR (sRc Arr.row2 (fun _ => True) resC) b)) :
    ACalls Try.prog 65 ((sRc Arr.row2 (fun _ => True) resC).args a) ⟨[],[]⟩ (SpecR (sRc Arr.row2 (fun _ => True) resC) a) := by
  refine con_of (A := sRc Arr.row2 (fun _ => True) resC) (x := a) (E := Eck a) (eOk (conCk_ok hok ih) rfl) Try.func65 rfl (by kernel_rfl) rfl (by simp [sRc,Eck,EC,E0]) ?_
  simp only [sRc,resC]
  refine vc_eq (T :=
    ∀ (x:Nat),True→(SM x∧ifB (decide (ar6q0 a < Z1)) (true = ar6q1 a∧True) (SM x∧decide ((3:Int) < ar6q0 a) = ar6q1 a∧True))∧ifB (ar6q1 a) (True∧∃ (y:Unit),True∧((14:Int) = ar6q2 a∧ar6q3 a)∧True∧True) (SM x∧ar6q6 a∧∀ (y:Unit),True→ifB (ar6q8 a != Z0) (True∧∃ (y:Unit),True∧(ar6q8 a = ar6q2 a∧ar6q3 a)∧True∧True) (SM x∧SM x∧ifB (ar6q0 a == (3:Int)) (SM x∧SM x∧SM x∧True∧∀ (y:Unit),True→ar6q10 x a∧ar6q11 a∧∀ (y:Unit),True→ifB (ar6q16 a) (ar6q17 a) (ifB (decide (Z0 < ar6q18 a)) (ar6q17 a) (ar6q44 a x))) (SM x∧SM x∧True∧∀ (y:Unit),True→ar6q10 x a∧ar6q11 a∧∀ (y:Unit),True→ifB (ar6q16 a) (ar6q17 a) (ifB (decide (Z0 < ar6q34 a)) (ar6q17 a) (ar6q44 a x)))))) (by kernel_rfl) ?_
  delta DA GI LN N0 N1 N4 NI SI SM Z0 Z1 ZI ar6q0 ar6q1 ar6q10 ar6q11 ar6q12 ar6q13 ar6q14 ar6q15 ar6q16 ar6q17 ar6q18 ar6q19 ar6q2 ar6q20 ar6q21 ar6q22 ar6q23 ar6q24 ar6q25 ar6q26 ar6q27 ar6q28 ar6q29 ar6q3 ar6q30 ar6q31 ar6q32 ar6q33 ar6q34 ar6q35 ar6q36 ar6q37 ar6q38 ar6q39 ar6q4 ar6q40 ar6q41 ar6q42 ar6q43 ar6q44 ar6q5 ar6q6 ar6q7 ar6q8 ar6q9
  have da:(default:Arr) = Arr.mk 0 [] [] [] := rfl
  simp only [← da,intsD_isl,Int.toNat_natCast,ifB_iff,side_iff,decide_eq_true_eq,decide_eq_false_iff_not,true_and,and_true,beq_iff_eq,bne_iff_ne,Bool.cond_true_left,beq_eq_false_iff_ne,ne_eq,exists_const,forall_const]
  have hA := chkA_eq a
  obtain ⟨l1,l2,l3⟩ := ha
  simp only [maxLen] at l1 l2 l3
  have tt:(∀ i:Nat,i < a.sh.length→True)∧(∀ i:Nat,i < a.nu.length→True)∧∀ i:Nat,i < a.it.length→True := ⟨fun _ _ => trivial,fun _ _ => trivial,fun _ _ => trivial⟩
  have bad:∀ e,formS a.k a.sh a.nu.length a.it.length = e→e ≠ 0→e = (chkA a).1∧0 = (chkA a).2.1 := fun e h1 h2 => by
    rw [if_pos (by rw [h1]; exact h2),h1] at hA
    rw [hA]; exact ⟨rfl,rfl⟩
  refine ⟨⟨fun h => by simp [h],fun h => by simp [h]⟩,fun h => bad 14 ?_ (by decide),fun h => ⟨intsP_isl _,fun hd => bad _ ?_ hd,fun hd => ?_⟩⟩
  · rw [Bool.or_eq_true,decide_eq_true_eq,decide_eq_true_eq] at h
    unfold formS; rw [if_neg (by omega)]
  · rw [Bool.or_eq_false_iff,decide_eq_false_iff_not,decide_eq_false_iff_not] at h
    unfold formS; rw [if_pos (by omega),if_pos hd]
  rw [Bool.or_eq_false_iff,decide_eq_false_iff_not,decide_eq_false_iff_not] at h
  have hd0:dimsS a.sh = 0 := by simpa using hd
  have hk:a.k = 1∨a.k = 2∨a.k = 3 := by omega
  have hf:formS a.k a.sh a.nu.length a.it.length = if ((if a.k = 3 then (a.it.length:Int) else a.nu.length) ≠ sizeS a.sh)∨((if a.k = 3 then (a.nu.length:Int) else a.it.length) ≠ 0) then 16 else 0 := by
    unfold formS; rw [if_pos hk,if_neg (fun e => e hd0)]
  have hsz:sizeR a.k a.nu.length a.it.length = if a.k = 3 then (a.it.length:Int) else a.nu.length := by
    unfold sizeR
    by_cases k3:a.k = 3
    · rw [if_neg (by omega),if_pos k3,if_pos k3]
    · rw [if_pos (by omega),if_neg k3]
  rw [← hsz] at hf
  refine ⟨fun k3 => ⟨⟨intsP_isl _,hd0⟩,fun hs => bad 16 (by rw [hf,if_pos (.inl hs)]) (by decide),fun hs => ⟨fun ho => bad 16 (by rw [hf,if_pos (.inr (by rw [if_pos k3]; omega))]) (by decide),fun ho => ?_⟩⟩,
    fun k3 => ⟨⟨intsP_isl _,hd0⟩,fun hs => bad 16 (by rw [hf,if_pos (.inl hs)]) (by decide),fun hs => ⟨fun ho => bad 16 (by rw [hf,if_pos (.inr (by rw [if_neg k3]; omega))]) (by decide),fun ho => ?_⟩⟩⟩
  all_goals
    have hs':sizeR a.k a.nu.length a.it.length = sizeS a.sh := by simpa using hs
    have h0:formS a.k a.sh a.nu.length a.it.length = 0 := by
      rw [hf,if_neg]
      rintro (h1 | h1)
      · exact h1 hs'
      · simp only [k3,if_true,if_false] at h1; omega
    clear hf hs hsz
    have hsm := form_small h0
    refine ⟨⟨0,⟨Nat.zero_le _,by simp⟩,rfl,tt⟩,fun i hi => ⟨fun hlt => ?_,fun hge => ?_⟩⟩
    · have hlt':i < a.nu.length := by omega
      have hmem:a.nu.getD i 0 ∈ a.nu := by rw [List.getD_eq_getElem?_getD,List.getElem?_eq_getElem hlt']; exact List.getElem_mem hlt'
      have htk:a.nu.take (i + 1) = a.nu.take i ++ [a.nu.getD i 0] := by
        rw [List.take_add_one]; simp [List.getD_eq_getElem?_getD,hlt']
      generalize a.nu.getD i 0 = z at *
      refine ⟨⟨fun k1 => ⟨⟨by omega,hlt⟩,fun hn => ⟨by simp at hn; simp [badK,k1,hn],tt⟩,fun hn => ⟨fun k2 => by omega,fun k2 => ⟨by simp at hn; simp [badK,k1,hn],tt⟩⟩⟩,fun k1 => ⟨fun k2 => ⟨⟨by omega,hlt⟩,by simp [badK,k2],tt⟩,fun k2 => ⟨by simp [badK,k1,k2],tt⟩⟩⟩,fun hb => ?_,fun hb => ⟨i + 1,⟨by omega,fun y hy => ?_⟩,by omega,wrap_i64' (by omega) (by omega),tt⟩⟩
      · have:a.nu.any (badK a.k) = true := List.any_eq_true.2 ⟨z,hmem,hb⟩
        rw [if_neg (fun e => e h0),if_pos this] at hA
        rw [hA]
        exact ⟨rfl,rfl⟩
      · rw [htk,List.mem_append] at hy
        rcases hy with hy | hy
        · exact hi.2 y hy
        · simp at hy; rw [hy]; exact hb
    · have hii:i = a.nu.length := by omega
      rw [hii,List.take_length] at hi
      have hany:¬ a.nu.any (badK a.k) = true := by
        rw [List.any_eq_true]
        rintro ⟨z,hz,hb⟩
        rw [hi.2 z hz] at hb
        cases hb
      rw [if_neg (fun e => e h0),if_neg hany] at hA
      refine ⟨⟨(0,0,(a.nu.length:Int) + a.it.length),⟨Nat.zero_le _,Int.le_refl _,by simp,by simp only; omega,by simp only; omega,by simp⟩,⟨rfl,rfl⟩,tt⟩,?_⟩
      rintro ⟨j,d,w⟩ ⟨b1,b2,b3,b4,b5,hch⟩
      simp only at b1 b2 b3 b4 b5 hch ⊢
      refine ⟨fun hlt => ⟨⟨by omega,hlt⟩,?_⟩,fun hge => ?_⟩
      · have hlt':j < a.it.length := by omega
        have hbd := chkA_bounds (a.it.getD j default)
        rw [drop_step hlt',chkL] at hch
        refine ⟨a.it.getD j default,⟨rfl,⟨rfl,fun _ _ => rfl⟩,⟨rfl,fun _ _ => rfl⟩,rfl,fun _ _ => rfl⟩,mem_getD hlt',fun herr => ?_,fun hok => ?_⟩
        · rw [if_pos herr] at hch
          rw [← hch] at hA
          rw [hA]
          exact ⟨rfl,rfl⟩
        · have hok:(chkA (a.it.getD j default)).1 = 0 := by simpa using hok
          rw [if_neg (fun hne => hne hok)] at hch
          have w1:IntKind.i64.wrap ((chkA (a.it.getD j default)).2.1 + 1) = (chkA (a.it.getD j default)).2.1 + 1 := wrap_i64' (by omega) (by omega)
          rw [w1]
          refine ⟨(j + 1,(if d < (chkA (a.it.getD j default)).2.1 + 1 then (chkA (a.it.getD j default)).2.1 + 1 else d),(if 262145 < w + (chkA (a.it.getD j default)).2.2 then 262145 else w + (chkA (a.it.getD j default)).2.2)),⟨by simp only; omega,?_,?_,?_,?_,hch⟩,by simp only; omega,⟨wrap_i64' (by omega) (by omega),rfl⟩,tt⟩
          · simp only; split <;> omega
          · simp only; split <;> omega
          · simp only; split <;> omega
          · simp only; split <;> omega
      · have hj:j = a.it.length := by omega
        rw [hj,List.drop_length,chkL] at hch
        have hw := wt_of h0 hch.symm fun x _ hx => wt_chk x hx
        rw [← hch] at hA
        simp only at hA hw
        refine ⟨fun hc => ?_,fun hc => ⟨a,⟨rfl,⟨rfl,fun _ _ => rfl⟩,⟨rfl,fun _ _ => rfl⟩,rfl,fun _ _ => rfl⟩,rfl,fun hq => ?_,fun hq => ?_⟩⟩
        · rw [if_pos (.inl hc)] at hA
          rw [hA]; exact ⟨rfl,rfl⟩
        · rw [if_pos (.inr (by omega))] at hA
          rw [hA]; exact ⟨rfl,rfl⟩
        · rw [if_neg (by omega)] at hA
          rw [hA]; exact ⟨rfl,rfl⟩
theorem ck_all:∀ (a:Arr),a.ok→ACalls Try.prog 65 ((sRc Arr.row2 (fun _ => True) resC).args a) ⟨[],[]⟩ (SpecR (sRc Arr.row2 (fun _ => True) resC) a)
  | .mk k s n is,h => by
    have h' := h
    simp only [Arr.ok] at h'
    obtain ⟨_,_,_,h1,h2,h3,h4⟩ := h'
    refine ck_step (.mk k s n is) h ⟨h2,h3,h1⟩ fun b hb => ?_
    have hb':b ∈ is := hb
    exact ck_all b ((okL_iff _).1 h4 b hb')
termination_by a => SizeOf.sizeOf a
decreasing_by
  have := List.sizeOf_lt_of_mem hb'
  simp; omega
end Go.Proofs.Ytoglbmhkfkghbaa
namespace Go.Proofs.Ytoglbmhkfkghbaa
open Go Go.Ab
theorem sRc_row0 {k:Nat} {q q':Arr→Prop} {r:Arr→D} {b:Arr} (h:ACalls Try.prog k ((sRc Arr.row1 q r).args b) ⟨[],[]⟩ (SpecR (sRc Arr.row1 q r) b)):ACalls Try.prog k ((sRc Arr.row q' r).args b) ⟨[],[]⟩ (SpecR (sRc Arr.row q' r) b) := by
  refine (h.wkArgs ?_).mono fun _ _ ⟨y,h1,h2,h3⟩ => ⟨y,h1,h2,h3⟩
  simp only [sRc,wkL,wkD]
  exact ⟨row_wk b,trivial⟩
theorem sRc_q {k:Nat} {row:Arr→List D} {q q':Arr→Prop} {r:Arr→D} {b:Arr} (h:ACalls Try.prog k ((sRc row q r).args b) ⟨[],[]⟩ (SpecR (sRc row q r) b)):ACalls Try.prog k ((sRc row q' r).args b) ⟨[],[]⟩ (SpecR (sRc row q' r) b) :=
  h.mono fun _ _ ⟨y,h1,h2,h3⟩ => ⟨y,h1,h2,h3⟩
def errA (a:Arr):D := .int .i64 (chkA a).1
def conRr (a:Arr):Con := fun k _ _ => match k with
  | 65 => some (sRc Arr.row2 (fun b => b = a) (fun b => .tup [.int .i64 (chkA b).1,.int .i64 (chkA b).2.1]))
  | 35 => some (sRc Arr.row1 (fun b => b = a) (fun b => .int .i64 (chkA b).1))
  | _ => none
theorem conRr_ok {a:Arr} (ha:a.ok):ConOk Try.prog (conRr a) := by
  intro k ds S A h
  unfold conRr at h
  split at h
  · injection h with h; subst h
    refine ConOk.plain (fun b hb => ?_) rfl rfl
    have hb:b = a := hb
    rw [hb]
    exact sRc_q (r := resC) (ck_all a ha)
  · injection h with h; subst h
    refine ConOk.plain (fun b hb => ?_) rfl rfl
    have hb:b = a := hb
    rw [hb]
    exact (ri_ok a ha).mono fun _ _ ⟨y,h1,h2,h3⟩ => ⟨(),trivial,h2,h3⟩
  · cases h
noncomputable def Err (a:Arr):Senv := EC (conRr a) 11 5 [] (fun _ => ([],[]))
noncomputable section
def ar7q0:Arr := DA
def ar7q1 (p0:Arr) (p1:Nat):Arr := List.getD (Arr.it p0) p1 ar7q0
def ar7q2 (p0:Arr) (p1:Nat):List Int := Arr.sh (ar7q1 p0 p1)
def ar7q3 (p0:Arr) (p1:Nat):List Int := Arr.nu (ar7q1 p0 p1)
def ar7q4 (p0:Arr) (p1:Nat):List Arr := Arr.it (ar7q1 p0 p1)
def ar7q5 (p0:Arr) (p1:Nat):List D := [ZI (Arr.k (ar7q1 p0 p1)),SI (ar7q2 p0 p1),SI (ar7q3 p0 p1),D.sl N4 (LN (ar7q4 p0 p1)) (fun (i:Nat) => Arr.row (List.getD (ar7q4 p0 p1) i ar7q0)) Mode.any]
end
theorem rri_ok (a:Arr) (ha:a.ok):ACalls Try.prog 42 ((sRc Arr.row2 (fun _ => True) errA).args a) ⟨[],[]⟩ (SpecR (sRc Arr.row2 (fun _ => True) errA) a) := by
  refine con_of (A := sRc Arr.row2 (fun _ => True) errA) (x := a) (E := Err a) (eOk (conRr_ok ha) rfl) Try.func42 rfl (by kernel_rfl) rfl (by simp [sRc,Err,EC,E0]) ?_
  simp only [sRc,errA]
  refine vc_eq (T :=
    ∀ (x:Nat),True→SM x∧∃ (x:Arr),((Arr.k a = Arr.k x∧(LN (Arr.sh a) = LN (Arr.sh x)∧(∀ (i:Nat),i < LN (Arr.sh a)→[ZI (GI (Arr.sh a) i)] = [ZI (GI (Arr.sh x) i)])∧True)∧(LN (Arr.nu a) = LN (Arr.nu x)∧(∀ (i:Nat),i < LN (Arr.nu a)→[ZI (GI (Arr.nu a) i)] = [ZI (GI (Arr.nu x) i)])∧True)∧(LN (Arr.it a) = LN (Arr.it x)∧(∀ (i:Nat),i < LN (Arr.it a)→ar7q5 a i = ar7q5 x i)∧True)∧True)∧True)∧(True∧True)∧x = a∧∀ (y:Unit),True→True∧∃ (y:Unit),True∧Prod.fst (chkA x) = Prod.fst (chkA a)∧True∧True) (by kernel_rfl) ?_
  delta DA GI LN N1 N4 SI SM Z0 ZI ar7q0 ar7q1 ar7q2 ar7q3 ar7q4 ar7q5
  simp only [and_true,exists_const]
  intro x _
  exact ⟨trivial,a,⟨rfl,⟨rfl,fun _ _ => rfl⟩,⟨rfl,fun _ _ => rfl⟩,rfl,fun _ _ => rfl⟩,trivial,rfl,fun _ _ => ⟨trivial,trivial,rfl⟩⟩
def badA (a:Arr):D := .bool ((chkA a).1 != 0)
noncomputable def Ebad (a:Arr):Senv := EC (conRr a) 6 3 [] (fun _ => ([],[]))
noncomputable section
def ar7q6 (p0:Arr) (p1:Nat):List D := Arr.row (GA (Arr.it p0) p1)
end
theorem bad_ok (a:Arr) (ha:a.ok):ACalls Try.prog 34 ((sRc Arr.row1 (fun _ => True) badA).args a) ⟨[],[]⟩ (SpecR (sRc Arr.row1 (fun _ => True) badA) a) := by
  refine con_of (A := sRc Arr.row1 (fun _ => True) badA) (x := a) (E := Ebad a) (eOk (conRr_ok ha) rfl) Try.func34 rfl (by kernel_rfl) rfl (by simp [sRc,Ebad,EC,E0]) ?_
  simp only [sRc,badA]
  refine vc_eq (T :=
    ∀ (x:Nat),True→SM x∧∃ (x:Arr),((Arr.k a = Arr.k x∧(LN (Arr.sh a) = LN (Arr.sh x)∧(∀ (i:Nat),i < LN (Arr.sh a)→[ZI (GI (Arr.sh a) i)] = [ZI (GI (Arr.sh x) i)])∧True)∧(LN (Arr.nu a) = LN (Arr.nu x)∧(∀ (i:Nat),i < LN (Arr.nu a)→[ZI (GI (Arr.nu a) i)] = [ZI (GI (Arr.nu x) i)])∧True)∧(LN (Arr.it a) = LN (Arr.it x)∧(∀ (i:Nat),i < LN (Arr.it a)→ar7q6 a i = ar7q6 x i)∧True)∧True)∧True)∧(True∧True)∧x = a∧∀ (y:Unit),True→True∧∃ (y:Unit),True∧(Prod.fst (chkA x) != Z0) = (Prod.fst (chkA a) != Z0)∧True∧True) (by kernel_rfl) ?_
  delta DA GA GI LN SM Z0 ZI ar7q6
  simp only [and_true,exists_const]
  intro x _
  exact ⟨trivial,a,⟨rfl,⟨rfl,fun _ _ => rfl⟩,⟨rfl,fun _ _ => rfl⟩,rfl,fun _ _ => rfl⟩,trivial,rfl,fun _ _ => ⟨trivial,trivial,rfl⟩⟩
def idxG {α:Type} (p:α→Bool):List α→Int→Int
  | [],_ => -1
  | x :: r,i => if p x then i else idxG p r (i + 1)
theorem idxG_any {α:Type} (p:α→Bool):∀ (l:List α) (i:Int),0 ≤ i→(decide (0 ≤ idxG p l i)) = l.any p
  | [],i,_ => by simp [idxG]
  | x :: r,i,h => by
    rw [idxG]
    by_cases hx:p x = true
    · rw [if_pos hx]; simp [hx,h]
    · rw [if_neg hx,idxG_any p r (i + 1) (by omega)]; simp [hx]
structure IdxG {α:Type} (p:α→Bool) (l:List α) (i:Nat):Prop where
  hi:i ≤ l.length
  hg:idxG p (l.drop i) i = idxG p l 0
theorem IdxG.step {α:Type} [Inhabited α] {p:α→Bool} {l:List α} {i:Nat} (h:IdxG p l i) (hlt:i < l.length):(p (l.getD i default) = true→idxG p l 0 = i)∧(p (l.getD i default) = false→IdxG p l (i + 1)) := by
  have hg := h.hg
  rw [drop_step hlt,idxG] at hg
  refine ⟨fun e => ?_,fun e => ?_⟩
  · rw [if_pos e] at hg; exact hg.symm
  · rw [if_neg (by rw [e]; exact Bool.false_ne_true)] at hg; exact ⟨by omega,hg⟩
theorem IdxG.done {α:Type} {p:α→Bool} {l:List α} {i:Nat} (h:IdxG p l i) (hge:¬ (i:Int) < l.length):idxG p l 0 = -1 := by
  have hg := h.hg
  have:i = l.length := by have := h.hi; omega
  rw [this,List.drop_length,idxG] at hg
  exact hg.symm
theorem row_four (a:Arr):a.row.length = 4 := by
  cases a with
  | mk k s n is => rfl
def conBa (l:List Arr):Con := fun k _ _ => match k with
  | 34 => some (sRc Arr.row (fun b => b ∈ l) (fun b => .bool ((chkA b).1 != 0)))
  | _ => none
theorem conBa_ok {l:List Arr} (h:∀ a ∈ l,a.ok):ConOk Try.prog (conBa l) := by
  intro k ds S A hh
  unfold conBa at hh
  split at hh
  · injection hh with hh; subst hh
    exact ConOk.plain (fun b hb => sRc_row0 (r := badA) (bad_ok b (h b hb))) rfl rfl
  · cases hh
noncomputable def Eix (l:List Arr):Senv := { EC (conBa l) 19 2 [4,5,7,8,9,16] (fun _ => ([],[])) with
  ann := fun b _ _ => match b with
    | 0 => some { slots := [8],keep := [0,1,6,7],α := Nat,st := fun i => ([.int .i64 i],⟨[],[]⟩),inv := fun i => IdxG (fun a => (chkA a).1 != 0) l i,mu := fun i => l.length - i }
    | _ => none }
noncomputable section
def ar7q7 (p0:Arr):Bool := Prod.fst (chkA p0) != Z0
def ar7q8 (p0:List Arr) (p1:Nat):Prop := IdxG (fun (a:Arr) => ar7q7 a) p0 p1
def ar7q9:Arr := DA
def ar7q10 (p0:List Arr) (p1:Nat):List D := Arr.row (List.getD p0 (Int.toNat (↑p1:Int)) ar7q9)
def ar7q11 (p0:List Arr):Int := idxG (fun (a:Arr) => ar7q7 a) p0 Z0
def ar7q12 (p0:List Arr):D := D.sl N4 (LN p0) (fun (i:Nat) => Arr.row (List.getD p0 i ar7q9)) Mode.any
end
theorem ix_ok (l:List Arr) (h:∀ a ∈ l,a.ok) (hl:l.length ≤ maxLen):ACalls Try.prog 55 [gsl 4 Arr.row l,.fn (.func 34) [] []] ⟨[],[]⟩ (SpecR (sC [gsl 4 Arr.row l,.fn (.func 34) [] []] (.int .i64 (idxG (fun a => (chkA a).1 != 0) l 0))) ()) := by
  refine con_of (A := sC _ _) (x := ()) (E := Eix l) (eOk (conBa_ok h) rfl) Try.func55 rfl (by kernel_rfl) rfl (by simp [sC,Eix,EC,E0]) ?_
  refine vc_eq (T :=
    (∃ (x:Nat),ar7q8 l x∧(Z0 = (↑x:Int)∧True)∧True∧True)∧∀ (x:Nat),ar7q8 l x→ifB (decide ((↑x:Int) < (LI l))) (side (Z0 ≤ (↑x:Int)∧(↑x:Int) < (LI l)) (side (N4 ≤ LN (ar7q10 l x)) (∃ (x_1:Arr),(weakL (List.take N4 (List.drop N0 (ar7q10 l x))) (Arr.row x_1)∧True)∧(True∧True)∧x_1 ∈ l∧∀ (y:Unit),True→ifB (ar7q7 x_1) (True∧∃ (y:Unit),True∧(↑x:Int) = ar7q11 l∧True∧True) ((SM (ar7q12 l)∧SM (D.fn (Fn.func (34:Nat)) [] [])∧SM D.unk∧SM (ZI (LI l))∧True)∧∃ (y:Nat),ar7q8 l y∧LN l - y < LN l - x∧(IntKind.wrap IntKind.i64 ((↑x:Int) + Z1) = (↑y:Int)∧True)∧True∧True)))) (True∧∃ (y:Unit),True∧(-1:Int) = ar7q11 l∧True∧True)) (by kernel_rfl) ?_
  delta DA LI LN N0 N4 SM Z0 Z1 ZI ar7q10 ar7q11 ar7q12 ar7q7 ar7q8 ar7q9
  simp only [Int.toNat_natCast,ifB_iff,side_iff,decide_eq_true_eq,decide_eq_false_iff_not,true_and,and_true,exists_const]
  simp only [maxLen] at hl
  refine ⟨⟨0,⟨Nat.zero_le _,by simp⟩,rfl⟩,fun i hh => ⟨fun hlt => ?_,fun hge => (hh.done hge).symm⟩⟩
  have hlt':i < l.length := by omega
  obtain ⟨s1,s2⟩ := hh.step hlt'
  have r4 := row_four (l.getD i default)
  refine ⟨⟨by omega,hlt⟩,Nat.le_of_eq r4.symm,l.getD i default,?_,mem_getD hlt',fun _ _ => ⟨fun e => (s1 e).symm,fun e => ⟨i + 1,s2 e,by omega,wrap_i64' (by omega) (by omega)⟩⟩⟩
  have da:(default:Arr) = Arr.mk 0 [] [] [] := rfl
  rw [← da,List.drop_zero,List.take_of_length_le (Nat.le_of_eq r4)]
  exact weakL_refl _
noncomputable def Ecf (l:List Arr):Senv := EC (fun k ds _ => match k with
  | 55 => some (pC ds (.int .i64 (idxG (fun a => (chkA a).1 != 0) l 0)) (ds = [gsl 4 Arr.row l,.fn (.func 34) [] []]))
  | _ => none) 9 2 [4] (fun _ => ([],[]))
noncomputable section
def ar7q13 (p0:List Arr):List D := [D.sl N4 (LN p0) (fun (i:Nat) => Arr.row (GA p0 i)) Mode.any,D.fn (Fn.func (34:Nat)) [] []]
end
theorem cf_ok (l:List Arr) (h:∀ a ∈ l,a.ok) (hl:l.length ≤ maxLen):ACalls Try.prog 33 [gsl 4 Arr.row l,.fn (.func 34) [] []] ⟨[],[]⟩ (SpecR (sC [gsl 4 Arr.row l,.fn (.func 34) [] []] (.bool (l.any fun a => (chkA a).1 != 0))) ()) := by
  refine con_of (A := sC _ _) (x := ()) (E := Ecf l) (eOk ?_ rfl) Try.func33 rfl (by kernel_rfl) rfl (by simp [sC,Ecf,EC,E0]) ?_
  · intro k ds S A hh
    dsimp only at hh
    split at hh
    · injection hh with hh; subst hh
      refine pC_ok fun e => ⟨weakL_refl _,?_⟩
      rw [e]
      exact ix_ok l h hl
    · cases hh
  refine vc_eq (T :=
    SM (ar7q13 l)∧∀ (y:Unit),True→True∧∃ (y:Unit),True∧(decide (Z0 ≤ idxG (fun (a:Arr) => Prod.fst (chkA a) != Z0) l Z0) = List.any l fun (a:Arr) => Prod.fst (chkA a) != Z0)∧True∧True) (by kernel_rfl) ?_
  delta DA GA LN N4 SM Z0 ar7q13
  simp only [true_and,and_true,exists_const]
  exact fun _ _ => idxG_any _ l 0 (Int.le_refl _)
end Go.Proofs.Ytoglbmhkfkghbaa
namespace Go.Proofs.Ytoglbmhkfkghbaa
open Go Go.Ab
set_option maxRecDepth 100000
abbrev stK (k x:Nat) (l:List UInt8):St := ⟨[(k,x,.cells [bsl l .any])],[]⟩
def RdOk {α:Type} (f:Nat) (ex:List D) (p:List UInt8→Option (α × List UInt8)) (d:α→D):Prop :=
  ∀ (x:Nat) (l:List UInt8),l.length ≤ 4294967296→ACalls Try.prog f (.ref 0 x 0 :: ex) (bS x l) (endP x (p l) d)
def _root_.Go.Ab.rdX {α:Type} (p:List UInt8→Option (α × List UInt8)) (d:α→D) (S:St) (R:AEnd→St→Prop) (k x:Nat):Prop :=
  match getO S.objs k with
  | some (y,.cells [.sl 1 n f .any]) => (y = x∧rowsB n f = true∧n ≤ 4294967296∧leS (stK k x (bytesOf n f)) S) ∧
    (∀ a r,p (bytesOf n f) = some (a,r)→R (.ret (d a)) ((stK k x r).add (S.less (stK k x [])))) ∧
    (p (bytesOf n f) = none→∀ r,R (.pan brk) ((stK k x r).add (S.less (stK k x []))))
  | _ => False
theorem rdX_ok {α:Type} {f:Nat} {ex:List D} {p:List UInt8→Option (α × List UInt8)} {d:α→D} (h:RdOk f ex p d) {S:St} {R:AEnd→St→Prop} {k x:Nat} (hx:rdX p d S R k x):ACalls Try.prog f (.ref k x 0 :: ex) S R := by
  unfold rdX at hx
  split at hx
  · rename_i y n g hg
    obtain ⟨⟨rfl,h1,h2,h3⟩,h4,h5⟩ := hx
    have hl:(bytesOf n g).length ≤ 4294967296 := by simpa [bytesOf] using h2
    have hc := ((h y (bytesOf n g) hl).frame (S.less (stK k y (bytesOf n g)))).from (S := S) (fun C F w H => (StTo.frame (StTo.pos (S := stK k y (bytesOf n g)) (S' := bS y (bytesOf n g)) ⟨⟨rfl,by simp [weakO,weakL,weakD,chk_iff,weakM,bsl],trivial⟩,trivial⟩) _) C F w (H.split h3))
    have hc := ACalls.weakArgs (ds := .ref k y 0 :: ex) hc ⟨by simp [weakD,chk_iff],weakL_refl _⟩
    refine hc.weaken ?_
    rintro e S2 ⟨S0,hR,rfl⟩
    cases e with
    | ret d' =>
      obtain ⟨z,q1,q2,q3⟩ := hR
      refine ⟨.ret (d z.1),(stK k y z.2).add (S.less (stK k y [])),q2,?_,h4 z.1 z.2 q1⟩
      exact (StTo.frame (leS_to q3) _).trans (StTo.frame (StTo.pos (S := bS y z.2) (S' := stK k y z.2) ⟨⟨rfl,by simp [weakO,weakL,weakD,chk_iff,weakM,bsl],trivial⟩,trivial⟩) _)
    | pan d' =>
      obtain ⟨q1,q2,r,q3⟩ := hR
      refine ⟨.pan brk,(stK k y r).add (S.less (stK k y [])),q2,?_,h5 q1 r⟩
      exact (StTo.frame (leS_to q3) _).trans (StTo.frame (StTo.pos (S := bS y r) (S' := stK k y r) ⟨⟨rfl,by simp [weakO,weakL,weakD,chk_iff,weakM,bsl],trivial⟩,trivial⟩) _)
  · exact hx.elim
noncomputable def _root_.Go.Ab.inlN (con:Con) (k:Nat) (ds:List D) (S:St) (R:AEnd→St→Prop):Prop :=
  match Nat.beq k 72 with
  | true => match ds with
    | [.ref kx x 0] => rdX numP (.int .i64) S R kx x
    | _ => False
  | false => inlD { E0 con 0 0 [] (fun _ => ([],[])) with auto := true } (frmGet frames) 9 k ds S R
theorem num_rd:RdOk 72 [] numP (.int .i64) := fun x l hl => rnum_num x l (by omega)
theorem inlN_ok {con:Con} (hc:ConOk Try.prog con) (k:Nat) (ds:List D) (S:St) (R:AEnd→St→Prop) (h:inlN con k ds S R):ACalls Try.prog k ds S R := by
  unfold inlN at h
  split at h
  · rename_i hk
    have hk := Nat.eq_of_beq_eq_true hk
    subst hk
    split at h
    · exact rdX_ok num_rd h
    · exact h.elim
  · exact inlD_ok (E := { E0 con 0 0 [] (fun _ => ([],[])) with auto := true }) tab_ok hc mix frames_ok eqs_ok 9 k ds S R h
def cntP (l:List UInt8):Option (Nat × List UInt8) := match numP l with
  | none => none
  | some y => if 0 ≤ y.1∧y.1 ≤ (y.2.length:Int) then some (y.1.toNat,y.2) else none
noncomputable def Erc:Senv := { EC con0 19 1 [2,3] (fun _ => ([],[])) with inl := inlN con0 }
theorem erOk {con:Con} (hc:ConOk Try.prog con) {inl:Nat→List D→St→(AEnd→St→Prop)→Prop} (hi:∀ k ds S R,inl k ds S R→ACalls Try.prog k ds S R) {E:Senv} (h:E = { EC con E.n E.V E.cross E.ord with gh := E.gh,gr := E.gr,unr := E.unr,cut := E.cut,ann := E.ann,cut2 := E.cut2,ann2 := E.ann2,own := E.own,gz := E.gz,mg := E.mg,pvt := E.pvt,bcut := E.bcut,inl := inl }):EnvOk E := by
  rw [h]
  exact ⟨tab_ok,hc,mix,hi,eqs_ok⟩
noncomputable section
def rd2q0 (p0:List UInt8) (p1:Nat):List D := [ZB (BI p0 p1)]
def rd2q1 (p0:List UInt8):List UInt8 := bytesOf (LN p0) fun (i:Nat) => rd2q0 p0 i
def rd2q2 (p0:List UInt8):Option (Int × List UInt8) := numP (rd2q1 p0)
def rd2q3 (p0:Nat) (p1 p2:List UInt8):Prop := (SM p0∧((LN p1 = LN p2∧(∀ (i:Nat),i < LN p1→rd2q0 p1 i = rd2q0 p2 i)∧True)∧True)∧True)∧True
def rd2q4 (p0:List UInt8) (p1:Nat) (p2:List UInt8):Prop := cntP p0 = none∧(SM (96:Nat)∧True)∧∃ (r:List UInt8),rd2q3 p1 p2 r
end
theorem cnt_rd:RdOk 70 [] cntP (fun n => .int .i64 n) := by
  intro x l hl
  refine call_of (E := Erc) (erOk con0_ok (inlN_ok con0_ok) rfl) Try.func70 rfl (by kernel_rfl) rfl (by simp [Erc,EC,E0]) ?_
  refine vc_eq (T :=
    (SM x∧(rowsB (LN l) fun (i:Nat) => rd2q0 l i) = true∧LN l ≤ (4294967296:Nat)∧(SM x∧((LN l = LN (rd2q1 l)∧(∀ (i:Nat),i < LN l→rd2q0 l i = [ZB (BI (rd2q1 l) i)])∧True)∧True)∧True)∧True)∧(∀ (a:Int) (r:List UInt8),rd2q2 l = some (a,r)→ifB (decide (Z0 ≤ a)) (SM x∧ifB (!decide (a ≤ (LI r))) (rd2q4 l x r) (True∧True∧∃ (y:Nat × List UInt8),cntP l = some y∧a = (NI y.1)∧rd2q3 x r y.2)) (rd2q4 l x r))∧(rd2q2 l = none→∀ (r:List UInt8),rd2q4 l x r)) (by kernel_rfl) ?_
  delta BI LI LN NI SM U0 Z0 ZB rd2q0 rd2q1 rd2q2 rd2q3 rd2q4
  simp only [eq_self,implies_true,ifB_iff,decide_eq_true_eq,decide_eq_false_iff_not,true_and,and_true,bytesOf_bsl,rowsB_bsl]
  refine ⟨hl,fun a r h => ⟨fun h0 => ⟨fun h1 => ⟨?_,r,rfl,fun _ _ => rfl⟩,fun h1 => ⟨(a.toNat,r),?_,?_,rfl,fun _ _ => rfl⟩⟩,fun h0 => ⟨?_,r,rfl,fun _ _ => rfl⟩⟩,fun h r => ⟨by unfold cntP; rw [h],r,rfl,fun _ _ => rfl⟩⟩
  · have h1:¬ a ≤ (r.length:Int) := by simpa using h1
    unfold cntP; rw [h]; exact if_neg fun e => h1 e.2
  · have h1:a ≤ (r.length:Int) := by simpa using h1
    unfold cntP; rw [h]; exact if_pos ⟨h0,h1⟩
  · simp only; omega
  · unfold cntP; rw [h]; exact if_neg fun e => h0 e.1
def listP {α:Type} (p:List UInt8→Option (α × List UInt8)):Nat→List UInt8→Option (List α × List UInt8)
  | 0,l => some ([],l)
  | n + 1,l => match p l with
    | none => none
    | some y => match listP p n y.2 with
      | none => none
      | some z => some (y.1 :: z.1,z.2)
structure LHd {α:Type} (p:List UInt8→Option (α × List UInt8)) (n:Nat) (l0:List UInt8) (i:Nat) (s:List α) (r:List UInt8):Prop where
  hs:s.length = i
  hi:i ≤ n
  hp:(listP p (n - i) r).map (fun y => (s ++ y.1,y.2)) = listP p n l0
theorem LHd.init {α:Type} (p:List UInt8→Option (α × List UInt8)) (n:Nat) (l0:List UInt8):LHd p n l0 0 [] l0 := ⟨rfl,Nat.zero_le _,by simp⟩
theorem LHd.none {α:Type} {p:List UInt8→Option (α × List UInt8)} {n i:Nat} {l0 r:List UInt8} {s:List α} (h:LHd p n l0 i s r) (hi:i < n) (hp:p r = none):listP p n l0 = none := by
  rw [← h.hp,show n - i = (n - i - 1) + 1 by omega,listP,hp]; rfl
theorem LHd.step {α:Type} {p:List UInt8→Option (α × List UInt8)} {n i:Nat} {l0 r r':List UInt8} {s:List α} {a:α} (h:LHd p n l0 i s r) (hi:i < n) (hp:p r = some (a,r')):LHd p n l0 (i + 1) (s ++ [a]) r' := by
  refine ⟨by simp [h.hs],by omega,?_⟩
  rw [← h.hp,show n - i = (n - (i + 1)) + 1 by omega,listP,hp]
  simp only
  cases listP p (n - (i + 1)) r' with
  | none => rfl
  | some z => simp
theorem LHd.done {α:Type} {p:List UInt8→Option (α × List UInt8)} {n i:Nat} {l0 r:List UInt8} {s:List α} (h:LHd p n l0 i s r) (hi:¬ i < n):listP p n l0 = some (s,r) := by
  have e:n - i = 0 := by omega
  rw [← h.hp,e,listP]; simp
def arrP:Nat→List UInt8→Option (Arr × List UInt8)
  | 0,_ => none
  | f + 1,l => match numP l with
    | none => none
    | some k => if ¬ (1 ≤ k.1∧k.1 ≤ 3) then none else match cntP k.2 with
      | none => none
      | some n => match listP numP n.1 n.2 with
        | none => none
        | some sh => if rightS sh.1 = false then none else if k.1 = 3 then (match listP (arrP f) (sizeS sh.1).toNat sh.2 with
            | none => none
            | some its => some (.mk k.1 sh.1 [] its.1,its.2))
          else (match listP numP (sizeS sh.1).toNat sh.2 with
            | none => none
            | some nu => some (.mk k.1 sh.1 nu.1 [],nu.2))
end Go.Proofs.Ytoglbmhkfkghbaa
namespace Go.Proofs.Ytoglbmhkfkghbaa
open Go Go.Ab
set_option maxRecDepth 100000
def _root_.Go.Ab.cellsO (os:List (Nat × Nat × AObj)) (k:Nat):List D := match getO os k with
  | some (_,.cells ds) => ds
  | _ => []
def _root_.Go.Ab.putC (os:List (Nat × Nat × AObj)) (k o:Nat) (d:D):List (Nat × Nat × AObj) := setO os k (.cells ((cellsO os k).set o d))
def _root_.Go.Ab.rdL (os:List (Nat × Nat × AObj)):List UInt8 := match getO os 0 with
  | some (_,.cells [.sl _ n f _]) => bytesOf n f
  | _ => []
def _root_.Go.Ab.shL (os:List (Nat × Nat × AObj)) (k:Nat):List Int := match getO os k with
  | some (_,.cells [_,.sl _ n f _,_,_]) => intsOf n f
  | _ => []
def _root_.Go.Ab.kdL (os:List (Nat × Nat × AObj)) (k:Nat):Int := match getO os k with
  | some (_,.cells [.int _ z,_,_,_]) => z
  | _ => 0
def natOfR:D→Nat
  | .int _ z => z.toNat
  | _ => 0
def _root_.Go.Ab.endA (x:Nat) (p:Option (Arr × List UInt8)) (e:AEnd) (S:St):Prop :=
  match e with
  | .ret d' => ∃ y:Int × List Int × List Int × List Arr × List UInt8,p = some (.mk y.1 y.2.1 y.2.2.1 y.2.2.2.1,y.2.2.2.2)∧weakD d' (.agg [.int .i64 y.1,isl y.2.1 .any,isl y.2.2.1 .any,gsl 4 Arr.row1 y.2.2.2.1])∧leS (bS x y.2.2.2.2) S
  | .pan d' => p = none∧weakD d' brk∧∃ r:List UInt8,leS (bS x r) S
noncomputable def _root_.Go.Ab.inlB (con:Con) (f:Nat) (k:Nat) (ds:List D) (S:St) (R:AEnd→St→Prop):Prop :=
  match Nat.beq k 72 with
  | true => match ds with
    | [.ref kx x 0] => rdX numP (.int .i64) S R kx x
    | _ => False
  | false => match Nat.beq k 70 with
    | true => match ds with
      | [.ref kx x 0] => rdX cntP (fun n => .int .i64 n) S R kx x
      | _ => False
    | false => match Nat.beq k 71 with
      | true => match ds with
        | [.ref kx x 0,.int .i64 z] => z = 17 - (f:Int)∧rdX (arrP f) (fun a => .agg a.row1) S R kx x
        | _ => False
      | false => inlD { E0 con 0 0 [] (fun _ => ([],[])) with auto := true } (frmGet frames) 9 k ds S R
theorem inlB_ok {con:Con} (hc:ConOk Try.prog con) {f:Nat} (hf:RdOk 71 [.int .i64 (17 - (f:Int))] (arrP f) (fun a => .agg a.row1)) (k:Nat) (ds:List D) (S:St) (R:AEnd→St→Prop) (h:inlB con f k ds S R):ACalls Try.prog k ds S R := by
  unfold inlB at h
  split at h
  · rename_i hk
    have hk := Nat.eq_of_beq_eq_true hk
    subst hk
    split at h
    · exact rdX_ok num_rd h
    · exact h.elim
  · split at h
    · rename_i hk
      have hk := Nat.eq_of_beq_eq_true hk
      subst hk
      split at h
      · exact rdX_ok cnt_rd h
      · exact h.elim
    · split at h
      · rename_i hk
        have hk := Nat.eq_of_beq_eq_true hk
        subst hk
        split at h
        · obtain ⟨rfl,h⟩ := h
          exact rdX_ok hf h
        · exact h.elim
      · exact inlD_ok (E := { E0 con 0 0 [] (fun _ => ([],[])) with auto := true }) tab_ok hc mix frames_ok eqs_ok 9 k ds S R h
section
variable {f:Nat} {l r r1 r2:List UInt8} {k:Int} {n:Nat} {sh:List Int}
theorem arrP_num (hk:numP l = none):arrP (f + 1) l = none := by simp only [arrP,hk]
theorem arrP_kind (hk:numP l = some (k,r)) (hb:¬ (1 ≤ k∧k ≤ 3)):arrP (f + 1) l = none := by
  simp only [arrP,hk]; rw [if_pos hb]
theorem arrP_cnt (hk:numP l = some (k,r)) (hg:1 ≤ k∧k ≤ 3) (hn:cntP r = none):arrP (f + 1) l = none := by
  simp only [arrP,hk]; rw [if_neg (by simpa using hg)]; simp only [hn]
theorem arrP_shape (hk:numP l = some (k,r)) (hg:1 ≤ k∧k ≤ 3) (hn:cntP r = some (n,r1)) (hs:listP numP n r1 = none):arrP (f + 1) l = none := by
  simp only [arrP,hk]; rw [if_neg (by simpa using hg)]; simp only [hn,hs]
theorem arrP_right (hk:numP l = some (k,r)) (hg:1 ≤ k∧k ≤ 3) (hn:cntP r = some (n,r1)) (hs:listP numP n r1 = some (sh,r2)) (hr:rightS sh = false):arrP (f + 1) l = none := by
  simp only [arrP,hk]; rw [if_neg (by simpa using hg)]; simp only [hn,hs]; rw [if_pos hr]
theorem arrP_items (hk : numP l = some (k, r)) (hg : 1 ≤ k ∧ k ≤ 3) (hn : cntP r = some (n, r1)) (hs : listP numP n r1 = some (sh, r2)) (hr : rightS sh = true) (h3 : k = 3) :
    arrP (f + 1) l = match listP (arrP f) (sizeS sh).toNat r2 with
      | none => none
      | some its => some (.mk k sh [] its.1,its.2) := by
  simp only [arrP,hk]; rw [if_neg (by simpa using hg)]; simp only [hn,hs]; rw [if_neg (by simp [hr]),if_pos h3]; try rfl
theorem arrP_nums (hk : numP l = some (k, r)) (hg : 1 ≤ k ∧ k ≤ 3) (hn : cntP r = some (n, r1)) (hs : listP numP n r1 = some (sh, r2)) (hr : rightS sh = true) (h3 : ¬ k = 3) :
    arrP (f + 1) l = match listP numP (sizeS sh).toNat r2 with
      | none => none
      | some nu => some (.mk k sh nu.1 [],nu.2) := by
  simp only [arrP,hk]; rw [if_neg (by simpa using hg)]; simp only [hn,hs]; rw [if_neg (by simp [hr]),if_neg h3]; try rfl
end
theorem goO_nonneg:∀ (s:List Int) (p:Int),0 ≤ p→∀ q,goO s p = some q→0 ≤ q
  | [],p,hp,q,h => by rw [goO] at h; injection h with h; omega
  | d :: r,p,hp,q,h => by
    rw [goO] at h
    split at h
    · cases h
    · split at h
      · exact goO_nonneg r p hp q h
      · split at h
        · cases h
        · exact goO_nonneg r _ (Int.mul_nonneg hp (by omega)) q h
theorem sizeS_nonneg (s:List Int):0 ≤ sizeS s := by
  unfold sizeS
  split
  · omega
  · cases hg:goO s 1 with
    | none => simp
    | some q => have := goO_nonneg s 1 (by omega) q hg; simpa using this
theorem listP_len {α:Type} {p:List UInt8→Option (α × List UInt8)} (hp:∀ l y,p l = some y→y.2.length ≤ l.length):∀ (n:Nat) (l:List UInt8) (y:List α × List UInt8),listP p n l = some y→y.2.length ≤ l.length
  | 0,l,y,h => by rw [listP] at h; injection h with h; subst h; exact Nat.le_refl _
  | n + 1,l,y,h => by
    rw [listP] at h
    split at h
    · cases h
    · rename_i z hz
      split at h
      · cases h
      · rename_i w hw
        injection h with h; subst h
        have h1 := hp _ _ hz
        have h2 := listP_len hp n _ _ hw
        simp only
        omega
theorem cntP_ok {l:List UInt8} {n:Nat} {r:List UInt8} (h:cntP l = some (n,r)):n ≤ r.length∧r.length < l.length := by
  unfold cntP at h
  split at h
  · cases h
  · rename_i y hy
    split at h
    · rename_i hc
      injection h with h; injection h with h1 h2
      have := numP_ok hy
      rw [← h2,← h1]
      exact ⟨by omega,this.2⟩
    · cases h
theorem arrP_len:∀ (f:Nat) (l:List UInt8) (y:Arr × List UInt8),arrP f l = some y→y.2.length ≤ l.length
  | 0,l,y,h => by simp [arrP] at h
  | f + 1,l,y,h => by
    cases hk:numP l with
    | none => rw [arrP_num hk] at h; cases h
    | some k =>
      obtain ⟨k,r⟩ := k
      have l1 := (numP_ok hk).2
      by_cases hg:1 ≤ k∧k ≤ 3
      · cases hn:cntP r with
        | none => rw [arrP_cnt hk hg hn] at h; cases h
        | some n =>
          obtain ⟨n,r1⟩ := n
          have l2 := (cntP_ok hn).2
          cases hs:listP numP n r1 with
          | none => rw [arrP_shape hk hg hn hs] at h; cases h
          | some sh =>
            obtain ⟨sh,r2⟩ := sh
            have l3 := listP_len (fun l y h => Nat.le_of_lt (numP_ok h).2) _ _ _ hs
            cases hr:rightS sh with
            | false => rw [arrP_right hk hg hn hs hr] at h; cases h
            | true =>
              simp only at l1 l3
              by_cases h3:k = 3
              · rw [arrP_items hk hg hn hs hr h3] at h
                split at h
                · cases h
                · rename_i its hi
                  have l4 := listP_len (arrP_len f) _ _ _ hi
                  injection h with h; subst h
                  simp only; omega
              · rw [arrP_nums hk hg hn hs hr h3] at h
                split at h
                · cases h
                · rename_i nu hi
                  have l4 := listP_len (fun l y h => Nat.le_of_lt (numP_ok h).2) _ _ _ hi
                  injection h with h; subst h
                  simp only; omega
      · rw [arrP_kind hk hg] at h; cases h
noncomputable def Era2 (f:Nat) (l:List UInt8):Senv := { EC conAr 63 2 [4,5,22,23,24,39,40,41,44] (fun id => match id with | 6 => ([0,1,2,3,4,5,6,7],[3,4,5,7]) | 12 => ([0,1,2,3,4,5,6,7,8,9],[5,6,7,9]) | 13 => ([0,1,2,3,4,5,6,7],[3,4,5,7]) | _ => ([],[])) with
  inl := inlB conAr f
  gh := fun b => match b with
    | 0 => [.cell 2 1]
    | 2 => [.cell 2 2,.cell 2 403]
    | _ => []
  ann := fun b env S => match b with
    | 0 => some { slots := [23],keep := [0,1,4,5,22],α := Nat × Nat × List Int × List UInt8,st := fun y => ([.int .i64 y.1],⟨setO (putC S.objs 2 1 (isl y.2.2.1 (.tok 0 y.2.1))) 0 (.cells [bsl y.2.2.2 .any]),[(0,y.2.1)]⟩),inv := fun y => LHd numP (natOfR (Ab.look env 22)) (rdL S.objs) y.1 y.2.2.1 y.2.2.2∧y.2.2.2.length ≤ l.length,mu := fun y => natOfR (Ab.look env 22) - y.1 }
    | 2 => some { slots := [40],keep := [0,1,4,5,39],α := Nat × (Nat × Nat) × List Int × List Arr × List UInt8,st := fun y => ([.int .i64 y.1],⟨setO (putC (putC S.objs 2 2 (isl y.2.2.1 (.tok 1 y.2.1.1))) 2 3 (.sl 4 y.2.2.2.1.length (fun i => (y.2.2.2.1.getD i default).row1) (.tok 2 y.2.1.2))) 0 (.cells [bsl y.2.2.2.2 .any]),[(1,y.2.1.1),(2,y.2.1.2)]⟩),inv := fun y => y.1 ≤ natOfR (Ab.look env 39)∧y.2.2.2.2.length ≤ l.length∧(kdL S.objs 2 ≠ 3→y.2.2.2.1 = []∧LHd numP (natOfR (Ab.look env 39)) (rdL S.objs) y.1 y.2.2.1 y.2.2.2.2)∧(kdL S.objs 2 = 3→y.2.2.1 = []∧LHd (arrP f) (natOfR (Ab.look env 39)) (rdL S.objs) y.1 y.2.2.2.1 y.2.2.2.2),mu := fun y => natOfR (Ab.look env 39) - y.1 }
    | _ => none }
noncomputable section
def rd3q0 (p0:List UInt8) (p1:Nat):List D := [ZB (BI p0 p1)]
def rd3q1 (p0 p1:List UInt8):Prop := (LN p0 = LN p1∧(∀ (i:Nat),i < LN p0→rd3q0 p0 i = rd3q0 p1 i)∧True)∧True
def rd3q2 (p0:Nat) (p1 p2:List UInt8):Prop := (SM p0∧rd3q1 p1 p2∧True)∧True
def rd3q3 (p0:Nat) (p1:List UInt8):Prop := (SM (96:Nat)∧True)∧∃ (r:List UInt8),rd3q2 p0 p1 r
def rd3q4 (p0:List UInt8):List UInt8 := bytesOf (LN p0) fun (i:Nat) => rd3q0 p0 i
def rd3q5 (p0:Nat) (p1:List UInt8):Prop := SM p0∧(rowsB (LN p1) fun (i:Nat) => rd3q0 p1 i) = true∧LN p1 ≤ (4294967296:Nat)∧(SM p0∧((LN p1 = LN (rd3q4 p1)∧(∀ (i:Nat),i < LN p1→rd3q0 p1 i = [ZB (BI (rd3q4 p1) i)])∧True)∧True)∧True)∧True
def rd3q6 (p0:List UInt8):Option (Int × List UInt8) := numP (rd3q4 p0)
def rd3q7 (p0:List UInt8) (p1:Int) (p2:List UInt8):Prop := rd3q6 p0 = some (p1,p2)
def rd3q8 (p0:Nat) (p1:List UInt8) (p2:Nat) (p3:List UInt8):Prop := arrP (p0 + N1) p1 = none∧rd3q3 p2 p3
def rd3q9 (p0:List UInt8):Option (Nat × List UInt8) := cntP (rd3q4 p0)
def rd3q10 (p0:Nat) (p1:List UInt8) (p2:Nat) (p3:List Int) (p4 p5:List UInt8):Prop := LHd numP (natOfR (ZI (↑p0:Int))) (rd3q4 p1) p2 p3 p4∧LN p4 ≤ LN p5
def rd3q11 (p0:List Int) (p1:Nat):List D := [ZI (GI p0 p1)]
def rd3q12 (p0:List Int) (p1 p2:Nat):Prop := N0 = LN p0∧(∀ (i:Nat),i < N0→eqOf (List D) [] (rd3q11 p0 i))∧p1 = p2
def rd3q13:Prop := SM N0∧(∀ (i:Nat),i < N0→eqOf (List D) [] [])∧True
def rd3q14:Prop := rd3q13∧rd3q13∧True
def rd3q15 (p0:Nat):Prop := SM p0∧(SM Z0∧rd3q13∧rd3q14)∧True
def rd3q16 (p0:List Int) (p1:Nat):D := D.sl N1 (LN p0) (fun (i:Nat) => rd3q11 p0 i) (Mode.tok N0 p1)
def rd3q17 (p0:Nat) (p1:List Int) (p2:Nat):Prop := SM p0∧SM (rd3q16 p1 p2)
def rd3q18 (p0 p1:Nat):Prop := IntKind.wrap IntKind.i64 ((↑p0:Int) + Z1) = (↑p1:Int)∧True
def rd3q19 (p0 p1:List Int) (p2:Int) (p3 p4:Nat):Prop := LN p0 + N1 = LN p1∧(∀ (i:Nat),i < LN p0 + N1→appF (LN p0) (fun (i:Nat) => rd3q11 p0 i) (fun (i:Nat) => List.getD [[ZI p2]] i []) i = rd3q11 p1 i)∧p3 = p4
def rd3q20 (p0:List UInt8):Prop := rd3q6 p0 = none
def rd3q21 (p0:Nat) (p1:List UInt8) (p2:Nat):Prop := ∀ (r:List UInt8),rd3q8 p0 p1 p2 r
def rd3q22 (p0:List UInt8) (p1:Nat) (p2:List UInt8) (p3:Nat):Prop := rd3q20 p0→rd3q21 p1 p2 p3
def rd3q23 (p0:List Int):Prop := IntsP (LN p0) fun (i:Nat) => rd3q11 p0 i
def rd3q24 (p0:List Int):List Int := intsD (LN p0) fun (i:Nat) => rd3q11 p0 i
def rd3q25 (p0:List Int):Bool := rightS (rd3q24 p0)
def rd3q26 (p0:List Int):Bool := !rd3q25 p0
def rd3q27 (p0:Nat) (p1 p2:List UInt8) (p3:Int) (p4:List Arr) (p5:List UInt8) (p6:List Int) (p7:Nat):Prop := p0 ≤ N0∧LN p1 ≤ LN p2∧(p3 ≠ (3:Int)→eqOf (List Arr) p4 []∧LHd numP N0 (rd3q4 p5) p0 p6 p1)∧(p3 = (3:Int)→eqOf (List Int) p6 []∧LHd (arrP p7) N0 (rd3q4 p5) p0 p4 p1)
def rd3q28 (p0:List Int) (p1:Nat):Prop := SM (LN p0)∧(∀ (i:Nat),i < LN p0→SM (rd3q11 p0 i))∧SM p1
def rd3q29:Arr := DA
def rd3q30 (p0:List Arr) (p1:Nat):Arr := List.getD p0 p1 rd3q29
def rd3q31 (p0:List Arr) (p1:Nat):List Int := Arr.sh (rd3q30 p0 p1)
def rd3q32 (p0:List Arr) (p1:Nat):List Int := Arr.nu (rd3q30 p0 p1)
def rd3q33 (p0:List Arr) (p1:Nat):List Arr := Arr.it (rd3q30 p0 p1)
def rd3q34 (p0:List Arr) (p1:Nat):List D := [ZI (Arr.k (rd3q30 p0 p1)),SI (rd3q31 p0 p1),SI (rd3q32 p0 p1),D.sl N4 (LN (rd3q33 p0 p1)) (fun (i:Nat) => Arr.row (List.getD (rd3q33 p0 p1) i rd3q29)) Mode.any]
def rd3q35 (p0 p1:List Int):Prop := ∀ (i:Nat),i < LN p0→rd3q11 p0 i = rd3q11 p1 i
def rd3q36 (p0 p1:List Int):Prop := LN p0 = LN p1∧rd3q35 p0 p1∧True
def rd3q37 (p0 p1:List Arr):Prop := ∀ (i:Nat),i < LN p0→rd3q34 p0 i = rd3q34 p1 i
def rd3q38 (p0 p1 p2:Nat) (p3:List UInt8) (p4:Int) (p5 p6:List Int) (p7:List Arr) (p8:Nat) (p9:List UInt8):Prop := SM p0∧SM p1∧(SM p1∧True)∧∃ (y:Int × List Int × List Int × List Arr × List UInt8),arrP (p2 + N1) p3 = some (Arr.mk y.1 y.2.1 y.2.2.1 y.2.2.2.1,y.2.2.2.2)∧(p4 = y.1∧rd3q36 p5 y.2.1∧rd3q36 p6 y.2.2.1∧(LN p7 = LN y.2.2.2.1∧rd3q37 p7 y.2.2.2.1∧True)∧True)∧rd3q2 p8 p9 y.2.2.2.2
def rd3q39 (p0:List Int):Int := sizeS (rd3q24 p0)
def rd3q40 (p0:List Int):D := ZI (rd3q39 p0)
def rd3q41 (p0:List Int):Nat := natOfR (rd3q40 p0)
def rd3q42 (p0:Nat) (p1:List Int) (p2 p3:List UInt8) (p4:Int) (p5:List Arr) (p6:List UInt8) (p7:List Int) (p8:Nat):Prop := p0 ≤ rd3q41 p1∧LN p2 ≤ LN p3∧(p4 ≠ (3:Int)→eqOf (List Arr) p5 []∧LHd numP (rd3q41 p1) (rd3q4 p6) p0 p7 p2)∧(p4 = (3:Int)→eqOf (List Int) p7 []∧LHd (arrP p8) (rd3q41 p1) (rd3q4 p6) p0 p5 p2)
def rd3q43 (p0:Nat) (p1:List UInt8):Option (Arr × List UInt8) := arrP p0 (rd3q4 p1)
def rd3q44 (p0:List Arr) (p1:Nat):D := D.sl N4 (LN p0) (fun (i:Nat) => rd3q34 p0 i) (Mode.tok N2 p1)
def rd3q45 (p0:Nat) (p1:List Arr) (p2:Nat):Prop := SM p0∧SM (rd3q44 p1 p2)
def rd3q46 (p0 p1 p2 p3:Nat) (p4:List Int):Prop := SM (D.ref N0 p0 N0)∧SM (ZI ((16:Int) - (↑p1:Int)))∧SM (D.ref N1 p2 N0)∧SM (D.ref N2 p3 N0)∧SM (rd3q40 p4)∧True
def rd3q47 (p0:List Int) (p1:Nat):Nat := rd3q41 p0 - p1
def rd3q48 (p0:List Int) (p1 p2:Nat):Prop := rd3q47 p0 p1 < rd3q47 p0 p2
def rd3q49 (p0:List Int) (p1:Nat):D := D.sl N1 (LN p0) (fun (i:Nat) => rd3q11 p0 i) (Mode.tok N1 p1)
def rd3q50 (p0:Nat) (p1:List Int) (p2:Nat):Prop := SM p0∧SM (rd3q49 p1 p2)
end
theorem rarr_step (f : Nat) (hf17 : f ≤ 16) (hf : RdOk 71 [.int .i64 (17 - (f : Int))] (arrP f) (fun a => .agg a.row1)) (x : Nat) (l : List UInt8) (hl : l.length ≤ 4294967296) :
    ACalls Try.prog 71 [.ref 0 x 0,.int .i64 (16 - (f:Int))] (bS x l) (endA x (arrP (f + 1) l)) := by
  refine call_of (E := Era2 f l) (erOk conAr_ok (inlB_ok conAr_ok hf) rfl) Try.func71 rfl (by kernel_rfl) rfl (by simp [Era2,EC,E0]) ?_
  refine vc_eq (T :=
    ∀ (x_1:Nat),x ≠ x_1∧True→ifB (!decide ((16:Int) - (↑f:Int) ≤ (16:Int))) (arrP (f + N1) l = none∧rd3q3 x l) (True∧rd3q5 x l∧(∀ (a:Int) (r:List UInt8),rd3q7 l a r→∀ (x_2:Nat),x ≠ x_2∧x_1 ≠ x_2∧True→SM x_2∧SM x_2∧ifB (decide (Z1 ≤ a)) (SM x_2∧ifB (!decide (a ≤ (3:Int))) (rd3q8 f l x r) (True∧rd3q5 x r∧(∀ (a_3:Nat) (r_1:List UInt8),rd3q9 r = some (a_3,r_1)→∀ (t:Nat),(∃ (x_3:Nat × Nat × List Int × List UInt8),rd3q10 a_3 r_1 x_3.1 x_3.2.2.1 x_3.2.2.2 l∧(Z0 = (NI x_3.1)∧True)∧(SM x∧rd3q1 r_1 x_3.2.2.2∧SM x_2∧(SM a∧rd3q12 x_3.2.2.1 t x_3.2.1∧rd3q14)∧rd3q15 x_1)∧t = x_3.2.1∧True)∧∀ (x_3:Nat × Nat × List Int × List UInt8),rd3q10 a_3 r_1 x_3.1 x_3.2.2.1 x_3.2.2.2 l→ifB (decide ((NI x_3.1) < (↑a_3:Int))) (SM x_2∧rd3q5 x x_3.2.2.2∧(∀ (a_6:Int) (r:List UInt8),rd3q7 x_3.2.2.2 a_6 r→rd3q17 x_2 x_3.2.2.1 x_3.2.1∧rd3q17 x_2 x_3.2.2.1 x_3.2.1∧SM x_3.2.1∧side ((LN x_3.2.2.1 + N1) * (8:Nat) ≤ (140737488355328:Nat)∧LN x_3.2.2.1 + N1 ≤ (9223372036854775807:Nat)) (∀ (t:Nat),SM x_2∧(SM (D.ref N0 x N0)∧SM (ZI ((16:Int) - (↑f:Int)))∧SM (D.ref N1 x_1 N0)∧SM (D.ref N2 x_2 N0)∧SM (ZI (↑a_3:Int))∧True)∧∃ (y:Nat × Nat × List Int × List UInt8),rd3q10 a_3 r_1 y.1 y.2.2.1 y.2.2.2 l∧natOfR (ZI (↑a_3:Int)) - y.1 < natOfR (ZI (↑a_3:Int)) - x_3.1∧rd3q18 x_3.1 y.1∧(SM x∧rd3q1 r y.2.2.2∧SM x_2∧(SM a∧rd3q19 x_3.2.2.1 y.2.2.1 a_6 t y.2.1∧rd3q14)∧rd3q15 x_1)∧t = y.2.1∧True))∧rd3q22 x_3.2.2.2 f l x) (SM x_2∧rd3q23 x_3.2.2.1∧∀ (y:Unit),True→ifB (rd3q26 x_3.2.2.1) (rd3q8 f l x x_3.2.2.2) (True∧SM x_2∧rd3q23 x_3.2.2.1∧∀ (y:Unit),True→ifB (rd3q26 x_3.2.2.1) (True∧∀ (t t_1:Nat),(∃ (x_4:Nat × (Nat × Nat) × List Int × List Arr × List UInt8),rd3q27 x_4.1 x_4.2.2.2.2 l a x_4.2.2.2.1 x_3.2.2.2 x_4.2.2.1 f∧(Z0 = (NI x_4.1)∧True)∧(SM x∧rd3q1 x_3.2.2.2 x_4.2.2.2.2∧SM x_2∧(SM a∧rd3q28 x_3.2.2.1 x_3.2.1∧rd3q12 x_4.2.2.1 t x_4.2.1.1∧(N0 = LN x_4.2.2.2.1∧(∀ (i:Nat),i < N0→eqOf (List D) [] (rd3q34 x_4.2.2.2.1 i))∧t_1 = x_4.2.1.2)∧True)∧rd3q15 x_1)∧t = x_4.2.1.1∧t_1 = x_4.2.1.2∧True)∧∀ (x_4:Nat × (Nat × Nat) × List Int × List Arr × List UInt8),rd3q27 x_4.1 x_4.2.2.2.2 l a x_4.2.2.2.1 x_3.2.2.2 x_4.2.2.1 f→rd3q38 x_2 x_1 f l a x_3.2.2.1 x_4.2.2.1 x_4.2.2.2.1 x x_4.2.2.2.2) ((rd3q23 x_3.2.2.1∧rd3q25 x_3.2.2.1 = true)∧∀ (y:Unit),True→True∧∀ (t t_1:Nat),(∃ (x_4:Nat × (Nat × Nat) × List Int × List Arr × List UInt8),rd3q42 x_4.1 x_3.2.2.1 x_4.2.2.2.2 l a x_4.2.2.2.1 x_3.2.2.2 x_4.2.2.1 f∧(Z0 = (NI x_4.1)∧True)∧(SM x∧rd3q1 x_3.2.2.2 x_4.2.2.2.2∧SM x_2∧(SM a∧rd3q28 x_3.2.2.1 x_3.2.1∧rd3q12 x_4.2.2.1 t x_4.2.1.1∧(N0 = LN x_4.2.2.2.1∧(∀ (i:Nat),i < N0→eqOf (List D) [] (rd3q34 x_4.2.2.2.1 i))∧t_1 = x_4.2.1.2)∧True)∧rd3q15 x_1)∧t = x_4.2.1.1∧t_1 = x_4.2.1.2∧True)∧∀ (x_4:Nat × (Nat × Nat) × List Int × List Arr × List UInt8),rd3q42 x_4.1 x_3.2.2.1 x_4.2.2.2.2 l a x_4.2.2.2.1 x_3.2.2.2 x_4.2.2.1 f→ifB (decide ((NI x_4.1) < rd3q39 x_3.2.2.1)) (SM x_2∧ifB (a == (3:Int)) (SM x_2∧IntKind.wrap IntKind.i64 ((16:Int) - (↑f:Int) + Z1) = (17:Int) - (↑f:Int)∧rd3q5 x x_4.2.2.2.2∧(∀ (a_10:Arr) (r:List UInt8),rd3q43 f x_4.2.2.2.2 = some (a_10,r)→rd3q45 x_2 x_4.2.2.2.1 x_4.2.1.2∧rd3q45 x_2 x_4.2.2.2.1 x_4.2.1.2∧SM x_4.2.1.2∧side ((LN x_4.2.2.2.1 + N1) * (80:Nat) ≤ (140737488355328:Nat)∧LN x_4.2.2.2.1 + N1 ≤ (9223372036854775807:Nat)) (∀ (t:Nat),SM x_2∧rd3q46 x f x_1 x_2 x_3.2.2.1∧∃ (y:Nat × (Nat × Nat) × List Int × List Arr × List UInt8),rd3q42 y.1 x_3.2.2.1 y.2.2.2.2 l a y.2.2.2.1 x_3.2.2.2 y.2.2.1 f∧rd3q48 x_3.2.2.1 y.1 x_4.1∧rd3q18 x_4.1 y.1∧(SM x∧rd3q1 r y.2.2.2.2∧SM x_2∧(SM a∧rd3q28 x_3.2.2.1 x_3.2.1∧(LN x_4.2.2.1 = LN y.2.2.1∧rd3q35 x_4.2.2.1 y.2.2.1∧x_4.2.1.1 = y.2.1.1)∧(LN x_4.2.2.2.1 + N1 = LN y.2.2.2.1∧(∀ (i:Nat),i < LN x_4.2.2.2.1 + N1→appF (LN x_4.2.2.2.1) (fun (i:Nat) => rd3q34 x_4.2.2.2.1 i) (fun (i:Nat) => List.getD [[ZI (Arr.k a_10),SI (Arr.sh a_10),SI (Arr.nu a_10),D.sl N4 (LN (Arr.it a_10)) (fun (i:Nat) => Arr.row (List.getD (Arr.it a_10) i rd3q29)) Mode.any]] i []) i = rd3q34 y.2.2.2.1 i)∧t = y.2.1.2)∧True)∧rd3q15 x_1)∧x_4.2.1.1 = y.2.1.1∧t = y.2.1.2∧True))∧(rd3q43 f x_4.2.2.2.2 = none→rd3q21 f l x)) (SM x_2∧rd3q5 x x_4.2.2.2.2∧(∀ (a_10:Int) (r:List UInt8),rd3q7 x_4.2.2.2.2 a_10 r→rd3q50 x_2 x_4.2.2.1 x_4.2.1.1∧rd3q50 x_2 x_4.2.2.1 x_4.2.1.1∧SM x_4.2.1.1∧side ((LN x_4.2.2.1 + N1) * (8:Nat) ≤ (140737488355328:Nat)∧LN x_4.2.2.1 + N1 ≤ (9223372036854775807:Nat)) (∀ (t:Nat),SM x_2∧rd3q46 x f x_1 x_2 x_3.2.2.1∧∃ (y:Nat × (Nat × Nat) × List Int × List Arr × List UInt8),rd3q42 y.1 x_3.2.2.1 y.2.2.2.2 l a y.2.2.2.1 x_3.2.2.2 y.2.2.1 f∧rd3q48 x_3.2.2.1 y.1 x_4.1∧rd3q18 x_4.1 y.1∧(SM x∧rd3q1 r y.2.2.2.2∧SM x_2∧(SM a∧rd3q28 x_3.2.2.1 x_3.2.1∧rd3q19 x_4.2.2.1 y.2.2.1 a_10 t y.2.1.1∧(LN x_4.2.2.2.1 = LN y.2.2.2.1∧rd3q37 x_4.2.2.2.1 y.2.2.2.1∧x_4.2.1.2 = y.2.1.2)∧True)∧rd3q15 x_1)∧t = y.2.1.1∧x_4.2.1.2 = y.2.1.2∧True))∧rd3q22 x_4.2.2.2.2 f l x)) (rd3q38 x_2 x_1 f l a x_3.2.2.1 x_4.2.2.1 x_4.2.2.2.1 x x_4.2.2.2.2)))))∧(rd3q9 r = none→rd3q21 f l x))) (rd3q8 f l x r))∧(rd3q20 l→rd3q21 f l x))) (by kernel_rfl) ?_
  delta BI DA GI LN N0 N1 N2 N4 NI SI SM U0 Z0 Z1 ZB ZI rd3q0 rd3q1 rd3q10 rd3q11 rd3q12 rd3q13 rd3q14 rd3q15 rd3q16 rd3q17 rd3q18 rd3q19 rd3q2 rd3q20 rd3q21 rd3q22 rd3q23 rd3q24 rd3q25 rd3q26 rd3q27 rd3q28 rd3q29 rd3q3 rd3q30 rd3q31 rd3q32 rd3q33 rd3q34 rd3q35 rd3q36 rd3q37 rd3q38 rd3q39 rd3q4 rd3q40 rd3q41 rd3q42 rd3q43 rd3q44 rd3q45 rd3q46 rd3q47 rd3q48 rd3q49 rd3q5 rd3q50 rd3q6 rd3q7 rd3q8 rd3q9
  have da:(default:Arr) = Arr.mk 0 [] [] [] := rfl
  simp only [← da,eq_self,ne_eq,implies_true,Int.toNat_natCast,ifB_iff,side_iff,decide_eq_true_eq,decide_eq_false_iff_not,true_and,and_true,beq_iff_eq,beq_eq_false_iff_ne,forall_const,bytesOf_bsl,rowsB_bsl,natOfR]
  have hrow0:∀ (r:List UInt8),∃ r':List UInt8,r.length = r'.length∧∀ i,i < r.length→[D.int .u8 ((r.getD i 0).toNat:Int)] = [D.int .u8 ((r'.getD i 0).toNat:Int)] := fun r => ⟨r,rfl,fun _ _ => rfl⟩
  intro x1 _
  refine ⟨fun h => ?_,fun _ => ⟨hl,fun k r hk x2 _ => ⟨fun h1 => ⟨fun h3 => ⟨arrP_kind hk ?_,hrow0 r⟩,fun h3 => ⟨?_,fun n r1 hn t => ⟨⟨(0,t,[],r1),⟨LHd.init _ _ _,?_⟩,rfl,⟨⟨rfl,fun _ _ => rfl⟩,rfl,fun i hi => absurd hi (Nat.not_lt_zero i),rfl⟩,rfl⟩,?_⟩,fun hn r' => ⟨arrP_cnt hk ?_ hn,hrow0 r'⟩⟩⟩,fun h1 => ⟨arrP_kind hk ?_,hrow0 r⟩⟩,fun hk r => ⟨arrP_num hk,hrow0 r⟩⟩⟩
  · have h:¬ (16 - (f:Int) ≤ 16) := by simpa using h
    omega
  · have h3:¬ k ≤ 3 := by simpa using h3
    omega
  · have := (numP_ok hk).2; simp only at this; omega
  · have := (numP_ok hk).2; have := (cntP_ok hn).2; simp only at *; omega
  · have h3:k ≤ 3 := by simpa using h3
    have hg:1 ≤ k∧k ≤ 3 := ⟨h1,h3⟩
    have l1:r.length < l.length := (numP_ok hk).2
    obtain ⟨c1,c2⟩ := cntP_ok hn
    rintro ⟨i,t0,s,rr⟩ ⟨hL,hrl⟩
    simp only at hL hrl ⊢
    have his := hL.hs
    refine ⟨fun hlt => ⟨by omega,fun z rz hz => ⟨by have := hL.hi; omega,fun t1 => ⟨(i + 1,t1,s ++ [z],rz),⟨hL.step (by omega) hz,?_⟩,by simp only; omega,wrap_i64' (by omega) (by omega),⟨⟨rfl,fun _ _ => rfl⟩,by simp,fun j hj => ?_,rfl⟩,rfl⟩⟩,fun hz r' => ⟨arrP_shape hk hg hn (hL.none (by omega) hz),hrow0 r'⟩⟩,fun hge => ?_⟩
    · have := (numP_ok hz).2; simp only at this ⊢; omega
    · simp only [appF]
      split
      · rename_i hlt'
        simp [List.getD_eq_getElem?_getD,List.getElem?_append_left hlt']
      · have:j = s.length := by omega
        subst this
        simp [List.getD_eq_getElem?_getD]
    have hs := hL.done (by omega)
    have hip:IntsP s.length (fun i => [D.int .i64 (s.getD i 0)]) := intsP_isl s
    simp only [intsD_isl]
    refine ⟨hip,fun hr => ⟨arrP_right hk hg hn hs (by simpa using hr),hrow0 rr⟩,fun hr => ?_⟩
    have hr:rightS s = true := by simpa using hr
    have hS := sizeS_le (s := s)
    have hS0 := sizeS_nonneg s
    refine ⟨hip,fun hr' => by simp [hr] at hr',fun _ => ⟨⟨hip,hr⟩,fun t2 t3 => ⟨⟨(0,(t2,t3),[],[],rr),⟨Nat.zero_le _,hrl,fun _ => ⟨rfl,LHd.init _ _ _⟩,fun _ => ⟨rfl,LHd.init _ _ _⟩⟩,rfl,⟨⟨rfl,fun _ _ => rfl⟩,⟨rfl,fun i hi => absurd hi (Nat.not_lt_zero i),rfl⟩,rfl,fun i hi => absurd hi (Nat.not_lt_zero i),rfl⟩,rfl,rfl⟩,?_⟩⟩⟩
    rintro ⟨j,⟨t4,t5⟩,nu,its,r4⟩ ⟨hj,hr4,hA,hB⟩
    simp only at hj hr4 hA hB ⊢
    refine ⟨fun hlt => ⟨fun k3 => ?_,fun k3 => ?_⟩,fun hge => ?_⟩
    · obtain ⟨rfl,hM⟩ := hB k3
      have hms := hM.hs
      refine ⟨by rw [wrap_i64' (by omega) (by omega)]; omega,by omega,fun a ra ha => ⟨by omega,fun t6 => ⟨(j + 1,(t4,t6),[],its ++ [a],ra),⟨by simp only; omega,?_,fun e => (e k3).elim,fun _ => ⟨rfl,hM.step (by omega) ha⟩⟩,by simp only; omega,wrap_i64' (by omega) (by omega),⟨⟨rfl,fun _ _ => rfl⟩,⟨rfl,fun i hi => absurd hi (Nat.not_lt_zero i),rfl⟩,by simp,fun i hi => ?_,rfl⟩,rfl,rfl⟩⟩,fun ha r' => ⟨?_,hrow0 r'⟩⟩
      · have := arrP_len f _ _ ha; simp only at this ⊢; omega
      · simp only [appF]
        split
        · rename_i hlt'
          simp [List.getD_eq_getElem?_getD,List.getElem?_append_left hlt']
        · have:i = its.length := by omega
          subst this
          simp [List.getD_eq_getElem?_getD]
      · rw [arrP_items hk hg hn hs hr k3,hM.none (by omega) ha]
    · obtain ⟨rfl,hM⟩ := hA k3
      have hms := hM.hs
      refine ⟨by omega,fun z rz hz => ⟨by omega,fun t6 => ⟨(j + 1,(t6,t5),nu ++ [z],[],rz),⟨by simp only; omega,?_,fun _ => ⟨rfl,hM.step (by omega) hz⟩,fun e => (k3 e).elim⟩,by simp only; omega,wrap_i64' (by omega) (by omega),⟨⟨rfl,fun _ _ => rfl⟩,⟨by simp,fun i hi => ?_,rfl⟩,rfl,fun i hi => absurd hi (Nat.not_lt_zero i),rfl⟩,rfl,rfl⟩⟩,fun hz r' => ⟨?_,hrow0 r'⟩⟩
      · have := (numP_ok hz).2; simp only at this ⊢; omega
      · simp only [appF]
        split
        · rename_i hlt'
          simp [List.getD_eq_getElem?_getD,List.getElem?_append_left hlt']
        · have:i = nu.length := by omega
          subst this
          simp [List.getD_eq_getElem?_getD]
      · rw [arrP_nums hk hg hn hs hr k3,hM.none (by omega) hz]
    · by_cases k3:k = 3
      · obtain ⟨rfl,hM⟩ := hB k3
        refine ⟨(k,s,[],its,r4),?_,⟨rfl,⟨rfl,fun _ _ => rfl⟩,⟨rfl,fun _ _ => rfl⟩,rfl,fun _ _ => rfl⟩,rfl,fun _ _ => rfl⟩
        rw [arrP_items hk hg hn hs hr k3,hM.done (by omega)]
      · obtain ⟨rfl,hM⟩ := hA k3
        refine ⟨(k,s,nu,[],r4),?_,⟨rfl,⟨rfl,fun _ _ => rfl⟩,⟨rfl,fun _ _ => rfl⟩,rfl,fun _ _ => rfl⟩,rfl,fun _ _ => rfl⟩
        rw [arrP_nums hk hg hn hs hr k3,hM.done (by omega)]
  · have h3:k ≤ 3 := by simpa using h3
    exact ⟨h1,h3⟩
  · omega
theorem ACalls.wkEnd {P:Program} {k:FuncId} {ds:List D} {S:St} {R R':AEnd→St→Prop} (h:ACalls P k ds S R) (hr:∀ r S',R r S'→∃ r',(∀ C e,RepEnd C r e→RepEnd C r' e)∧R' r' S'):ACalls P k ds S R' :=
  ⟨h.1,fun C F args w ha hs => (h.2 C F args w ha hs).mono fun _ _ ⟨C',_r,S',h1,h2,h3,h4⟩ => let ⟨r',q0,q2⟩ := hr _ _ h4; ⟨C',r',S',h1,h2,q0 _ _ h3,q2⟩⟩
theorem row1_row (a:Arr):wkL a.row1 a.row := by
  cases a with
  | mk k s n is =>
    simp only [Arr.row,Arr.row1,Arr.k,Arr.sh,Arr.nu,Arr.it,gsl,isl,wkL,wkD,weakD,chk_iff]
    refine ⟨⟨by simp [kEq],trivial⟩,⟨by simp,trivial,fun i _ => by simp [kEq],by simp [weakM]⟩,⟨by simp,trivial,fun i _ => by simp [kEq],by simp [weakM]⟩,⟨by simp,by simp [rowsL_map],fun i hi => ?_,by simp [weakM]⟩,trivial⟩
    have:(rowsL is).getD i [] = (is.getD i default).row := by
      rw [rowsL_map]; simp [List.getD_eq_getElem?_getD,hi]
    rw [this]
    exact wkL_refl _
theorem rarr0 (x:Nat) (l:List UInt8):ACalls Try.prog 71 [.ref 0 x 0,.int .i64 17] (bS x l) (endA x (arrP 0 l)) := by
  refine call_of (E := EC con0 63 2 [4,5,22,23,24,39,40,41,44] (fun id => match id with | 6 => ([0,1,2,3,4,5,6,7],[3,4,5,7]) | 12 => ([0,1,2,3,4,5,6,7,8,9],[5,6,7,9]) | 13 => ([0,1,2,3,4,5,6,7],[3,4,5,7]) | _ => ([],[]))) (eOk con0_ok rfl) Try.func71 rfl (by kernel_rfl) rfl (by simp [EC,E0]) ?_
  refine vc_eq (T :=
    ∀ (x_1:Nat),x ≠ x_1∧True→arrP N0 l = none∧(SM (96:Nat)∧True)∧∃ (r:List UInt8),(SM x∧((LN l = LN r∧(∀ (i:Nat),i < LN l→[ZB (BI l i)] = [ZB (BI r i)])∧True)∧True)∧True)∧True) (by kernel_rfl) ?_
  delta BI LN N0 SM U0 ZB
  exact fun x1 hx => ⟨rfl,⟨rfl,trivial⟩,l,⟨rfl,⟨⟨rfl,fun _ _ => rfl,trivial⟩,trivial⟩,trivial⟩,trivial⟩
theorem rarr_rd:∀ f:Nat,f ≤ 17→RdOk 71 [.int .i64 (17 - (f:Int))] (arrP f) (fun a => .agg a.row1)
  | 0,_ => by
    intro x l hl
    refine (rarr0 x l).mono fun r S' hr => ?_
    cases r with
    | pan d => exact hr
    | ret d =>
      obtain ⟨_,q1,_⟩ := hr
      simp [arrP] at q1
  | f + 1,h => by
    intro x l hl
    have h1 := rarr_step f (by omega) (rarr_rd f (by omega)) x l hl
    rw [show (17:Int) - ((f + 1:Nat):Int) = 16 - (f:Int) by omega]
    refine ACalls.wkEnd h1 fun r S' hr => ?_
    cases r with
    | pan d => exact ⟨.pan d,fun _ _ h => h,hr⟩
    | ret d =>
      obtain ⟨⟨k,s,n,its,r⟩,q1,q2,q3⟩ := hr
      refine ⟨.ret (.agg (Arr.mk k s n its).row1),fun C e he => ?_,⟨(Arr.mk k s n its,r),q1,weakD_refl _,q3⟩⟩
      cases e with
      | returned v =>
        refine wkD_weak (.agg (Arr.mk k s n its).row2) _ ?_ C v (weakD_weak _ _ q2 C v he)
        simp only [wkD,Arr.row1,Arr.row2,wkL,Arr.k,Arr.sh,Arr.nu,Arr.it,gsl]
        exact ⟨weakD_refl _,wkD_refl _,wkD_refl _,chk_iff.2 ⟨rfl,trivial,fun i _ => row1_row _,by simp [weakM]⟩,trivial⟩
      | panicked _ => exact he.elim
      | outgrown => exact he.elim
end Go.Proofs.Ytoglbmhkfkghbaa
namespace Go.Proofs.Ytoglbmhkfkghbaa
open Go Go.Ab
def bindP {α β:Type} (p:Option (α × List UInt8)) (f:α→List UInt8→Option β):Option β := match p with
  | none => none
  | some y => f y.1 y.2
theorem bindP_none {α β:Type} {p:Option (α × List UInt8)} {f:α→List UInt8→Option β} (h:p = none):bindP p f = none := by rw [h]; rfl
theorem bindP_some {α β:Type} {p:Option (α × List UInt8)} {f:α→List UInt8→Option β} {a:α} {r:List UInt8} (h:p = some (a,r)):bindP p f = f a r := by rw [h]; rfl
def p4 (l:List UInt8):Option (I4 × List UInt8) := bindP (numP l) fun a l => bindP (numP l) fun b l => bindP (numP l) fun c l => bindP (numP l) fun d l => some (⟨a,b,c,d⟩,l)
def p6 (l:List UInt8):Option (I6 × List UInt8) := bindP (numP l) fun a l => bindP (numP l) fun b l => bindP (numP l) fun c l => bindP (numP l) fun d l => bindP (numP l) fun e l => bindP (numP l) fun f l => some (⟨a,b,c,d,e,f⟩,l)
def funP (l:List UInt8):Option (FnD × List UInt8) := bindP (numP l) fun s l => bindP (cntP l) fun m l => bindP (listP p4 m l) fun code l => some (⟨s,code⟩,l)
def kerP (l:List UInt8):Option (KeD × List UInt8) := bindP (numP l) fun s l => bindP (cntP l) fun m l => bindP (listP p4 m l) fun ops l => bindP (numP l) fun r l => bindP (numP l) fun t l => some (⟨s,ops,r,t⟩,l)
def lanP (l:List UInt8):Option (LaD × List UInt8) := bindP (numP l) fun s l => bindP (cntP l) fun m l => bindP (listP p6 m l) fun code l => some (⟨s,code⟩,l)
def codT (cs:List Arr) (l:List UInt8):Option (CodD × List UInt8) :=
  bindP (cntP l) fun n l => bindP (listP funP n l) fun fs l => bindP (cntP l) fun n l => bindP (listP kerP n l) fun ks l => bindP (cntP l) fun n l => bindP (listP lanP n l) fun ls l => some (⟨cs,fs,ks,ls⟩,l)
def codP (l:List UInt8):Option (CodD × List UInt8) := bindP (cntP l) fun n l => bindP (listP (arrP 17) n l) codT
def bodyP (l:List UInt8):Option CodD := bindP (codP l) fun c r => if r = [] then some c else none
theorem num_len (l:List UInt8) (y:Int × List UInt8) (h:numP l = some y):y.2.length ≤ l.length := Nat.le_of_lt (numP_ok h).2
theorem num_le {l r:List UInt8} {a:Int} (h:numP l = some (a,r)):r.length ≤ l.length := Nat.le_of_lt (numP_ok h).2
theorem noC {p:Option (CodD × List UInt8)} (h:p = none):∀ c,¬ p = some (c,[]) := fun c e => by rw [h] at e; cases e
theorem bindP_len {α β:Type} {p:Option (α × List UInt8)} {f:α→List UInt8→Option (β × List UInt8)} {l:List UInt8} (h1:∀ y,p = some y→y.2.length ≤ l.length) (h2:∀ a r,r.length ≤ l.length→∀ y,f a r = some y→y.2.length ≤ l.length):∀ y,bindP p f = some y→y.2.length ≤ l.length := by
  intro y h
  cases hp:p with
  | none => rw [bindP_none hp] at h; cases h
  | some z => rw [bindP_some (a := z.1) (r := z.2) hp] at h; exact h2 _ _ (h1 z hp) y h
theorem p4_len (l:List UInt8):∀ y,p4 l = some y→y.2.length ≤ l.length :=
  bindP_len (num_len l) fun _ r h1 => bindP_len (fun y h => Nat.le_trans (num_len _ y h) h1) fun _ r h1 => bindP_len (fun y h => Nat.le_trans (num_len _ y h) h1) fun _ r h1 => bindP_len (fun y h => Nat.le_trans (num_len _ y h) h1) fun _ r h1 y h => by injection h with h; subst h; exact h1
theorem p6_len (l:List UInt8):∀ y,p6 l = some y→y.2.length ≤ l.length :=
  bindP_len (num_len l) fun _ r h1 => bindP_len (fun y h => Nat.le_trans (num_len _ y h) h1) fun _ r h1 => bindP_len (fun y h => Nat.le_trans (num_len _ y h) h1) fun _ r h1 => bindP_len (fun y h => Nat.le_trans (num_len _ y h) h1) fun _ r h1 => bindP_len (fun y h => Nat.le_trans (num_len _ y h) h1) fun _ r h1 => bindP_len (fun y h => Nat.le_trans (num_len _ y h) h1) fun _ r h1 y h => by injection h with h; subst h; exact h1
theorem cnt_len (l:List UInt8) (y:Nat × List UInt8) (h:cntP l = some y):y.2.length ≤ l.length := Nat.le_of_lt (cntP_ok (n := y.1) (r := y.2) h).2
theorem funP_len (l:List UInt8):∀ y,funP l = some y→y.2.length ≤ l.length :=
  bindP_len (num_len l) fun _ r h1 => bindP_len (fun y h => Nat.le_trans (cnt_len _ y h) h1) fun _ r h1 => bindP_len (fun y h => Nat.le_trans (listP_len (fun l y => p4_len l y) _ _ y h) h1) fun _ r h1 y h => by injection h with h; subst h; exact h1
theorem kerP_len (l:List UInt8):∀ y,kerP l = some y→y.2.length ≤ l.length :=
  bindP_len (num_len l) fun _ r h1 => bindP_len (fun y h => Nat.le_trans (cnt_len _ y h) h1) fun _ r h1 => bindP_len (fun y h => Nat.le_trans (listP_len (fun l y => p4_len l y) _ _ y h) h1) fun _ r h1 => bindP_len (fun y h => Nat.le_trans (num_len _ y h) h1) fun _ r h1 => bindP_len (fun y h => Nat.le_trans (num_len _ y h) h1) fun _ r h1 y h => by injection h with h; subst h; exact h1
theorem lanP_len (l:List UInt8):∀ y,lanP l = some y→y.2.length ≤ l.length :=
  bindP_len (num_len l) fun _ r h1 => bindP_len (fun y h => Nat.le_trans (cnt_len _ y h) h1) fun _ r h1 => bindP_len (fun y h => Nat.le_trans (listP_len (fun l y => p6_len l y) _ _ y h) h1) fun _ r h1 y h => by injection h with h; subst h; exact h1
theorem app_list {α:Type} [Inhabited α] (g:α→List D) (s:List α) (a:α) {ra:List D} (ha:ra = g a) {i:Nat} (hi:i < s.length + 1):appF s.length (fun i => g (s.getD i default)) (fun i => [ra].getD i []) i = g ((s ++ [a]).getD i default) := by
  simp only [appF]
  split
  · rename_i hlt
    simp [List.getD_eq_getElem?_getD,List.getElem?_append_left hlt]
  · have:i = s.length := by omega
    subst this
    simp [List.getD_eq_getElem?_getD,ha]
end Go.Proofs.Ytoglbmhkfkghbaa
namespace Go.Proofs.Ytoglbmhkfkghbaa
open Go Go.Ab
set_option maxRecDepth 100000
def PD {α:Type} (p:List UInt8→Option (α × List UInt8)) (b:List UInt8) (at_:Nat) (ok:Bool) (y:Nat × Bool × α):Prop :=
  y.1 ≤ b.length∧(ok = false→y.2.1 = false)∧(ok = true→(∀ a r,p (b.drop at_) = some (a,r)→y.2.1 = true∧b.drop y.1 = r∧y.2.2 = a)∧(p (b.drop at_) = none→y.2.1 = false))
def sD {α:Type} (k x:Nat) (b:List UInt8) (at_:Nat) (ok:Bool) (ex:List D) (p:List UInt8→Option (α × List UInt8)) (d:α→D) (q:α→Prop):FnSpec where
  β := Unit
  α := Nat × Bool × α
  args := fun _ => .ref k x 0 :: ex
  st := fun _ => ⟨[(k,x,.cells [bsl b .any,.int .i64 (at_:Int),.bool ok])],[]⟩
  pre := fun _ => True
  post := fun _ y => PD p b at_ ok y∧q y.2.2
  res := fun _ y => .ret (d y.2.2)
  out := fun _ y => ⟨[(k,x,.cells [bsl b .any,.int .i64 (y.1:Int),.bool y.2.1])],[]⟩
theorem dfin (V:Nat) (hV:V < 2 ^ 64):(V % 2 = 1→IntKind.i64.wrap (IntKind.i64.wrap (0 - IntKind.i64.wrap ((V / 2:Nat):Int)) - 1) = unzig V)∧(¬ V % 2 = 1→IntKind.i64.wrap ((V / 2:Nat):Int) = unzig V) := by
  refine ⟨fun e3 => ?_,fun e3 => ?_⟩
  · unfold unzig
    rw [if_pos e3]
    simp only [IntKind.wrap_i64]
    omega
  · unfold unzig
    rw [if_neg e3]
    exact wrap_i64' (by omega) (by omega)
noncomputable def Edn (x:Nat) (b:List UInt8) (at_:Nat) (ok:Bool):Senv := { EC con0 80 1 [2,3,4,5,6,14,26,49,60,66,72] (fun id => match id with | 5 => ([0,1,2,3,4,5,6,7,8,9],[]) | 6 => ([0,1,2,3,4,5,6,7,8,9,10],[]) | _ => ([],[])) with
  ann := fun k _ _ => match k with
    | 0 => some { slots := [4,3],keep := [0],α := Nat × Nat × Nat,st := fun y => ([.int .i64 y.1,.int .u64 y.2.1],⟨[(0,x,.cells [bsl b .any,.int .i64 y.2.2,.bool ok])],[]⟩),inv := fun y => y.1 ≤ 10∧y.2.1 < 2 ^ (7 * y.1)∧y.2.2 ≤ b.length∧uP y.1 y.2.1 (b.drop y.2.2) = uP 0 0 (b.drop at_),mu := fun y => 10 - y.1 }
    | _ => none }
noncomputable section
def dn1q0 (p0 p1 p2:Nat) (p3:List UInt8) (p4:Nat):Prop := p0 ≤ (10:Nat)∧p1 < N2 ^ ((7:Nat) * p0)∧p2 ≤ LN p3∧uP p0 p1 (List.drop p2 p3) = uP N0 N0 (List.drop p4 p3)
def dn1q1 (p0:List UInt8):Prop := SM (LN p0)∧(∀ (i:Nat),i < LN p0→SM [ZB (BI p0 i)])∧True
def dn1q2 (p0:Bool) (p1:Nat):Bool := bif p0 then decide ((↑p1:Int) < (10:Int)) else false
def dn1q3 (p0:List UInt8) (p1:Nat) (p2:Bool) (p3:Nat × Bool × Int) (p4:Int):Prop := PD numP p0 p1 p2 p3∧inI64 p4
def dn1q4 (p0:Nat) (p1:List UInt8) (p2:Nat) (p3:Bool) (p4:Nat):Prop := SM p0∧True∧∃ (y:Nat × Bool × Int),dn1q3 p1 p2 p3 y y.2.2∧Z0 = y.2.2∧(SM p0∧(dn1q1 p1∧(↑p4:Int) = (NI y.1)∧false = y.2.1∧True)∧True)∧True
def dn1q5 (p0:List UInt8) (p1:Nat):Int := (BI p0 (Int.toNat (↑p1:Int)))
def dn1q6 (p0:Nat) (p1:List UInt8) (p2:Nat):Bool := bif (↑p0:Int) == (9:Int) then decide (Z1 < dn1q5 p1 p2) else false
def dn1q7 (p0 p1:Nat):Prop := IntKind.wrap IntKind.i64 ((↑p0:Int) + Z1) = (↑p1:Int)
def dn1q8 (p0:Nat) (p1:List UInt8) (p2:Nat) (p3:Bool) (p4:Nat):Prop := SM p0∧True∧∃ (y:Nat × Bool × Int),dn1q3 p1 p2 p3 y y.2.2∧Z0 = y.2.2∧(SM p0∧(dn1q1 p1∧dn1q7 p4 y.1∧false = y.2.1∧True)∧True)∧True
def dn1q9 (p0:List UInt8) (p1 p2:Nat):Bool := bif dn1q5 p0 p1 == Z0 then decide (Z0 < (↑p2:Int)) else false
def dn1q10 (p0:Nat) (p1:List UInt8) (p2 p3:Nat):Int := orI IntKind.u64 (↑p0:Int) (IntKind.wrap IntKind.u64 (IntKind.wrap IntKind.u64 (andI IntKind.u8 (dn1q5 p1 p2) (127:Int)) * (2:Int) ^ min (Int.toNat (IntKind.wrap IntKind.u64 (IntKind.wrap IntKind.i64 ((7:Int) * (↑p3:Int))))) (64:Nat)))
def dn1q11 (p0:Nat) (p1:List UInt8) (p2 p3:Nat):Int := IntKind.wrap IntKind.i64 (Int.fdiv (dn1q10 p0 p1 p2 p3) (2:Int))
def dn1q12 (p0:Nat) (p1:List UInt8) (p2 p3:Nat) (p4 p5:Bool):Prop := (SM p0∧(dn1q1 p1∧dn1q7 p2 p3∧p4 = p5∧True)∧True)∧True
end
theorem dnum_ok (x:Nat) (b:List UInt8) (at_:Nat) (ok:Bool) (hb:b.length ≤ 4294967296) (ha:at_ ≤ b.length):ACalls Try.prog 52 [.ref 0 x 0] ⟨[(0,x,.cells [bsl b .any,.int .i64 (at_:Int),.bool ok])],[]⟩ (SpecR (sD 0 x b at_ ok [] numP (.int .i64) inI64) ()) := by
  refine con_of (A := sD 0 x b at_ ok [] numP (.int .i64) inI64) (x := ()) (E := Edn x b at_ ok) (eOk con0_ok rfl) Try.func52 rfl (by kernel_rfl) rfl (by simp [sD,Edn,EC,E0]) ?_
  refine vc_eq (T :=
    (∃ (x_1:Nat × Nat × Nat),dn1q0 x_1.1 x_1.2.1 x_1.2.2 b at_∧(Z0 = (NI x_1.1)∧Z0 = (NI x_1.2.1)∧True)∧(SM x∧(dn1q1 b∧(↑at_:Int) = (NI x_1.2.2)∧SM ok∧True)∧True)∧True)∧∀ (x_1:Nat × Nat × Nat),dn1q0 x_1.1 x_1.2.1 x_1.2.2 b at_→(SM x∧ifB ok (decide ((NI x_1.1) < (10:Int)) = dn1q2 ok x_1.1∧True) (false = dn1q2 ok x_1.1∧True))∧ifB (dn1q2 ok x_1.1) (SM x∧SM x∧ifB (decide ((LI b) ≤ (NI x_1.2.2))) (dn1q4 x b at_ ok x_1.2.2) (SM x∧SM x∧side (Z0 ≤ (NI x_1.2.2)∧(NI x_1.2.2) < (LI b)) (SM x∧SM x∧ifB ((NI x_1.1) == (9:Int)) (decide (Z1 < dn1q5 b x_1.2.2) = dn1q6 x_1.1 b x_1.2.2∧True) (false = dn1q6 x_1.1 b x_1.2.2∧True)∧ifB (dn1q6 x_1.1 b x_1.2.2) (dn1q8 x b at_ ok x_1.2.2) (side (Z0 ≤ IntKind.wrap IntKind.u64 (IntKind.wrap IntKind.i64 ((7:Int) * (NI x_1.1)))) (ifB (decide (dn1q5 b x_1.2.2 < (128:Int))) (ifB (dn1q5 b x_1.2.2 == Z0) (decide (Z0 < (NI x_1.1)) = dn1q9 b x_1.2.2 x_1.1∧True) (false = dn1q9 b x_1.2.2 x_1.1∧True)∧ifB (dn1q9 b x_1.2.2 x_1.1) (dn1q8 x b at_ ok x_1.2.2) (ifB (andI IntKind.u64 (dn1q10 x_1.2.1 b x_1.2.2 x_1.1) Z1 == Z1) (True∧∃ (y:Nat × Bool × Int),dn1q3 b at_ ok y y.2.2∧IntKind.wrap IntKind.i64 (IntKind.wrap IntKind.i64 (Z0 - dn1q11 x_1.2.1 b x_1.2.2 x_1.1) - Z1) = y.2.2∧dn1q12 x b x_1.2.2 y.1 ok y.2.1) (True∧∃ (y:Nat × Bool × Int),dn1q3 b at_ ok y y.2.2∧dn1q11 x_1.2.1 b x_1.2.2 x_1.1 = y.2.2∧dn1q12 x b x_1.2.2 y.1 ok y.2.1))) ((SM (D.ref N0 x N0)∧True)∧∃ (y:Nat × Nat × Nat),dn1q0 y.1 y.2.1 y.2.2 b at_∧(10:Nat) - y.1 < (10:Nat) - x_1.1∧(dn1q7 x_1.1 y.1∧dn1q10 x_1.2.1 b x_1.2.2 x_1.1 = (NI y.2.1)∧True)∧(SM x∧(dn1q1 b∧dn1q7 x_1.2.2 y.2.2∧SM ok∧True)∧True)∧True)))))) (dn1q4 x b at_ ok x_1.2.2)) (by kernel_rfl) ?_
  delta BI LI LN N0 N2 NI SM U0 Z0 Z1 ZB dn1q0 dn1q1 dn1q10 dn1q11 dn1q12 dn1q2 dn1q3 dn1q4 dn1q5 dn1q6 dn1q7 dn1q8 dn1q9
  simp only [eq_self,ne_eq,implies_true,Int.toNat_natCast,ifB_iff,side_iff,decide_eq_true_eq,decide_eq_false_iff_not,true_and,and_true,beq_iff_eq,Bool.cond_false_right,Bool.and_eq_true,Bool.and_eq_false_iff,beq_eq_false_iff_ne]
  refine ⟨⟨(0,0,at_),⟨Nat.zero_le _,by simp,ha,rfl⟩,⟨rfl,rfl⟩,rfl⟩,?_⟩
  rintro ⟨i,u,a⟩ ⟨hi,hu,hal,hu0⟩
  simp only at hi hu hal hu0 ⊢
  have i0:inI64 0 := by simp [inI64]
  have failP:∀ a',a' ≤ b.length→(ok = true→uP i u (b.drop a) = none)→PD numP b at_ ok (a',false,0)∧inI64 (0:Int) := fun a' h1 h2 => by
    refine ⟨⟨h1,fun _ => rfl,fun hok => ⟨fun v r h => ?_,fun _ => rfl⟩⟩,i0⟩
    unfold numP at h
    rw [← hu0,h2 hok] at h; cases h
  have hw1:IntKind.i64.wrap ((a:Int) + 1) = ((a + 1:Nat):Int) := wrap_i64' (by omega) (by omega)
  refine ⟨⟨fun h => by simp [h],fun h => by simp [h]⟩,fun ⟨hok,h10⟩ => ⟨fun hge => ?_,fun hlt => ⟨⟨by omega,by omega⟩,⟨fun h => by simp [h],fun h => by simp [h]⟩,fun ⟨h9,hc⟩ => ?_,fun hc => ?_⟩⟩,fun hne => ?_⟩
  · have e:b.drop a = [] := List.drop_eq_nil_of_le (by omega)
    exact ⟨(a,false,0),failP a hal fun _ => by rw [e]; rfl,rfl,rfl,rfl⟩
  · have e:b.drop a = b.getD a 0 :: b.drop (a + 1) := drop_step (by omega)
    exact ⟨(a + 1,false,0),failP (a + 1) (by omega) fun _ => by rw [e,uP,if_pos (by omega)],rfl,hw1,rfl⟩
  · have e:b.drop a = b.getD a 0 :: b.drop (a + 1) := drop_step (by omega)
    have hc':i = 9→(b.getD a 0).toNat < 2 := fun h => by omega
    have hw7:IntKind.i64.wrap (7 * (i:Int)) = 7 * (i:Int) := wrap_i64' (by omega) (by omega)
    have hw7':IntKind.u64.wrap (7 * (i:Int)) = 7 * (i:Int) := by rw [IntKind.wrap_u64]; omega
    obtain ⟨q3,q4⟩ := acc_lt (c := b.getD a 0) (by omega) hu hc'
    rw [hw7,hw7',accV (by omega) hu hc',hw1]
    refine ⟨by omega,fun h128 => ⟨⟨fun h => by rw [h]; rfl,fun h => by rw [beq_eq_false_iff_ne.2 h]; rfl⟩,fun ⟨hz,hi0⟩ => ?_,fun hz => ?_⟩,fun h128 => ?_⟩
    · refine ⟨(a + 1,false,0),failP (a + 1) (by omega) fun _ => ?_,rfl,rfl,rfl⟩
      rw [e,uP]
      split
      · rfl
      · rw [if_pos (by omega),if_pos (by omega)]
    · have hs:numP (b.drop at_) = some (unzig (u + (b.getD a 0).toNat % 128 * 2 ^ (7 * i)),b.drop (a + 1)) := by
        unfold numP
        rw [← hu0,e,uP,if_neg (by omega),if_pos (by omega),if_neg (by omega)]
      have hpd:PD numP b at_ ok (a + 1,ok,unzig (u + (b.getD a 0).toNat % 128 * 2 ^ (7 * i)))∧inI64 (unzig (u + (b.getD a 0).toNat % 128 * 2 ^ (7 * i))) := by
        refine ⟨⟨by simp only; omega,fun h => h,fun _ => ⟨fun v r h => ?_,fun h => ?_⟩⟩,unzig_i64 q3⟩
        · rw [hs] at h; injection h with h; injection h with h1 h2
          exact ⟨hok,h2,h1⟩
        · rw [hs] at h; cases h
      have hb := low64 q3
      have e2 := fdiv_nat (u + (b.getD a 0).toNat % 128 * 2 ^ (7 * i)) 2
      have e4 := dfin _ q3
      exact ⟨fun h => ⟨(a + 1,ok,_),hpd,by rw [← e4.1 (hb.1 h),← e2]; rfl,rfl,rfl⟩,fun h => ⟨(a + 1,ok,_),hpd,by rw [← e4.2 (fun e => h (hb.2 e)),← e2]; rfl,rfl,rfl⟩⟩
    · refine ⟨(i + 1,u + (b.getD a 0).toNat % 128 * 2 ^ (7 * i),a + 1),⟨by simp only; omega,q4,by simp only; omega,?_⟩,by simp only; omega,⟨wrap_i64' (by omega) (by omega),rfl⟩,rfl⟩
      rw [← hu0,e]
      conv => rhs; rw [uP,if_neg (by omega),if_neg (by omega)]
  · refine ⟨(a,false,0),failP a hal fun hok => ?_,rfl,rfl,rfl⟩
    have h10:10 ≤ i := by
      rcases hne with h | h
      · rw [hok] at h; cases h
      · omega
    cases hd:b.drop a with
    | nil => rfl
    | cons c r => rw [uP,if_pos (by omega)]
end Go.Proofs.Ytoglbmhkfkghbaa
namespace Go.Proofs.Ytoglbmhkfkghbaa
open Go Go.Ab
set_option maxRecDepth 100000
def iT {γ:Type} (ok:Bool) (X:Option γ):Option γ := match ok with
  | true => X
  | false => none
structure PX {α:Type} (p:List UInt8→Option (α × List UInt8)) (b:List UInt8) (at_:Nat) (ok:Bool) (a':Nat) (o':Bool) (v:α):Prop where
  ha:a' ≤ b.length
  he:iT ok (p (b.drop at_)) = iT o' (some (v,b.drop a'))
theorem PX.bind {α γ:Type} {p:List UInt8→Option (α × List UInt8)} {b:List UInt8} {at_:Nat} {ok:Bool} {a':Nat} {o':Bool} {v:α} (h:PX p b at_ ok a' o' v) (K:α→List UInt8→Option γ):iT ok (bindP (p (b.drop at_)) K) = iT o' (K v (b.drop a')) := by
  have he := h.he
  cases ok <;> cases o' <;> simp only [iT] at he ⊢
  · cases he
  · exact bindP_none he
  · exact bindP_some he
theorem PX.loop {α γ : Type} {p : List UInt8 → Option (α × List UInt8)} {b : List UInt8} {at_ : Nat} {ok : Bool} {a' : Nat} {o' : Bool} {v : α} (h : PX p b at_ ok a' o' v) {i n : Nat} (hi : i < n) (s : List α) (K : List α → List UInt8 → Option γ) :
    iT ok (bindP (listP p (n - i) (b.drop at_)) fun w r => K (s ++ w) r) = iT o' (bindP (listP p (n - (i + 1)) (b.drop a')) fun w r => K ((s ++ [v]) ++ w) r) := by
  have h1 := h.bind (fun z r => bindP (listP p (n - (i + 1)) r) fun w r => K ((s ++ [z]) ++ w) r)
  rw [← h1]
  rw [show n - i = (n - (i + 1)) + 1 by omega]
  congr 1
  rw [listP]
  cases hp:p (b.drop at_) with
  | none => rfl
  | some y =>
    rw [bindP_some (a := y.1) (r := y.2) rfl]
    simp only
    cases hl:listP p (n - (i + 1)) y.2 with
    | none => rfl
    | some z => simp [bindP]
theorem PX.done {α γ : Type} {p : List UInt8 → Option (α × List UInt8)} {b : List UInt8} {at_ : Nat} {ok : Bool} {i n : Nat} (hi : ok = true → ¬ i < n) (s : List α) (K : List α → List UInt8 → Option γ) :
    iT ok (bindP (listP p (n - i) (b.drop at_)) fun w r => K (s ++ w) r) = iT ok (K s (b.drop at_)) := by
  cases ok with
  | false => rfl
  | true => rw [show n - i = 0 by have := hi rfl; omega]; simp [listP,bindP]
theorem PX.init {α γ : Type} {p : List UInt8 → Option (α × List UInt8)} {n : Nat} {l : List UInt8} (K : List α → List UInt8 → Option γ) :
    bindP (listP p n l) K = bindP (listP p (n - 0) l) fun w r => K ([] ++ w) r := by simp
abbrev stX (k x:Nat) (b:List UInt8) (a:Nat) (ok:Bool):St := ⟨[(k,x,.cells [bsl b .any,.int .i64 (a:Int),.bool ok])],[]⟩
def _root_.Go.Ab.endX {α:Type} (x:Nat) (b:List UInt8) (at_:Nat) (ok:Bool) (p:List UInt8→Option (α × List UInt8)) (q:α→Prop) (d:α→D) (e:AEnd) (S:St):Prop :=
  match e with
  | .ret d' => ∃ y:Nat × Bool × α,PX p b at_ ok y.1 y.2.1 y.2.2∧q y.2.2∧weakD d' (d y.2.2)∧leS (stX 0 x b y.1 y.2.1) S
  | .pan _ => False
def DOk {α:Type} (f:Nat) (ex:List D) (p:List UInt8→Option (α × List UInt8)) (q:α→Prop) (d:α→D):Prop :=
  ∀ (x:Nat) (b:List UInt8) (at_:Nat) (ok:Bool),b.length ≤ 4294967296→at_ ≤ b.length→ACalls Try.prog f (.ref 0 x 0 :: ex) (stX 0 x b at_ ok) (endX x b at_ ok p q d)
def _root_.Go.Ab.dX {α:Type} (p:List UInt8→Option (α × List UInt8)) (q:α→Prop) (d:α→D) (S:St) (R:AEnd→St→Prop) (k x:Nat):Prop :=
  match getO S.objs k with
  | some (y,.cells [.sl 1 n f .any,.int .i64 z,.bool ok]) => (y = x∧rowsB n f = true∧n ≤ 4294967296∧(0 ≤ z∧z.toNat ≤ n)∧leS (stX k x (bytesOf n f) z.toNat ok) S) ∧
    ∀ (a':Nat) (o':Bool) (v:α),PX p (bytesOf n f) z.toNat ok a' o' v→q v→R (.ret (d v)) ((⟨[(k,x,.cells [.sl 1 n f .any,.int .i64 (a':Int),.bool o'])],[]⟩:St).add (S.less (stX k x [] 0 false)))
  | _ => False
theorem bsl_unw {n:Nat} {f:Nat→List D} (h:rowsB n f = true):weakD (bsl (bytesOf n f) .any) (.sl 1 n f .any) := by
  have := (bsl_weak (m := .any) h)
  simp only [bsl,weakD,chk_iff] at this ⊢
  have hl:(bytesOf n f).length = n := by simp [bytesOf]
  refine ⟨rfl,hl,fun i hi => (this.2.2.1 i (by omega)).symm,trivial⟩
theorem dX_ok {α:Type} {f:Nat} {ex:List D} {p:List UInt8→Option (α × List UInt8)} {q:α→Prop} {d:α→D} (h:DOk f ex p q d) {S:St} {R:AEnd→St→Prop} {k x:Nat} (hx:dX p q d S R k x):ACalls Try.prog f (.ref k x 0 :: ex) S R := by
  unfold dX at hx
  split at hx
  · rename_i y n g z ok hg
    obtain ⟨⟨rfl,h1,h2,⟨h3,h4⟩,h5⟩,h6⟩ := hx
    have hl:(bytesOf n g).length = n := by simp [bytesOf]
    have hc := ((h y (bytesOf n g) z.toNat ok (by omega) (by omega)).frame (S.less (stX k y (bytesOf n g) z.toNat ok))).from (S := S) (fun C F w H => (StTo.frame (StTo.pos (S := stX k y (bytesOf n g) z.toNat ok) (S' := stX 0 y (bytesOf n g) z.toNat ok) ⟨⟨rfl,by simp [weakO,weakL,weakD,chk_iff,weakM,bsl,kEq],trivial⟩,trivial⟩) _) C F w (H.split h5))
    have hc := ACalls.weakArgs (ds := .ref k y 0 :: ex) hc ⟨by simp [weakD,chk_iff],weakL_refl _⟩
    refine hc.weaken ?_
    rintro e S2 ⟨S0,hR,rfl⟩
    cases e with
    | ret d' =>
      obtain ⟨w,q1,q0,q2,q3⟩ := hR
      refine ⟨.ret (d w.2.2),_,q2,?_,h6 w.1 w.2.1 w.2.2 q1 q0⟩
      exact (StTo.frame (leS_to q3) _).trans (StTo.frame (StTo.pos (S := stX 0 y (bytesOf n g) w.1 w.2.1) (S' := ⟨[(k,y,.cells [.sl 1 n g .any,.int .i64 (w.1:Int),.bool w.2.1])],[]⟩) ⟨⟨rfl,⟨bsl_unw h1,weakD_refl _,weakD_refl _,trivial⟩,trivial⟩,trivial⟩) _)
    | pan d' => exact hR.elim
  · exact hx.elim
theorem dnum_d:DOk 52 [] numP (fun _ => True) (.int .i64) := by
  intro x b at_ ok hb ha
  refine (dnum_ok x b at_ ok hb ha).mono fun r S' hr => ?_
  obtain ⟨y,⟨⟨q1,q2,q3⟩,q4⟩,q5,q6⟩ := hr
  cases r with
  | pan _ => cases q5
  | ret d' =>
    injection q5 with q5
    subst q5
    refine ⟨y,⟨q1,?_⟩,trivial,weakD_refl _,by rw [q6]; exact chk_iff.2 (And.intro rfl (And.intro (And.intro rfl (And.intro (weakL_refl _) trivial)) trivial))⟩
    cases ok with
    | false => rw [q2 rfl]; rfl
    | true =>
      obtain ⟨q7,q8⟩ := q3 rfl
      simp only [iT]
      cases hp:numP (b.drop at_) with
      | none => rw [q8 hp]
      | some z =>
        obtain ⟨r1,r2,r3⟩ := q7 z.1 z.2 hp
        rw [r1,r2,r3]
def _root_.Go.Ab.endXt (x:Nat) (b:List UInt8) (at_:Nat) (ok:Bool) (p:List UInt8→Option (List Int × List UInt8)) (q:Bool→List Int→Prop) (e:AEnd) (S:St):Prop :=
  match e with
  | .ret d' => ∃ y:Nat × Bool × List Int × Nat,PX p b at_ ok y.1 y.2.1 y.2.2.1∧q y.2.1 y.2.2.1∧weakD d' (isl y.2.2.1 (.tok 0 y.2.2.2))∧leS ⟨[(0,x,.cells [bsl b .any,.int .i64 (y.1:Int),.bool y.2.1])],[(0,y.2.2.2)]⟩ S
  | .pan _ => False
def DOkt (f:Nat) (ex:List D) (p:List UInt8→Option (List Int × List UInt8)) (q:Bool→List Int→Prop):Prop :=
  ∀ (x:Nat) (b:List UInt8) (at_:Nat) (ok:Bool),b.length ≤ 4294967296→at_ ≤ b.length→ACalls Try.prog f (.ref 0 x 0 :: ex) (stX 0 x b at_ ok) (endXt x b at_ ok p q)
def _root_.Go.Ab.dXt (p:List UInt8→Option (List Int × List UInt8)) (q:Bool→List Int→Prop) (S:St) (R:AEnd→St→Prop) (k x:Nat):Prop :=
  match getO S.objs k with
  | some (y,.cells [.sl 1 n f .any,.int .i64 z,.bool ok]) => (y = x∧rowsB n f = true∧n ≤ 4294967296∧(0 ≤ z∧z.toNat ≤ n)∧leS (stX k x (bytesOf n f) z.toNat ok) S) ∧
    ∀ (a':Nat) (o':Bool) (v:List Int) (t:Nat),PX p (bytesOf n f) z.toNat ok a' o' v→q o' v→R (.ret (isl v (.tok (nextTok S.toks) t))) ((⟨[(k,x,.cells [.sl 1 n f .any,.int .i64 (a':Int),.bool o'])],[(nextTok S.toks,t)]⟩:St).add (S.less (stX k x [] 0 false)))
  | _ => False
theorem dXt_ok {f:Nat} {ex:List D} {p:List UInt8→Option (List Int × List UInt8)} {q:Bool→List Int→Prop} (h:DOkt f ex p q) {S:St} {R:AEnd→St→Prop} {k x:Nat} (hx:dXt p q S R k x):ACalls Try.prog f (.ref k x 0 :: ex) S R := by
  unfold dXt at hx
  split at hx
  · rename_i y n g z ok hg
    obtain ⟨⟨rfl,h1,h2,⟨h3,h4⟩,h5⟩,h6⟩ := hx
    have hl:(bytesOf n g).length = n := by simp [bytesOf]
    have hc := ((h y (bytesOf n g) z.toNat ok (by omega) (by omega)).frame (S.less (stX k y (bytesOf n g) z.toNat ok))).from (S := S) (fun C F w H => (StTo.frame (StTo.pos (S := stX k y (bytesOf n g) z.toNat ok) (S' := stX 0 y (bytesOf n g) z.toNat ok) ⟨⟨rfl,by simp [weakO,weakL,weakD,chk_iff,weakM,bsl,kEq],trivial⟩,trivial⟩) _) C F w (H.split h5))
    have hc := ACalls.weakArgs (ds := .ref k y 0 :: ex) hc ⟨by simp [weakD,chk_iff],weakL_refl _⟩
    have hc2:ACalls Try.prog f (.ref k y 0 :: ex) S (fun e S2 => ∃ w:Nat × Bool × List Int × Nat,PX p (bytesOf n g) z.toNat ok w.1 w.2.1 w.2.2.1∧q w.2.1 w.2.2.1∧e = .ret (isl w.2.2.1 (.tok 0 w.2.2.2))∧S2 = (⟨[(0,y,.cells [bsl (bytesOf n g) .any,.int .i64 (w.1:Int),.bool w.2.1])],[(0,w.2.2.2)]⟩:St).add (S.less (stX k y [] 0 false))) := by
      refine hc.weaken ?_
      rintro e S2 ⟨S0,hR,rfl⟩
      cases e with
      | ret d' =>
        obtain ⟨w,q1,q0,q2,q3⟩ := hR
        exact ⟨.ret (isl w.2.2.1 (.tok 0 w.2.2.2)),_,q2,StTo.frame (leS_to q3) _,w,q1,q0,rfl,rfl⟩
      | pan d' => exact hR.elim
    refine hc2.weaken ?_
    rintro e S2 ⟨w,q1,q0,rfl,rfl⟩
    refine ⟨.ret (isl w.2.2.1 (.tok (nextTok S.toks) w.2.2.2)),_,?_,?_,h6 w.1 w.2.1 w.2.2.1 w.2.2.2 q1 q0⟩
    · simp [weakEnd,weakD,chk_iff,weakM,isl]
    · exact StTo.frame (StTo.pos (S := ⟨[(0,y,.cells [bsl (bytesOf n g) .any,.int .i64 (w.1:Int),.bool w.2.1])],[(0,w.2.2.2)]⟩) (S' := ⟨[(k,y,.cells [.sl 1 n g .any,.int .i64 (w.1:Int),.bool w.2.1])],[(nextTok S.toks,w.2.2.2)]⟩) ⟨⟨rfl,⟨bsl_unw h1,weakD_refl _,weakD_refl _,trivial⟩,trivial⟩,rfl,trivial⟩) _
  · exact hx.elim
end Go.Proofs.Ytoglbmhkfkghbaa
namespace Go.Proofs.Ytoglbmhkfkghbaa
open Go Go.Ab
set_option maxRecDepth 100000
noncomputable def _root_.Go.Ab.inlK (con:Con) (k:Nat) (ds:List D) (S:St) (R:AEnd→St→Prop):Prop :=
  match Nat.beq k 52 with
  | true => match ds with
    | [.ref kx x 0] => dX numP (fun _ => True) (.int .i64) S R kx x
    | _ => False
  | false => inlD { E0 con 0 0 [] (fun _ => ([],[])) with auto := true } (frmGet frames) 9 k ds S R
theorem inlK_ok {con:Con} (hc:ConOk Try.prog con) (k:Nat) (ds:List D) (S:St) (R:AEnd→St→Prop) (h:inlK con k ds S R):ACalls Try.prog k ds S R := by
  unfold inlK at h
  split at h
  · rename_i hk
    have hk := Nat.eq_of_beq_eq_true hk
    subst hk
    split at h
    · exact dX_ok dnum_d h
    · exact h.elim
  · exact inlD_ok (E := { E0 con 0 0 [] (fun _ => ([],[])) with auto := true }) tab_ok hc mix frames_ok eqs_ok 9 k ds S R h
theorem cntP_bind (l:List UInt8):cntP l = bindP (numP l) fun v r => if 0 ≤ v∧v ≤ (r.length:Int) then some (v.toNat,r) else none := by
  unfold cntP bindP; cases numP l <;> rfl
theorem bindP_id {α:Type} (p:Option (α × List UInt8)):(bindP p fun w r => some (w,r)) = p := by cases p <;> rfl
noncomputable def Edc:Senv := { EC con0 31 1 [2,3,21,29] (fun id => match id with | 2 => ([0,1,2,3,4,5,6,7,8,9,10,11,12,13,14,15],[]) | _ => ([],[])) with inl := inlK con0 }
noncomputable section
def dn3q0 (p0:List UInt8) (p1:Nat):List D := [ZB (BI p0 p1)]
def dn3q1 (p0:List UInt8):List UInt8 := bytesOf (LN p0) fun (i:Nat) => dn3q0 p0 i
def dn3q2 (p0:Int) (p1:List UInt8) (p2:Nat):Bool := bif decide (p0 < Z0) then true else decide (IntKind.wrap IntKind.i64 ((LI p1) - (↑p2:Int)) < p0)
def dn3q3 (p0:List UInt8):Prop := SM (LN p0)∧(∀ (i:Nat),i < LN p0→SM (dn3q0 p0 i))∧True
def dn3q4 (p0:Nat) (p1:List UInt8) (p2 p3:Nat) (p4 p5:Bool):Prop := (SM p0∧(dn3q3 p1∧(↑p2:Int) = (↑p3:Int)∧p4 = p5∧True)∧True)∧True
end
theorem dcnt_d:DOk 50 [] cntP (fun n => n ≤ 4294967296) (fun n => .int .i64 (n:Int)) := by
  intro x b at_ ok hb ha
  refine call_of (E := Edc) (erOk con0_ok (inlK_ok con0_ok) rfl) Try.func50 rfl (by kernel_rfl) rfl (by simp [Edc,EC,E0]) ?_
  refine vc_eq (T :=
    (SM x∧(rowsB (LN b) fun (i:Nat) => dn3q0 b i) = true∧LN b ≤ (4294967296:Nat)∧(Z0 ≤ (↑at_:Int)∧Int.toNat (↑at_:Int) ≤ LN b)∧(SM x∧((LN b = LN (dn3q1 b)∧(∀ (i:Nat),i < LN b→dn3q0 b i = [ZB (BI (dn3q1 b) i)])∧True)∧(↑at_:Int) = (NI (Int.toNat (↑at_:Int)))∧SM ok∧True)∧True)∧True)∧∀ (a':Nat) (o':Bool) (v:Int),PX numP (dn3q1 b) (Int.toNat (↑at_:Int)) ok a' o' v→True→ifB (decide (v < Z0)) (true = dn3q2 v b a'∧True) (SM x∧SM x∧decide (IntKind.wrap IntKind.i64 ((LI b) - (↑a':Int)) < v) = dn3q2 v b a'∧True)∧ifB (dn3q2 v b a') (SM x∧SM x∧True∧∃ (y:Nat × Bool × Nat),PX cntP b at_ ok y.1 y.2.1 y.2.2∧y.2.2 ≤ (4294967296:Nat)∧Z0 = (NI y.2.2)∧(SM x∧(dn3q3 b∧(↑a':Int) = (NI y.1)∧false = y.2.1∧True)∧True)∧True) (SM x∧ifB (!o') (True∧∃ (y:Nat × Bool × Nat),PX cntP b at_ ok y.1 y.2.1 y.2.2∧y.2.2 ≤ (4294967296:Nat)∧Z0 = (NI y.2.2)∧dn3q4 x b a' y.1 o' y.2.1) (True∧∃ (y:Nat × Bool × Nat),PX cntP b at_ ok y.1 y.2.1 y.2.2∧y.2.2 ≤ (4294967296:Nat)∧v = (NI y.2.2)∧dn3q4 x b a' y.1 o' y.2.1))) (by kernel_rfl) ?_
  delta BI LI LN NI SM U0 Z0 ZB dn3q0 dn3q1 dn3q2 dn3q3 dn3q4
  simp only [eq_self,implies_true,Int.toNat_natCast,ifB_iff,decide_eq_true_eq,decide_eq_false_iff_not,true_and,and_true,Bool.cond_true_left,Bool.or_eq_true,Bool.or_eq_false_iff,forall_const,bytesOf_bsl,rowsB_bsl]
  refine ⟨⟨hb,by omega,ha⟩,fun a' o' v h => ?_⟩
  have hK:iT ok (cntP (b.drop at_)) = iT o' (if 0 ≤ v∧v ≤ ((b.drop a').length:Int) then some (v.toNat,b.drop a') else none) := by rw [cntP_bind]; exact h.bind (fun v r => if 0 ≤ v∧v ≤ (r.length:Int) then some (v.toNat,r) else none)
  have ha' := h.ha
  have hw:IntKind.i64.wrap ((b.length:Int) - (a':Int)) = ((b.drop a').length:Int) := by rw [wrap_i64' (by omega) (by omega),List.length_drop]; omega
  rw [hw]
  refine ⟨⟨fun h => by simp [h],fun h => by simp [h]⟩,fun hbad => ⟨(a',false,0),⟨ha',?_⟩,by simp,rfl,rfl,rfl⟩,fun hg => ⟨fun ho => ⟨(a',o',0),⟨ha',?_⟩,by simp,rfl,rfl,rfl⟩,fun ho => ⟨(a',o',v.toNat),⟨ha',?_⟩,by have hld:(b.drop a').length = b.length - a' := List.length_drop; simp only; omega,by simp only; omega,rfl,rfl⟩⟩⟩
  · rw [hK,if_neg (by omega)]; cases o' <;> rfl
  · have ho:o' = false := by simpa using ho
    subst ho; rw [hK]; rfl
  · rw [hK,if_pos (by omega)]
def qNs (n:Nat) (ok:Bool) (l:List Int):Prop := l.length ≤ n∧(ok = true→l.length = n)
noncomputable def Edm (n:Int) (b:List UInt8) (at_:Nat) (ok:Bool):Senv := { EC con0 25 2 [4,5,6,16] (fun _ => ([],[])) with
  inl := inlK con0
  gh := fun k => match k with
    | 0 => [.slot 5]
    | _ => []
  ann := fun k _ S => match k with
    | 0 => some { slots := [6,5],keep := [0,1],α := Nat × List Int × Nat × Nat × Bool,st := fun y => ([.int .i64 y.1,isl y.2.1 (.tok 0 y.2.2.1)],⟨setO S.objs 0 (.cells [bsl b .any,.int .i64 (y.2.2.2.1:Int),.bool y.2.2.2.2]),[(0,y.2.2.1)]⟩),inv := fun y => y.2.1.length = y.1∧y.1 ≤ n.toNat∧y.2.2.2.1 ≤ b.length∧iT ok (listP numP n.toNat (b.drop at_)) = iT y.2.2.2.2 (bindP (listP numP (n.toNat - y.1) (b.drop y.2.2.2.1)) fun w r => some (y.2.1 ++ w,r)),mu := fun y => n.toNat - y.1 }
    | _ => none }
noncomputable section
def dn3q5 (p0:List Int) (p1:Nat) (p2:Int) (p3:Nat) (p4:List UInt8) (p5:Bool) (p6:Nat) (p7:Bool):Prop := LN p0 = p1∧p1 ≤ Int.toNat p2∧p3 ≤ LN p4∧iT p5 (listP numP (Int.toNat p2) (List.drop p6 p4)) = iT p7 (bindP (listP numP (Int.toNat p2 - p1) (List.drop p3 p4)) fun (w:List Int) (r:List UInt8) => some (p0 ++ w,r))
def dn3q6 (p0:List Int) (p1:Nat):List D := [ZI (GI p0 p1)]
def dn3q7 (p0:List UInt8) (p1:Nat):List D := [ZB (BI p0 p1)]
def dn3q8 (p0:Nat) (p1:List UInt8) (p2 p3:Nat) (p4 p5:Bool) (p6 p7:Nat):Prop := (SM p0∧((SM (LN p1)∧(∀ (i:Nat),i < LN p1→SM (dn3q7 p1 i))∧True)∧(↑p2:Int) = (↑p3:Int)∧p4 = p5∧True)∧True)∧p6 = p7∧True
def dn3q9 (p0:List UInt8):List UInt8 := bytesOf (LN p0) fun (i:Nat) => dn3q7 p0 i
end
theorem dnums_d (n:Int) (hn:n ≤ 4294967296):DOkt 53 [.int .i64 n] (listP numP n.toNat) (qNs n.toNat) := by
  intro x b at_ ok hb ha
  refine call_of (E := Edm n b at_ ok) (erOk con0_ok (inlK_ok con0_ok) rfl) Try.func53 rfl (by kernel_rfl) rfl (by simp [Edm,EC,E0]) ?_
  refine vc_eq (T :=
    ∀ (t:Nat),(∃ (x_1:Nat × List Int × Nat × Nat × Bool),dn3q5 x_1.2.1 x_1.1 n x_1.2.2.2.1 b ok at_ x_1.2.2.2.2∧(Z0 = (NI x_1.1)∧(N0 = LN x_1.2.1∧(∀ (i:Nat),i < N0→eqOf (List D) [] (dn3q6 x_1.2.1 i))∧t = x_1.2.2.1)∧True)∧dn3q8 x b at_ x_1.2.2.2.1 ok x_1.2.2.2.2 t x_1.2.2.1)∧∀ (x_1:Nat × List Int × Nat × Nat × Bool),dn3q5 x_1.2.1 x_1.1 n x_1.2.2.2.1 b ok at_ x_1.2.2.2.2→ifB (decide ((NI x_1.1) < n)) (SM x∧(x_1.2.2.2.2 = bif decide ((NI x_1.1) < n) then x_1.2.2.2.2 else false)∧True) ((false = bif decide ((NI x_1.1) < n) then x_1.2.2.2.2 else false)∧True)∧ifB (bif decide ((NI x_1.1) < n) then x_1.2.2.2.2 else false) ((SM x∧(rowsB (LN b) fun (i:Nat) => dn3q7 b i) = true∧LN b ≤ (4294967296:Nat)∧(Z0 ≤ (NI x_1.2.2.2.1)∧TN x_1.2.2.2.1 ≤ LN b)∧(SM x∧((LN b = LN (dn3q9 b)∧(∀ (i:Nat),i < LN b→dn3q7 b i = [ZB (BI (dn3q9 b) i)])∧True)∧(NI x_1.2.2.2.1) = (NI (TN x_1.2.2.2.1))∧SM x_1.2.2.2.2∧True)∧True)∧True)∧∀ (a':Nat) (o':Bool) (v:Int),PX numP (dn3q9 b) (TN x_1.2.2.2.1) x_1.2.2.2.2 a' o' v→True→SM x_1.2.2.1∧side ((LN x_1.2.1 + N1) * (8:Nat) ≤ (140737488355328:Nat)∧LN x_1.2.1 + N1 ≤ (9223372036854775807:Nat)) (∀ (t:Nat),(SM (D.ref N0 x N0)∧SM (ZI n)∧True)∧∃ (y:Nat × List Int × Nat × Nat × Bool),dn3q5 y.2.1 y.1 n y.2.2.2.1 b ok at_ y.2.2.2.2∧Int.toNat n - y.1 < Int.toNat n - x_1.1∧(IntKind.wrap IntKind.i64 ((NI x_1.1) + Z1) = (NI y.1)∧(LN x_1.2.1 + N1 = LN y.2.1∧(∀ (i:Nat),i < LN x_1.2.1 + N1→appF (LN x_1.2.1) (fun (i:Nat) => dn3q6 x_1.2.1 i) (fun (i:Nat) => List.getD [[ZI v]] i []) i = dn3q6 y.2.1 i)∧t = y.2.2.1)∧True)∧dn3q8 x b a' y.2.2.2.1 o' y.2.2.2.2 t y.2.2.1)) (True∧∃ (y:Nat × Bool × List Int × Nat),PX (listP numP (Int.toNat n)) b at_ ok y.1 y.2.1 y.2.2.1∧qNs (Int.toNat n) y.2.1 y.2.2.1∧(LN x_1.2.1 = LN y.2.2.1∧(∀ (i:Nat),i < LN x_1.2.1→dn3q6 x_1.2.1 i = dn3q6 y.2.2.1 i)∧x_1.2.2.1 = y.2.2.2)∧dn3q8 x b x_1.2.2.2.1 y.1 x_1.2.2.2.2 y.2.1 x_1.2.2.1 y.2.2.2)) (by kernel_rfl) ?_
  delta BI GI LN N0 N1 NI SM TN U0 Z0 Z1 ZB ZI dn3q5 dn3q6 dn3q7 dn3q8 dn3q9
  simp only [eq_self,implies_true,Int.toNat_natCast,ifB_iff,side_iff,decide_eq_true_eq,decide_eq_false_iff_not,true_and,and_true,Bool.cond_false_right,Bool.and_eq_true,Bool.and_eq_false_iff,forall_const,bytesOf_bsl,rowsB_bsl]
  refine fun t => ⟨⟨(0,[],t,at_,ok),⟨rfl,Nat.zero_le _,ha,?_⟩,⟨rfl,rfl,fun i hi => absurd hi (Nat.not_lt_zero i),rfl⟩,⟨rfl,rfl⟩,rfl⟩,?_⟩
  · simp only [Nat.sub_zero,List.nil_append]; rw [bindP_id]
  rintro ⟨i,s,t1,a,o⟩ ⟨h1,h2,h3,h4⟩
  simp only at h1 h2 h3 h4 ⊢
  refine ⟨⟨fun h => by simp [h],fun h => by simp [h]⟩,fun ⟨hlt,ho⟩ => ⟨⟨hb,by omega,h3⟩,fun a' o' v h => ⟨by omega,fun t2 => ⟨(i + 1,s ++ [v],t2,a',o'),⟨by simp [h1],by simp only; omega,h.ha,?_⟩,by simp only; omega,⟨wrap_i64' (by omega) (by omega),by simp,fun j hj => ?_,rfl⟩,⟨rfl,rfl⟩,rfl⟩⟩⟩,fun hge => ⟨(a,o,s,t1),⟨h3,?_⟩,⟨by simp only; omega,fun ho => ?_⟩,⟨rfl,fun _ _ => rfl,rfl⟩,⟨rfl,rfl⟩,rfl⟩⟩
  · rw [h4]; exact h.loop (by omega) s (fun w r => some (w,r))
  · simp only [appF]
    split
    · rename_i hlt'
      simp [List.getD_eq_getElem?_getD,List.getElem?_append_left hlt']
    · have:j = s.length := by omega
      subst this
      simp [List.getD_eq_getElem?_getD]
  · rw [h4]
    exact PX.done (fun ho => by rcases hge with h | h; · omega
                                · rw [ho] at h; cases h) s (fun w r => some (w,r))
  · have ho:o = true := ho
    rcases hge with h | h
    · simp only; omega
    · rw [ho] at h; cases h
noncomputable def Edz (l:List Int):Senv := { EC con0 27 3 [6,7,8,12,19] (fun _ => ([],[])) with
  ann := fun b _ _ => match b with
    | 0 => some { slots := [8,7],keep := [0,1,2],α := Nat × Int,st := fun y => ([.int .i64 y.1,.int .i64 y.2],⟨[],[]⟩),inv := fun y => GoHead l y.1 y.2∧(l.take y.1).contains 0 = false,mu := fun y => l.length - y.1 }
    | _ => none }
noncomputable section
def dn3q10 (p0:List Int) (p1:Nat) (p2:Int):Prop := GoHead p0 p1 p2∧List.contains (List.take p1 p0) Z0 = false
def dn3q11 (p0:List Int):D := SI p0
end
theorem dprod_ok (l:List Int) (hr:rightS l = true):ACalls Try.prog 91 [isl l .any,.int .i64 0,.int .i64 (l.length:Int)] ⟨[],[]⟩ (SpecR (sC [isl l .any,.int .i64 0,.int .i64 (l.length:Int)] (.int .i64 (sizeS l))) ()) := by
  refine con_of (A := sC _ _) (x := ()) (E := Edz l) (eOk con0_ok rfl) Try.func91 rfl (by kernel_rfl) rfl (by simp [sC,Edz,EC,E0]) ?_
  refine vc_eq (T :=
    (∃ (x:Nat × Int),dn3q10 l x.1 x.2∧(Z0 = (NI x.1)∧Z1 = x.2∧True)∧True∧True)∧∀ (x:Nat × Int),dn3q10 l x.1 x.2→ifB (decide ((NI x.1) < (LI l))) (side (Z0 ≤ (NI x.1)∧(NI x.1) < (LI l)) (ifB (GI l (TN x.1) == Z0) (True∧∃ (y:Unit),True∧Z0 = sizeS l∧True∧True) (side (Z0 ≤ (NI x.1)∧(NI x.1) < (LI l)) ((SM (dn3q11 l)∧SM (ZI Z0)∧SM (ZI (LI l))∧True)∧∃ (y:Nat × Int),dn3q10 l y.1 y.2∧LN l - y.1 < LN l - x.1∧(IntKind.wrap IntKind.i64 ((NI x.1) + Z1) = (NI y.1)∧IntKind.wrap IntKind.i64 (x.2 * GI l (TN x.1)) = y.2∧True)∧True∧True)))) (True∧∃ (y:Unit),True∧x.2 = sizeS l∧True∧True)) (by kernel_rfl) ?_
  delta GI LI LN N1 NI SI SM TN Z0 Z1 ZI dn3q10 dn3q11
  simp only [Int.toNat_natCast,ifB_iff,side_iff,decide_eq_true_eq,decide_eq_false_iff_not,true_and,and_true,beq_iff_eq,beq_eq_false_iff_ne,ne_eq,exists_const]
  have hg:∃ q,goO l 1 = some q := by
    cases h:goO l 1 with
    | none => simp [rightS,h] at hr
    | some q => exact ⟨q,rfl⟩
  obtain ⟨q,hq⟩ := hg
  refine ⟨⟨(0,1),⟨GoHead.init l,by simp⟩,rfl,rfl⟩,?_⟩
  rintro ⟨i,p⟩ ⟨hh,hz⟩
  simp only at hh hz ⊢
  have hi := hh.hi
  have hll:l.length ≤ 8 := by simp [rightS] at hr; exact hr.1
  refine ⟨fun hlt => ⟨⟨by omega,hlt⟩,fun h0 => ?_,fun h0 => ⟨⟨by omega,hlt⟩,?_⟩⟩,fun hge => ?_⟩
  · have hlt':i < l.length := by omega
    have hc:l.contains 0 = true := by
      rw [List.contains_iff_mem,← h0,List.getD_eq_getElem?_getD,List.getElem?_eq_getElem hlt']; exact List.getElem_mem hlt'
    unfold sizeS; rw [if_pos hc]
  · have hlt':i < l.length := by omega
    obtain ⟨s1,s2,s3,s4⟩ := hh.step hlt'
    have n1:¬ l.getD i 0 < 0 := fun h => by rw [s1 h] at hq; cases hq
    have n2:¬ 65536 < l.getD i 0 := fun h => by rw [s2 h] at hq; cases hq
    obtain ⟨b1,b2,s5,s6⟩ := s4 n1 n2
    have n3:¬ 65536 < p * l.getD i 0 := fun h => by rw [s5 h h0] at hq; cases hq
    refine ⟨(i + 1,p * l.getD i 0),⟨s6 n3 h0,?_⟩,by simp only; omega,wrap_i64' (by omega) (by omega),wrap_i64' (by omega) (by omega)⟩
    have e:l.take (i + 1) = l.take i ++ [l.getD i 0] := by
      rw [List.take_add_one,List.getD_eq_getElem?_getD,List.getElem?_eq_getElem hlt']; rfl
    simp only
    rw [e,List.contains_eq_any_beq,List.any_append,← List.contains_eq_any_beq,hz]
    simp only [List.any_cons,List.any_nil,Bool.or_false,Bool.false_or,beq_eq_false_iff_ne,ne_eq]
    exact fun h => h0 h.symm
  · have e:l.take i = l := List.take_of_length_le (by omega)
    rw [e] at hz
    unfold sizeS
    rw [if_neg (by rw [hz]; decide),hh.done hge]; rfl
def conDp:Con := fun k ds _S => match k with
  | 74 => match ds with
    | [.sl 1 n f _] => some (pC ds (.bool (rightS (intsD n f))) (IntsP n f))
    | _ => none
  | 91 => match ds with
    | [.sl 1 n f _,.int .i64 0,.int .i64 z] => some (pC ds (.int .i64 (sizeS (intsD n f))) (IntsP n f∧rightS (intsD n f) = true∧z = (n:Int)))
    | _ => none
  | _ => none
theorem conDp_ok:ConOk Try.prog conDp := by
  intro k ds S A h
  unfold conDp at h
  split at h
  · split at h
    · injection h with h; subst h
      exact pC_ok fun h1 => ⟨weakL_refl _,sC_weak (isl_weak h1) (rright_ok _)⟩
    · cases h
  · split at h
    · rename_i n f m z
      injection h with h; subst h
      exact pC_ok fun ⟨h1,h2,h3⟩ => ⟨weakL_refl _,by
        subst h3
        have hl:(intsD n f).length = n := by simp [intsD]
        have := dprod_ok (intsD n f) h2
        rw [hl] at this
        have w:weakL [D.sl 1 n f m,.int .i64 0,.int .i64 (n:Int)] [isl (intsD n f) .any,.int .i64 0,.int .i64 (n:Int)] := ⟨(isl_weak h1).1,weakD_refl _,weakD_refl _,trivial⟩
        exact sC_weak w this⟩
    · cases h
  · cases h
noncomputable def Eds:Senv := EC conDp 10 1 [2,5] (fun _ => ([],[]))
noncomputable section
def dn3q12 (p0:List Int):Prop := IntsP (LN p0) fun (i:Nat) => [ZI (GI p0 i)]
def dn3q13 (p0:List Int):List Int := intsD (LN p0) fun (i:Nat) => [ZI (GI p0 i)]
def dn3q14 (p0:List Int):Bool := rightS (dn3q13 p0)
end
theorem dsize_ok (l:List Int) (hr:rightS l = true):ACalls Try.prog 75 [isl l .any] ⟨[],[]⟩ (SpecR (sC [isl l .any] (.int .i64 (sizeS l))) ()) := by
  refine con_of (A := sC _ _) (x := ()) (E := Eds) (eOk conDp_ok rfl) Try.func75 rfl (by kernel_rfl) rfl (by simp [sC,Eds,EC,E0]) ?_
  refine vc_eq (T :=
    dn3q12 l∧∀ (y:Unit),True→ifB (!dn3q14 l) (True∧∃ (y:Unit),True∧(-1:Int) = sizeS l∧True∧True) ((dn3q12 l∧dn3q14 l = true∧SM (LI l))∧∀ (y:Unit),True→True∧∃ (y:Unit),True∧sizeS (dn3q13 l) = sizeS l∧True∧True)) (by kernel_rfl) ?_
  delta GI LI LN SM Z0 ZI dn3q12 dn3q13 dn3q14
  simp only [ifB_iff,true_and,and_true,exists_const]
  simp only [intsD_isl,hr]
  exact ⟨intsP_isl l,fun _ _ => ⟨fun h => (by simp at h),fun _ => ⟨⟨intsP_isl l,trivial⟩,fun _ _ => trivial⟩⟩⟩
def conDz:Con := fun k ds _S => match k with
  | 74 => match ds with
    | [.sl 1 n f _] => some (pC ds (.bool (rightS (intsD n f))) (IntsP n f))
    | _ => none
  | 75 => match ds with
    | [.sl 1 n f _] => some (pC ds (.int .i64 (sizeS (intsD n f))) (IntsP n f∧rightS (intsD n f) = true))
    | _ => none
  | _ => none
theorem conDz_ok:ConOk Try.prog conDz := by
  intro k ds S A h
  unfold conDz at h
  split at h
  · split at h
    · injection h with h; subst h
      exact pC_ok fun h1 => ⟨weakL_refl _,sC_weak (isl_weak h1) (rright_ok _)⟩
    · cases h
  · split at h
    · injection h with h; subst h
      exact pC_ok fun ⟨h1,h2⟩ => ⟨weakL_refl _,sC_weak (isl_weak h1) (dsize_ok _ h2)⟩
    · cases h
  · cases h
end Go.Proofs.Ytoglbmhkfkghbaa
namespace Go.Proofs.Ytoglbmhkfkghbaa
open Go Go.Ab
set_option maxRecDepth 100000
noncomputable def _root_.Go.Ab.inlM (con:Con) (f:Nat) (k:Nat) (ds:List D) (S:St) (R:AEnd→St→Prop):Prop :=
  match Nat.beq k 52 with
  | true => match ds with
    | [.ref kx x 0] => dX numP (fun _ => True) (.int .i64) S R kx x
    | _ => False
  | false => match Nat.beq k 50 with
    | true => match ds with
      | [.ref kx x 0] => dX cntP (fun n => n ≤ 4294967296) (fun n => .int .i64 (n:Int)) S R kx x
      | _ => False
    | false => match Nat.beq k 53 with
      | true => match ds with
        | [.ref kx x 0,.int .i64 z] => z ≤ 4294967296∧dXt (listP numP z.toNat) (qNs z.toNat) S R kx x
        | _ => False
      | false => match Nat.beq k 51 with
        | true => match ds with
          | [.ref kx x 0,.int .i64 z] => (1 ≤ f∧z = 18 - (f:Int))∧dX (arrP (f - 1)) (fun _ => True) (fun a => .agg a.row1) S R kx x
          | _ => False
        | false => inlD { E0 con 0 0 [] (fun _ => ([],[])) with auto := true } (frmGet frames) 9 k ds S R
theorem inlM_ok {con:Con} (hc:ConOk Try.prog con) {f:Nat} (hf:1 ≤ f→DOk 51 [.int .i64 (18 - (f:Int))] (arrP (f - 1)) (fun _ => True) (fun a => .agg a.row1)) (k:Nat) (ds:List D) (S:St) (R:AEnd→St→Prop) (h:inlM con f k ds S R):ACalls Try.prog k ds S R := by
  unfold inlM at h
  split at h
  · rename_i hk
    have hk := Nat.eq_of_beq_eq_true hk
    subst hk
    split at h
    · exact dX_ok dnum_d h
    · exact h.elim
  · split at h
    · rename_i hk
      have hk := Nat.eq_of_beq_eq_true hk
      subst hk
      split at h
      · exact dX_ok dcnt_d h
      · exact h.elim
    · split at h
      · rename_i hk
        have hk := Nat.eq_of_beq_eq_true hk
        subst hk
        split at h
        · exact dXt_ok (dnums_d _ h.1) h.2
        · exact h.elim
      · split at h
        · rename_i hk
          have hk := Nat.eq_of_beq_eq_true hk
          subst hk
          split at h
          · obtain ⟨⟨h1,rfl⟩,h⟩ := h
            exact dX_ok (hf h1) h
          · exact h.elim
        · exact inlD_ok (E := { E0 con 0 0 [] (fun _ => ([],[])) with auto := true }) tab_ok hc mix frames_ok eqs_ok 9 k ds S R h
def _root_.Go.Ab.endXa (x:Nat) (b:List UInt8) (at_:Nat) (ok:Bool) (p:List UInt8→Option (Arr × List UInt8)) (e:AEnd) (S:St):Prop :=
  match e with
  | .ret d' => ∃ y:Nat × Bool × Int × List Int × List Int × List Arr,PX p b at_ ok y.1 y.2.1 (.mk y.2.2.1 y.2.2.2.1 y.2.2.2.2.1 y.2.2.2.2.2)∧weakD d' (.agg [.int .i64 y.2.2.1,isl y.2.2.2.1 .any,isl y.2.2.2.2.1 .any,gsl 4 Arr.row1 y.2.2.2.2.2])∧leS (stX 0 x b y.1 y.2.1) S
  | .pan _ => False
def arrQ (f:Nat) (l:List UInt8):Option (Arr × List UInt8) := bindP (numP l) fun k l => bindP (cntP l) fun n l => bindP (listP numP n l) fun sh l =>
  if ¬ (1 ≤ k∧k ≤ 3)∨rightS sh = false∨f = 0 then none
  else if k = 3 then bindP (listP (arrP (f - 1)) (sizeS sh).toNat l) fun its l => some (.mk k sh [] its,l)
  else bindP (listP numP (sizeS sh).toNat l) fun nu l => some (.mk k sh nu [],l)
theorem arrP_arrQ (f:Nat) (l:List UInt8):arrP f l = arrQ f l := by
  unfold arrQ
  cases f with
  | zero =>
    rw [arrP]
    cases numP l with
    | none => rfl
    | some y => 
      rw [bindP_some (a := y.1) (r := y.2) rfl]
      cases cntP y.2 with
      | none => rfl
      | some z =>
        rw [bindP_some (a := z.1) (r := z.2) rfl]
        cases listP numP z.1 z.2 with
        | none => rfl
        | some w => rw [bindP_some (a := w.1) (r := w.2) rfl,if_pos (.inr (.inr rfl))]
  | succ f =>
    cases hk:numP l with
    | none => rw [arrP_num hk]; rfl
    | some y =>
      obtain ⟨k,r⟩ := y
      rw [bindP_some (a := k) (r := r) rfl]
      cases hn:cntP r with
      | none =>
        by_cases hg:1 ≤ k∧k ≤ 3
        · rw [arrP_cnt hk hg hn]; rfl
        · rw [arrP_kind hk hg]; rfl
      | some z =>
        obtain ⟨n,r1⟩ := z
        rw [bindP_some (a := n) (r := r1) rfl]
        cases hs:listP numP n r1 with
        | none =>
          by_cases hg:1 ≤ k∧k ≤ 3
          · rw [arrP_shape hk hg hn hs]; rfl
          · rw [arrP_kind hk hg]; rfl
        | some w =>
          obtain ⟨sh,r2⟩ := w
          rw [bindP_some (a := sh) (r := r2) rfl]
          by_cases hg:1 ≤ k∧k ≤ 3
          · cases hr:rightS sh with
            | false => rw [arrP_right hk hg hn hs hr,if_pos (.inr (.inl rfl))]
            | true =>
              rw [if_neg (by simp [hg])]
              by_cases h3:k = 3
              · rw [arrP_items hk hg hn hs hr h3,if_pos h3]; unfold bindP; simp only [Nat.add_sub_cancel]; cases listP (arrP f) (sizeS sh).toNat r2 <;> rfl
              · rw [arrP_nums hk hg hn hs hr h3,if_neg h3]; unfold bindP; cases listP numP (sizeS sh).toNat r2 <;> rfl
          · rw [arrP_kind hk hg,if_pos (.inl hg)]
noncomputable def Eda (f:Nat) (b:List UInt8) (at_:Nat) (ok:Bool):Senv := { EC conDz 75 2 [4,5,6,7,33,41,48,62] (fun id => match id with | 14 => ([0,1,2,3,4,5,6,7,8,9],[5,6,7,9]) | _ => ([],[])) with
  inl := inlM conDz f
  gz := fun r => match r with
    | 3 => [.cell 2 403]
    | _ => []
  ann := fun k env S => match k with
    | 0 => some { slots := [7],keep := [0,1,4,5,6],α := Nat × Nat × List Arr × Nat × Bool,st := fun y => ([.int .i64 y.1],⟨setO (putC S.objs 2 3 (.sl 4 y.2.2.1.length (fun i => (y.2.2.1.getD i default).row1) (.tok 1 y.2.1))) 0 (.cells [bsl b .any,.int .i64 (y.2.2.2.1:Int),.bool y.2.2.2.2]),[(1,y.2.1)]⟩),inv := fun y => y.1 ≤ natOfR (Ab.look env 6)∧y.2.2.1.length = y.1∧y.2.2.2.1 ≤ b.length∧iT ok (arrP f (b.drop at_)) = iT y.2.2.2.2 (bindP (listP (arrP (f - 1)) (natOfR (Ab.look env 6) - y.1) (b.drop y.2.2.2.1)) fun w r => some (.mk 3 (shL S.objs 2) [] (y.2.2.1 ++ w),r)),mu := fun y => natOfR (Ab.look env 6) - y.1 }
    | _ => none }
noncomputable section
def dn4q0 (p0:List UInt8) (p1:Nat):List D := [ZB (BI p0 p1)]
def dn4q1 (p0:Nat):Nat := Int.toNat (↑p0:Int)
def dn4q2 (p0:List UInt8):List UInt8 := bytesOf (LN p0) fun (i:Nat) => dn4q0 p0 i
def dn4q3 (p0:Nat) (p1:List UInt8) (p2:Nat) (p3:Bool):Prop := SM p0∧(rowsB (LN p1) fun (i:Nat) => dn4q0 p1 i) = true∧LN p1 ≤ (4294967296:Nat)∧(Z0 ≤ (↑p2:Int)∧dn4q1 p2 ≤ LN p1)∧(SM p0∧((LN p1 = LN (dn4q2 p1)∧(∀ (i:Nat),i < LN p1→dn4q0 p1 i = [ZB (BI (dn4q2 p1) i)])∧True)∧(↑p2:Int) = (NI (dn4q1 p2))∧SM p3∧True)∧True)∧True
def dn4q4 (p0:Nat) (p1:List UInt8) (p2:Nat) (p3:Bool) (p4:Nat) (p5:Bool) (p6:Int) (p7 p8:List Int) (p9:List Arr):Prop := PX (arrP p0) p1 p2 p3 p4 p5 (Arr.mk p6 p7 p8 p9)
def dn4q5 (p0:List Int) (p1:Nat):List D := [ZI (GI p0 p1)]
def dn4q6 (p0 p1:List Int):Prop := LN p0 = LN p1∧(∀ (i:Nat),i < LN p0→dn4q5 p0 i = dn4q5 p1 i)∧True
def dn4q7 (p0:List Int):Prop := N0 = LN p0∧(∀ (i:Nat),i < N0→eqOf (List D) [] (dn4q5 p0 i))∧True
def dn4q8:Arr := DA
def dn4q9 (p0:List Arr) (p1:Nat):Arr := List.getD p0 p1 dn4q8
def dn4q10 (p0:List Arr) (p1:Nat):List Int := Arr.sh (dn4q9 p0 p1)
def dn4q11 (p0:List Arr) (p1:Nat):List Int := Arr.nu (dn4q9 p0 p1)
def dn4q12 (p0:List Arr) (p1:Nat):List Arr := Arr.it (dn4q9 p0 p1)
def dn4q13 (p0:List Arr) (p1:Nat):List D := [ZI (Arr.k (dn4q9 p0 p1)),SI (dn4q10 p0 p1),SI (dn4q11 p0 p1),D.sl N4 (LN (dn4q12 p0 p1)) (fun (i:Nat) => Arr.row (List.getD (dn4q12 p0 p1) i dn4q8)) Mode.any]
def dn4q14 (p0:List Arr):Prop := ∀ (i:Nat),i < N0→eqOf (List D) [] (dn4q13 p0 i)
def dn4q15 (p0:List Arr):Prop := (N0 = LN p0∧dn4q14 p0∧True)∧True
def dn4q16 (p0 p1:Int) (p2 p3 p4:List Int) (p5:List Arr):Prop := p0 = p1∧dn4q6 p2 p3∧dn4q7 p4∧dn4q15 p5
def dn4q17 (p0:List UInt8):Prop := SM (LN p0)∧(∀ (i:Nat),i < LN p0→SM (dn4q0 p0 i))∧True
def dn4q18 (p0 p1 p2 p3:Nat) (p4:List UInt8) (p5:Nat) (p6:Bool) (p7:Int) (p8:List Int) (p9:Nat):Prop := SM p0∧SM p0∧SM p1∧SM p2∧(SM p2∧True)∧∃ (y:Nat × Bool × Int × List Int × List Int × List Arr),dn4q4 p3 p4 p5 p6 y.1 y.2.1 y.2.2.1 y.2.2.2.1 y.2.2.2.2.1 y.2.2.2.2.2∧dn4q16 p7 y.2.2.1 p8 y.2.2.2.1 y.2.2.2.2.1 y.2.2.2.2.2∧(SM p0∧(dn4q17 p4∧(↑p9:Int) = (NI y.1)∧false = y.2.1∧True)∧True)∧True
def dn4q19 (p0:List Int):Prop := IntsP (LN p0) fun (i:Nat) => dn4q5 p0 i
def dn4q20 (p0:List Int):List Int := intsD (LN p0) fun (i:Nat) => dn4q5 p0 i
def dn4q21 (p0:List Int):Bool := rightS (dn4q20 p0)
def dn4q22 (p0:List UInt8) (p1 p2:Nat) (p3 p4:Bool):Prop := dn4q17 p0∧(↑p1:Int) = (↑p2:Int)∧p3 = p4∧True
def dn4q23 (p0:Nat) (p1:List UInt8) (p2 p3:Nat) (p4 p5:Bool):Prop := (SM p0∧dn4q22 p1 p2 p3 p4 p5∧True)∧True
def dn4q24 (p0:List Int):Int := sizeS (dn4q20 p0)
def dn4q25 (p0:List Int):Nat := Int.toNat (dn4q24 p0)
def dn4q26 (p0:List Int):D := ZI (dn4q24 p0)
def dn4q27 (p0:List Int):Nat := natOfR (dn4q26 p0)
def dn4q28 (p0:List Int) (p1:Nat):Nat := dn4q27 p0 - p1
def dn4q29 (p0:Nat) (p1:List Int) (p2:List Arr) (p3:Nat) (p4:List UInt8) (p5:Bool) (p6 p7:Nat) (p8:Bool):Prop := p0 ≤ dn4q27 p1∧LN p2 = p0∧p3 ≤ LN p4∧iT p5 (arrP p6 (List.drop p7 p4)) = iT p8 (bindP (listP (arrP (p6 - N1)) (dn4q28 p1 p0) (List.drop p3 p4)) fun (w:List Arr) (r:List UInt8) => some (Arr.mk (3:Int) (intsOf (LN p1) fun (i:Nat) => dn4q5 p1 i) [] (p2 ++ w),r))
def dn4q30 (p0:List Int) (p1:Nat):Prop := SM (LN p0)∧(∀ (i:Nat),i < LN p0→SM (dn4q5 p0 i))∧SM p1
def dn4q31:Prop := SM N0∧(∀ (i:Nat),i < N0→eqOf (List D) [] [])∧True
def dn4q32 (p0:Nat):Prop := SM p0∧(SM Z0∧dn4q31∧dn4q31∧dn4q31∧True)∧True
def dn4q33 (p0:Nat) (p1:List Int):Bool := decide ((↑p0:Int) < dn4q24 p1)
def dn4q34 (p0:Nat) (p1:List Int) (p2:Bool):Bool := bif dn4q33 p0 p1 then p2 else false
def dn4q35 (p0:List Arr) (p1:Nat):D := D.sl N4 (LN p0) (fun (i:Nat) => dn4q13 p0 i) (Mode.tok N1 p1)
def dn4q36 (p0:Nat) (p1:List Arr) (p2:Nat):Prop := SM p0∧SM (dn4q35 p1 p2)
end
theorem darr_step (f : Nat) (hf17 : f ≤ 17) (hf : 1 ≤ f → DOk 51 [.int .i64 (18 - (f : Int))] (arrP (f - 1)) (fun _ => True) (fun a => .agg a.row1)) (x : Nat) (b : List UInt8) (at_ : Nat) (ok : Bool) (hb : b.length ≤ 4294967296) (ha : at_ ≤ b.length) :
    ACalls Try.prog 51 [.ref 0 x 0,.int .i64 (17 - (f:Int))] (stX 0 x b at_ ok) (endXa x b at_ ok (arrP f)) := by
  refine call_of (E := Eda f b at_ ok) (erOk conDz_ok (inlM_ok conDz_ok hf) rfl) Try.func51 rfl (by kernel_rfl) rfl (by simp [Eda,EC,E0]) ?_
  refine vc_eq (T :=
    ∀ (x_1:Nat),x ≠ x_1∧True→dn4q3 x b at_ ok∧∀ (a':Nat) (o':Bool) (v:Int),PX numP (dn4q2 b) (dn4q1 at_) ok a' o' v→True→∀ (x_2:Nat),x ≠ x_2∧x_1 ≠ x_2∧True→SM x_2∧dn4q3 x b a' o'∧∀ (a'_1:Nat) (o'_1:Bool) (v_1:Nat),PX cntP (dn4q2 b) (dn4q1 a') o' a'_1 o'_1 v_1→v_1 ≤ (4294967296:Nat)→(↑v_1:Int) ≤ (4294967296:Int)∧dn4q3 x b a'_1 o'_1∧∀ (a':Nat) (o':Bool) (v_2:List Int) (t:Nat),PX (listP numP (dn4q1 v_1)) (dn4q2 b) (dn4q1 a'_1) o'_1 a' o' v_2→qNs (dn4q1 v_1) o' v_2→SM x_2∧∀ (t_1:Nat),SM x_2∧ifB (decide (v < Z1)) (dn4q18 x x_2 x_1 f b at_ ok v v_2 a') (SM x_2∧ifB (decide ((3:Int) < v)) (dn4q18 x x_2 x_1 f b at_ ok v v_2 a') (SM x_2∧dn4q19 v_2∧∀ (y:Unit),True→ifB (!dn4q21 v_2) (dn4q18 x x_2 x_1 f b at_ ok v v_2 a') (ifB (decide ((16:Int) < (17:Int) - (↑f:Int))) (dn4q18 x x_2 x_1 f b at_ ok v v_2 a') (SM x∧ifB (!o') (SM x_2∧SM x_1∧(SM x_1∧True)∧∃ (y:Nat × Bool × Int × List Int × List Int × List Arr),dn4q4 f b at_ ok y.1 y.2.1 y.2.2.1 y.2.2.2.1 y.2.2.2.2.1 y.2.2.2.2.2∧dn4q16 v y.2.2.1 v_2 y.2.2.2.1 y.2.2.2.2.1 y.2.2.2.2.2∧dn4q23 x b a' y.1 o' y.2.1) (SM x_2∧(dn4q19 v_2∧dn4q21 v_2 = true)∧∀ (y:Unit),True→SM x_2∧ifB (v != (3:Int)) (dn4q24 v_2 ≤ (4294967296:Int)∧dn4q3 x b a' o'∧∀ (a'_2:Nat) (o'_2:Bool) (v_3:List Int) (t:Nat),PX (listP numP (dn4q25 v_2)) (dn4q2 b) (dn4q1 a') o' a'_2 o'_2 v_3→qNs (dn4q25 v_2) o'_2 v_3→SM x_2∧SM x_2∧SM x_1∧(SM x_1∧True)∧∃ (y:Nat × Bool × Int × List Int × List Int × List Arr),dn4q4 f b at_ ok y.1 y.2.1 y.2.2.1 y.2.2.2.1 y.2.2.2.2.1 y.2.2.2.2.2∧(v = y.2.2.1∧dn4q6 v_2 y.2.2.2.1∧dn4q6 v_3 y.2.2.2.2.1∧dn4q15 y.2.2.2.2.2)∧dn4q23 x b a'_2 y.1 o'_2 y.2.1) ((∃ (x_3:Nat × Nat × List Arr × Nat × Bool),dn4q29 x_3.1 v_2 x_3.2.2.1 x_3.2.2.2.1 b ok f at_ x_3.2.2.2.2∧(Z0 = (NI x_3.1)∧True)∧(SM x∧dn4q22 b a' x_3.2.2.2.1 o' x_3.2.2.2.2∧SM x_2∧(SM v∧dn4q30 v_2 t∧dn4q31∧(N0 = LN x_3.2.2.1∧dn4q14 x_3.2.2.1∧t_1 = x_3.2.1)∧True)∧dn4q32 x_1)∧t_1 = x_3.2.1∧True)∧∀ (x_3:Nat × Nat × List Arr × Nat × Bool),dn4q29 x_3.1 v_2 x_3.2.2.1 x_3.2.2.2.1 b ok f at_ x_3.2.2.2.2→ifB (dn4q33 x_3.1 v_2) (SM x∧x_3.2.2.2.2 = dn4q34 x_3.1 v_2 x_3.2.2.2.2∧True) (false = dn4q34 x_3.1 v_2 x_3.2.2.2.2∧True)∧ifB (dn4q34 x_3.1 v_2 x_3.2.2.2.2) (SM x_2∧(N1 ≤ f∧IntKind.wrap IntKind.i64 ((17:Int) - (↑f:Int) + Z1) = (18:Int) - (↑f:Int))∧dn4q3 x b x_3.2.2.2.1 x_3.2.2.2.2∧∀ (a':Nat) (o':Bool) (v_3:Arr),PX (arrP (f - N1)) (dn4q2 b) (dn4q1 x_3.2.2.2.1) x_3.2.2.2.2 a' o' v_3→True→dn4q36 x_2 x_3.2.2.1 x_3.2.1∧dn4q36 x_2 x_3.2.2.1 x_3.2.1∧SM x_3.2.1∧side ((LN x_3.2.2.1 + N1) * (80:Nat) ≤ (140737488355328:Nat)∧LN x_3.2.2.1 + N1 ≤ (9223372036854775807:Nat)) (∀ (t_2:Nat),SM x_2∧(SM (D.ref N0 x N0)∧SM (ZI ((17:Int) - (↑f:Int)))∧SM (D.ref N1 x_1 N0)∧SM (D.ref N2 x_2 N0)∧SM (dn4q26 v_2)∧True)∧∃ (y:Nat × Nat × List Arr × Nat × Bool),dn4q29 y.1 v_2 y.2.2.1 y.2.2.2.1 b ok f at_ y.2.2.2.2∧dn4q28 v_2 y.1 < dn4q28 v_2 x_3.1∧(IntKind.wrap IntKind.i64 ((NI x_3.1) + Z1) = (NI y.1)∧True)∧(SM x∧dn4q22 b a' y.2.2.2.1 o' y.2.2.2.2∧SM x_2∧(SM v∧dn4q30 v_2 t∧dn4q31∧(LN x_3.2.2.1 + N1 = LN y.2.2.1∧(∀ (i:Nat),i < LN x_3.2.2.1 + N1→appF (LN x_3.2.2.1) (fun (i:Nat) => dn4q13 x_3.2.2.1 i) (fun (i:Nat) => List.getD [[ZI (Arr.k v_3),SI (Arr.sh v_3),SI (Arr.nu v_3),D.sl N4 (LN (Arr.it v_3)) (fun (i:Nat) => Arr.row (List.getD (Arr.it v_3) i dn4q8)) Mode.any]] i []) i = dn4q13 y.2.2.1 i)∧t_2 = y.2.1)∧True)∧dn4q32 x_1)∧t_2 = y.2.1∧True)) (SM x_2∧SM x_1∧(SM x_1∧True)∧∃ (y:Nat × Bool × Int × List Int × List Int × List Arr),dn4q4 f b at_ ok y.1 y.2.1 y.2.2.1 y.2.2.2.1 y.2.2.2.2.1 y.2.2.2.2.2∧(v = y.2.2.1∧dn4q6 v_2 y.2.2.2.1∧dn4q7 y.2.2.2.2.1∧(LN x_3.2.2.1 = LN y.2.2.2.2.2∧(∀ (i:Nat),i < LN x_3.2.2.1→dn4q13 x_3.2.2.1 i = dn4q13 y.2.2.2.2.2 i)∧True)∧True)∧dn4q23 x b x_3.2.2.2.1 y.1 x_3.2.2.2.2 y.2.1)))))))) (by kernel_rfl) ?_
  delta BI DA GI LN N0 N1 N2 N4 NI SI SM U0 Z0 Z1 ZB ZI dn4q0 dn4q1 dn4q10 dn4q11 dn4q12 dn4q13 dn4q14 dn4q15 dn4q16 dn4q17 dn4q18 dn4q19 dn4q2 dn4q20 dn4q21 dn4q22 dn4q23 dn4q24 dn4q25 dn4q26 dn4q27 dn4q28 dn4q29 dn4q3 dn4q30 dn4q31 dn4q32 dn4q33 dn4q34 dn4q35 dn4q36 dn4q4 dn4q5 dn4q6 dn4q7 dn4q8 dn4q9
  have da:(default:Arr) = Arr.mk 0 [] [] [] := rfl
  simp only [← da,eq_self,ne_eq,implies_true,Int.toNat_natCast,ifB_iff,side_iff,decide_eq_true_eq,decide_eq_false_iff_not,true_and,and_true,Bool.cond_false_right,Bool.and_eq_true,Bool.and_eq_false_iff,forall_const,bytesOf_bsl,rowsB_bsl,intsD_isl,intsOf_isl,natOfR]
  intro x1 _
  refine ⟨⟨hb,by omega,ha⟩,fun a1 o1 k h1 x2 _ => ⟨⟨hb,by omega,h1.ha⟩,fun a2 o2 n h2 qn => ⟨by omega,⟨hb,by omega,h2.ha⟩,fun a3 o3 sh h3 q3 t1 => ?_⟩⟩⟩
  have hT : iT ok (arrP f (b.drop at_)) = iT o3 (if ¬ (1 ≤ k ∧ k ≤ 3) ∨ rightS sh = false ∨ f = 0 then none
      else if k = 3 then bindP (listP (arrP (f - 1)) (sizeS sh).toNat (b.drop a3)) fun its l => some (.mk k sh [] its,l)
      else bindP (listP numP (sizeS sh).toNat (b.drop a3)) fun nu l => some (.mk k sh nu [],l)) := by
    rw [arrP_arrQ]; exact (h1.bind _).trans ((h2.bind _).trans (h3.bind _))
  have h3a := h3.ha
  have hF:(¬ (1 ≤ k∧k ≤ 3)∨rightS sh = false∨f = 0)→PX (arrP f) b at_ ok a3 false (.mk k sh [] []) := fun hc => ⟨h3a,by rw [hT,if_pos hc]; cases o3 <;> rfl⟩
  have hS := sizeS_le (s := sh)
  have hS0 := sizeS_nonneg sh
  have z0:∀ {p:Nat→Prop} (i:Nat),i < 0→p i := fun i hi => absurd hi (Nat.not_lt_zero i)
  refine ⟨fun c1 => ⟨(a3,false,k,sh,[],[]),hF (.inl (by omega)),⟨rfl,⟨rfl,fun _ _ => rfl⟩,⟨rfl,z0⟩,rfl,z0⟩,rfl,rfl⟩,fun c1 => ⟨fun c2 => ⟨(a3,false,k,sh,[],[]),hF (.inl (by omega)),⟨rfl,⟨rfl,fun _ _ => rfl⟩,⟨rfl,z0⟩,rfl,z0⟩,rfl,rfl⟩,fun c2 => ⟨intsP_isl sh,fun c3 => ⟨(a3,false,k,sh,[],[]),hF (.inr (.inl (by simpa using c3))),⟨rfl,⟨rfl,fun _ _ => rfl⟩,⟨rfl,z0⟩,rfl,z0⟩,rfl,rfl⟩,fun c3 => ⟨fun c4 => ⟨(a3,false,k,sh,[],[]),hF (.inr (.inr (by omega))),⟨rfl,⟨rfl,fun _ _ => rfl⟩,⟨rfl,z0⟩,rfl,z0⟩,rfl,rfl⟩,fun c4 => ⟨fun c5 => ?_,fun c5 => ?_⟩⟩⟩⟩⟩
  · have c5:o3 = false := by simpa using c5
    subst c5
    exact ⟨(a3,false,k,sh,[],[]),⟨h3a,hT⟩,⟨rfl,⟨rfl,fun _ _ => rfl⟩,⟨rfl,z0⟩,rfl,z0⟩,rfl,rfl⟩
  have c3:rightS sh = true := by simpa using c3
  rw [if_neg (by simp only [c3,Bool.true_eq_false,false_or]; omega)] at hT
  refine ⟨⟨intsP_isl sh,c3⟩,fun c6 => ⟨by omega,⟨hb,by omega,h3a⟩,fun a4 o4 nu h4 q4 => ⟨(a4,o4,k,sh,nu,[]),⟨h4.ha,?_⟩,⟨rfl,⟨rfl,fun _ _ => rfl⟩,⟨rfl,fun _ _ => rfl⟩,rfl,z0⟩,rfl,rfl⟩⟩,fun c6 => ?_⟩
  · rw [hT,if_neg (by simpa using c6)]; exact h4.bind _
  have c6:k = 3 := by simpa using c6
  rw [if_pos c6,PX.init] at hT
  subst c6
  refine ⟨⟨(0,t1,[],a3,o3),⟨Nat.zero_le _,rfl,h3a,hT⟩,rfl,⟨⟨rfl,rfl⟩,rfl,z0,rfl⟩,rfl⟩,?_⟩
  rintro ⟨i,t2,s,a,o⟩ ⟨i1,i2,i3,i4⟩
  simp only at i1 i2 i3 i4 ⊢
  refine ⟨⟨fun h => by simp [h],fun h => by simp [h]⟩,fun ⟨hlt,ho⟩ => ⟨⟨by omega,by rw [wrap_i64' (by omega) (by omega)]; omega⟩,⟨hb,by omega,i3⟩,fun a' o' v h => ⟨by omega,fun t3 => ⟨(i + 1,t3,s ++ [v],a',o'),⟨by simp only; omega,by simp [i2],h.ha,?_⟩,by simp only; omega,wrap_i64' (by omega) (by omega),⟨⟨rfl,rfl⟩,by simp,fun j hj => ?_,rfl⟩,rfl⟩⟩⟩,fun hge => ⟨(a,o,3,sh,[],s),⟨i3,?_⟩,⟨rfl,⟨rfl,fun _ _ => rfl⟩,⟨rfl,z0⟩,rfl,fun _ _ => rfl⟩,rfl,rfl⟩⟩
  · rw [i4]; exact h.loop (by omega) s (fun w r => some (Arr.mk 3 sh [] w,r))
  · simp only [appF]
    split
    · rename_i hlt'
      simp [List.getD_eq_getElem?_getD,List.getElem?_append_left hlt']
    · have:j = s.length := by omega
      subst this
      simp [List.getD_eq_getElem?_getD]
  · rw [i4]
    exact PX.done (fun ho => by rcases hge with h | h; · omega
                                · rw [ho] at h; cases h) s (fun w r => some (Arr.mk 3 sh [] w,r))
theorem darr_end {f:Nat} {z:Int} {x:Nat} {b:List UInt8} {at_:Nat} {ok:Bool} {p:List UInt8→Option (Arr × List UInt8)} (h:ACalls Try.prog f [.ref 0 x 0,.int .i64 z] (stX 0 x b at_ ok) (endXa x b at_ ok p)):ACalls Try.prog f [.ref 0 x 0,.int .i64 z] (stX 0 x b at_ ok) (endX x b at_ ok p (fun _ => True) (fun a => .agg a.row1)) := by
  refine ACalls.wkEnd h fun r S' hr => ?_
  cases r with
  | pan d => exact hr.elim
  | ret d =>
    obtain ⟨⟨a',o',k,s,n,its⟩,q1,q2,q3⟩ := hr
    refine ⟨.ret (.agg (Arr.mk k s n its).row1),fun C e he => ?_,⟨(a',o',Arr.mk k s n its),q1,trivial,weakD_refl _,q3⟩⟩
    cases e with
    | returned v =>
      refine wkD_weak (.agg (Arr.mk k s n its).row2) _ ?_ C v (weakD_weak _ _ q2 C v he)
      simp only [wkD,Arr.row1,Arr.row2,wkL,Arr.k,Arr.sh,Arr.nu,Arr.it,gsl]
      exact ⟨weakD_refl _,wkD_refl _,wkD_refl _,chk_iff.2 ⟨rfl,trivial,fun i _ => row1_row _,by simp [weakM]⟩,trivial⟩
    | panicked _ => exact he.elim
    | outgrown => exact he.elim
theorem darr_d:∀ f:Nat,f ≤ 17→DOk 51 [.int .i64 (17 - (f:Int))] (arrP f) (fun _ => True) (fun a => .agg a.row1) := by
  intro f
  induction f with
  | zero =>
    intro _ x b at_ ok hb ha
    exact darr_end (darr_step 0 (by omega) (fun h => by omega) x b at_ ok hb ha)
  | succ f ih =>
    intro hf x b at_ ok hb ha
    refine darr_end (darr_step (f + 1) hf (fun _ => ?_) x b at_ ok hb ha)
    rw [show (18:Int) - ((f + 1:Nat):Int) = 17 - (f:Int) by omega]
    exact ih (by omega)
end Go.Proofs.Ytoglbmhkfkghbaa
