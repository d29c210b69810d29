/- Functions of the given program and what each of them computes: lemmas towards the statement, their conditions stated with each of them. -/
import Derived.Test.YtoglbmhkfkghbaaD5
namespace Go.Proofs.Ytoglbmhkfkghbaa
open Go Go.Ab
set_option maxRecDepth 100000
theorem putE_zero {c:CodD} (h:putE c = 0):rightC c = 0∧(codeB c).length ≤ 1048568∧putL c = sealB (codeB c) := by
  have hp:putL c = sealB (codeB c) := by unfold putL; rw [if_neg (by rw [h]; simp)]
  unfold putE at h
  by_cases e1:rightC c ≠ 0
  · rw [if_pos e1] at h; exact (e1 h).elim
  · rw [if_neg e1] at h
    by_cases e2:1048576 < (sealB (codeB c)).length
    · rw [if_pos e2] at h; omega
    · rw [seal_len] at e2
      exact ⟨by simpa using e1,by omega,hp⟩
theorem seal_E {l:List UInt8} (h:l.length ≤ 2000):takeE (sealB l) = 0∨takeE (sealB l) = 25∨takeE (sealB l) = 26 := by
  have he := ek_seal (l := l) (by omega)
  cases hb:bodyP (midB (sealB l)) with
  | none => rw [takeE_none he hb]; simp
  | some c => rw [takeE_some he hb]; split <;> simp
theorem seal_put {l:List UInt8} (h:l.length ≤ 2000) (h0:takeE (sealB l) = 0):okC (takeC (sealB l))∧szOk (takeC (sealB l))∧putE (takeC (sealB l)) = 0∧putL (takeC (sealB l)) = sealB l := by
  have he := ek_seal (l := l) (by omega)
  cases hb:bodyP (midB (sealB l)) with
  | none => rw [takeE_none he hb] at h0; omega
  | some c =>
    rw [takeC_some h0 hb]
    rw [takeE_some he hb] at h0
    have hr:rightC c = 0 := by
      by_cases e:rightC c = 0
      · exact e
      · rw [if_pos e] at h0; omega
    rw [mid_seal] at hb
    have hf := body_forth hb
    have hp:putE c = 0 := by
      unfold putE; rw [if_neg (by simpa using hr),hf,seal_len,if_neg (by omega)]
    refine ⟨body_okC (by omega) c hb,⟨by rw [hf]; omega,fun a ha => ?_⟩,hp,by rw [(putE_zero hp).2.2,hf]⟩
    have h1 := szA_chk a (right_consts hr a ha)
    have h2 := (chkA_bounds a).2.2
    omega
def conBo (l:List UInt8):Con := fun k ds S => match k with
  | 13 => some (pC ds (.tup [bsl (sealB l) .any,.int .i64 0]) (weakL ds [.agg (takeC (sealB l)).row]∧takeE (sealB l) = 0∧l.length ≤ 2000))
  | 18 => match ds with
    | [.sl 1 n f m] => some (pC [bsl (bytesOf n f) m] (bsl (sealB (bytesOf n f)) .any) (rowsB n f = true∧n ≤ 70368744177664))
    | _ => none
  | k => conTb (takeC (sealB l)) k ds S
theorem conBo_ok {l:List UInt8} (hl:l.length ≤ maxLen):ConOk Try.prog (conBo l) := by
  intro k ds S A h
  unfold conBo at h
  split at h
  · injection h with h; subst h
    refine pC_ok fun e => ⟨weakL_refl _,sC_weak e.1 ?_⟩
    obtain ⟨_,e2,e3⟩ := e
    obtain ⟨p1,p2,p3,p4⟩ := seal_put e3 e2
    have := pu_ok (takeC (sealB l)) p1.1 p1.2 fun _ => p2
    rw [p3,p4] at this
    exact this
  · split at h
    · rename_i n f m
      injection h with h; subst h
      refine pC_ok fun e => ⟨⟨bsl_weak e.1,trivial⟩,sl_ok _ _ (by simpa [bytesOf] using e.2)⟩
    · cases h
  · refine conTb_ok ?_ _ _ _ _ h
    unfold takeC
    split
    · cases hc:bodyP (midB (sealB l)) with
      | none => exact nilCode_ok
      | some c => rw [mid_seal] at hc; exact bodyP_ok hl hc
    · exact nilCode_ok
noncomputable def Ebo (l:List UInt8):Senv := EC (conBo l) 63 1 [2,3,4,5,6,7,8,9,12,34,36] (fun _ => ([],[]))
noncomputable section
def lo1q21:Prop := ∃ (_x:Unit),True∧(True∧True)∧True∧∀ (_y:Unit),True→True∧∃ (_y:Unit),True∧SM true∧True∧True
def lo1q22 (p0:List UInt8):List UInt8 := sealB (bytesOf (LN p0) fun (i:Nat) => [ZB (BI p0 i)])
def lo1q23 (p0:List UInt8):Nat := LN (lo1q22 p0)
def lo1q24 (p0:List UInt8) (p1:Nat):List D := [ZB (BI (lo1q22 p0) p1)]
def lo1q25 (p0:List UInt8):Bool := rowsB (lo1q23 p0) fun (i:Nat) => lo1q24 p0 i
def lo1q26 (p0:List UInt8):Prop := lo1q25 p0 = true∧lo1q23 p0 ≤ (65536:Nat)
def lo1q27 (p0:List UInt8):List UInt8 := bytesOf (lo1q23 p0) fun (i:Nat) => lo1q24 p0 i
def lo1q28 (p0:List UInt8):Int := takeE (lo1q27 p0)
def lo1q29:Prop := True∧∃ (_y:Unit),True∧false = true∧True∧True
def lo1q30 (p0:List UInt8):CodD := takeC (lo1q27 p0)
def lo1q31 (p0:List UInt8):List Arr := CodD.consts (lo1q30 p0)
def lo1q32 (p0:List UInt8):Nat := LN (lo1q31 p0)
def lo1q33 (p0:List UInt8):List UInt8 := sealB p0
def lo1q34 (p0:List UInt8):CodD := takeC (lo1q33 p0)
def lo1q35 (p0:List UInt8):List Arr := CodD.consts (lo1q34 p0)
def lo1q36:Arr := DA
def lo1q37 (p0:List UInt8):List FnD := CodD.funs (lo1q30 p0)
def lo1q38 (p0:List UInt8):Nat := LN (lo1q37 p0)
def lo1q39 (p0:List UInt8):List FnD := CodD.funs (lo1q34 p0)
def lo1q40 (p0:List UInt8) (p1:Nat):FnD := List.getD (lo1q37 p0) p1 DF
def lo1q41 (p0:List UInt8) (p1:Nat):List I4 := FnD.code (lo1q40 p0 p1)
def lo1q42:I4 := D4
def lo1q43 (p0:List UInt8) (p1 p2:Nat):I4 := List.getD (lo1q41 p0 p1) p2 lo1q42
def lo1q44 (p0:List UInt8) (p1:Nat):FnD := List.getD (lo1q39 p0) p1 DF
def lo1q45 (p0:List UInt8) (p1:Nat):List I4 := FnD.code (lo1q44 p0 p1)
def lo1q46 (p0:List UInt8) (p1 p2:Nat):I4 := List.getD (lo1q45 p0 p1) p2 lo1q42
def lo1q47 (p0:List UInt8):List KeD := CodD.kers (lo1q30 p0)
def lo1q48 (p0:List UInt8):Nat := LN (lo1q47 p0)
def lo1q49 (p0:List UInt8):List KeD := CodD.kers (lo1q34 p0)
def lo1q50:KeD := DK
def lo1q51 (p0:List UInt8) (p1:Nat):KeD := List.getD (lo1q47 p0) p1 lo1q50
def lo1q52 (p0:List UInt8) (p1:Nat):List I4 := KeD.ops (lo1q51 p0 p1)
def lo1q53 (p0:List UInt8) (p1 p2:Nat):I4 := List.getD (lo1q52 p0 p1) p2 lo1q42
def lo1q54 (p0:List UInt8) (p1:Nat):KeD := List.getD (lo1q49 p0) p1 lo1q50
def lo1q55 (p0:List UInt8) (p1:Nat):List I4 := KeD.ops (lo1q54 p0 p1)
def lo1q56 (p0:List UInt8) (p1 p2:Nat):I4 := List.getD (lo1q55 p0 p1) p2 lo1q42
def lo1q57 (p0:List UInt8):List LaD := CodD.lanes (lo1q30 p0)
def lo1q58 (p0:List UInt8):Nat := LN (lo1q57 p0)
def lo1q59 (p0:List UInt8):List LaD := CodD.lanes (lo1q34 p0)
def lo1q60 (p0:List UInt8) (p1:Nat):LaD := List.getD (lo1q57 p0) p1 DL
def lo1q61 (p0:List UInt8) (p1:Nat):List I6 := LaD.code (lo1q60 p0 p1)
def lo1q62:I6 := D6
def lo1q63 (p0:List UInt8) (p1 p2:Nat):I6 := List.getD (lo1q61 p0 p1) p2 lo1q62
def lo1q64 (p0:List UInt8) (p1:Nat):LaD := List.getD (lo1q59 p0) p1 DL
def lo1q65 (p0:List UInt8) (p1:Nat):List I6 := LaD.code (lo1q64 p0 p1)
def lo1q66 (p0:List UInt8) (p1 p2:Nat):I6 := List.getD (lo1q65 p0 p1) p2 lo1q62
def lo1q67 (p0:List UInt8):Prop := (lo1q32 p0 = LN (lo1q35 p0)∧(∀ (i:Nat),i < lo1q32 p0→Arr.row (List.getD (lo1q31 p0) i lo1q36) = Arr.row (List.getD (lo1q35 p0) i lo1q36))∧True)∧(lo1q38 p0 = LN (lo1q39 p0)∧(∀ (i:Nat),i < lo1q38 p0→[ZI (FnD.slots (lo1q40 p0 i)),D.sl N4 (LN (lo1q41 p0 i)) (fun (i_1:Nat) => (R4 (lo1q43 p0 i i_1))) Mode.any] = [ZI (FnD.slots (lo1q44 p0 i)),D.sl N4 (LN (lo1q45 p0 i)) (fun (i_1:Nat) => (R4 (lo1q46 p0 i i_1))) Mode.any])∧True)∧(lo1q48 p0 = LN (lo1q49 p0)∧(∀ (i:Nat),i < lo1q48 p0→[ZI (KeD.inputs (lo1q51 p0 i)),D.sl N4 (LN (lo1q52 p0 i)) (fun (i_1:Nat) => (R4 (lo1q53 p0 i i_1))) Mode.any,ZI (KeD.reduce (lo1q51 p0 i)),ZI (KeD.at_ (lo1q51 p0 i))] = [ZI (KeD.inputs (lo1q54 p0 i)),D.sl N4 (LN (lo1q55 p0 i)) (fun (i_1:Nat) => (R4 (lo1q56 p0 i i_1))) Mode.any,ZI (KeD.reduce (lo1q54 p0 i)),ZI (KeD.at_ (lo1q54 p0 i))])∧True)∧(lo1q58 p0 = LN (lo1q59 p0)∧(∀ (i:Nat),i < lo1q58 p0→[ZI (LaD.regs (lo1q60 p0 i)),D.sl N6 (LN (lo1q61 p0 i)) (fun (i_1:Nat) => (R6 (lo1q63 p0 i i_1))) Mode.any] = [ZI (LaD.regs (lo1q64 p0 i)),D.sl N6 (LN (lo1q65 p0 i)) (fun (i_1:Nat) => (R6 (lo1q66 p0 i i_1))) Mode.any])∧True)∧True
def lo1q68 (p0:List UInt8):Prop := lo1q67 p0∧True
def lo1q69 (p0:List UInt8) (p1:Nat):List D := [ZB (BI (lo1q33 p0) p1)]
end
set_option maxHeartbeats 2000000 in
theorem law_bodies (l:List UInt8) (hl:l.length ≤ maxLen):ACalls Try.prog 6 [bsl l .any] ⟨[],[]⟩ (SpecR (sC [bsl l .any] (.bool true)) ()) := by
  refine con_of (A := sC _ _) (x := ()) (E := Ebo l) (eOk (conBo_ok hl) rfl) Try.func6 rfl (by kernel_rfl) rfl (by simp [sC,Ebo,EC,E0]) ?_
  refine vc_eq (T :=
    ifB (decide ((2000:Int) < (LI l))) lo1q21 (((rowsB (LN l) fun (i:Nat) => [ZB (BI l i)]) = true∧LN l ≤ (70368744177664:Nat))∧∀ (y:Unit),True→lo1q26 l∧∀ (y:Unit),True→∀ (x:Nat),True→SM x∧lo1q26 l∧∀ (y:Unit),True→∀ (x_1:Nat),x ≠ x_1∧True→SM x_1∧ifB (lo1q28 l != lo1q28 l) lo1q29 (SM x∧SM x_1∧(lo1q67 l∧lo1q68 l)∧∀ (y:Unit),True→ifB (lo1q28 l == Z0) (SM x∧(lo1q68 l∧takeE (lo1q33 l) = Z0∧LN l ≤ (2000:Nat))∧∀ (y:Unit),True→True∧chk (true && rowsB (LN (lo1q33 l)) fun (i:Nat) => lo1q69 l i) (True∧chk (true && lo1q25 l) (ifB ((bytesOf (LN (lo1q33 l)) fun (i:Nat) => lo1q69 l i) == lo1q27 l) lo1q21 lo1q29))) (ifB (lo1q28 l == (25:Int)) lo1q21 (ifB (lo1q28 l == (26:Int)) lo1q21 lo1q29))))) (by kernel_rfl) ?_
  delta BI D4 D6 DA DF DK DL LI LN N4 N6 R4 R6 SM U0 Z0 ZB ZI lo1q21 lo1q22 lo1q23 lo1q24 lo1q25 lo1q26 lo1q27 lo1q28 lo1q29 lo1q30 lo1q31 lo1q32 lo1q33 lo1q34 lo1q35 lo1q36 lo1q37 lo1q38 lo1q39 lo1q40 lo1q41 lo1q42 lo1q43 lo1q44 lo1q45 lo1q46 lo1q47 lo1q48 lo1q49 lo1q50 lo1q51 lo1q52 lo1q53 lo1q54 lo1q55 lo1q56 lo1q57 lo1q58 lo1q59 lo1q60 lo1q61 lo1q62 lo1q63 lo1q64 lo1q65 lo1q66 lo1q67 lo1q68 lo1q69
  simp only [eq_self,ne_eq,implies_true,ifB_iff,decide_eq_true_eq,decide_eq_false_iff_not,true_and,and_true,beq_iff_eq,beq_self_eq_true,beq_eq_false_iff_ne,exists_const,forall_const,bytesOf_bsl,rowsB_bsl]
  intro h
  have hl2:l.length ≤ 2000 := by omega
  have h3 := seal_len l
  refine ⟨by omega,by omega,fun x => ⟨by omega,fun x1 _ => ⟨fun e => by simp at e,fun _ => ⟨fun e0 => ⟨⟨e0,hl2⟩,by simp [chk]⟩,fun e0 e1 e2 => ?_⟩⟩⟩⟩
  rcases seal_E hl2 with e | e | e
  · exact (e0 e).elim
  · exact (e1 e).elim
  · exact (e2 e).elim
end Go.Proofs.Ytoglbmhkfkghbaa
