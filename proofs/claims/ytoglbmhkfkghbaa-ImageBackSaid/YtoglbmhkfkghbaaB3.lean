/- Functions of the given program and what each of them computes: lemmas towards the statement, their conditions stated with each of them. -/
import Derived.Test.YtoglbmhkfkghbaaB2
namespace Go.Proofs.Ytoglbmhkfkghbaa
open Go Go.Ab
set_option maxRecDepth 100000
def _root_.Go.Ab.vecIs (dc : D) (cs : List Arr) (S : St) : Prop := match dc with
  | .vs k b len cap w => chk (decide (w = 4)) (len = cs.length ∧ leS ⟨[(k, b, .vec 4 cs.length cap (fun i => (cs.getD i default).row1))], []⟩ S)
  | _ => False
def _root_.Go.Ab.endC1 (p : Option (CodD × List UInt8)) (e : AEnd) (S : St) : Prop :=
  match e with
  | .ret (.agg [dc, df, dk, dl]) => ∃ y : List Arr × CY, p = some (⟨y.1, y.2.1, y.2.2.1, y.2.2.2.1⟩, []) ∧ vecIs dc y.1 S ∧ weakD df (gsl 2 FnD.row y.2.1) ∧ weakD dk (gsl 4 KeD.row y.2.2.1) ∧ weakD dl (gsl 2 LaD.row y.2.2.2.1)
  | .pan d' => (∀ c, p ≠ some (c, [])) ∧ weakD d' brk
  | _ => False
noncomputable def Ec1 (l : List UInt8) : Senv := { EC con0 136 1 [2, 3, 4, 5, 6, 8, 9, 10, 20, 21, 22, 27, 28, 29, 53, 54, 55, 60, 61, 62, 92, 93, 94, 99, 100, 101] (fun id => match id with | 4 => ([0, 1, 2, 3, 4, 5, 6, 7], [3, 4, 5, 7]) | 11 => ([0, 1, 2, 4, 6, 8, 3, 5, 7, 9, 10, 11, 12, 13, 14], [3, 5, 7, 9, 11, 12, 14]) | 20 => ([0, 1, 2, 4, 6, 8, 3, 5, 7, 9, 10, 11, 12, 13, 14], [3, 5, 7, 9, 11, 12, 14]) | 30 => ([0, 1, 2, 4, 6, 8, 10, 12, 3, 5, 7, 9, 11, 13, 14, 15, 16, 17, 18], [3, 5, 7, 9, 11, 13, 15, 16, 18]) | _ => ([], [])) with
  inl := inlB con0 17
  own := fun t => Nat.beq t 27
  gh := fun b => match b with
    | 2 => [.cell 2 201]
    | 4 => [.cell 4 401]
    | 6 => [.cell 2 402]
    | 8 => [.cell 4 401]
    | 10 => [.cell 2 203]
    | 12 => [.cell 4 601]
    | _ => []
  ann2 := fun b env S => match b with
    | 0 => some ({ slots := [9], keep := [0, 2, 3, 8], α := Unit, st := fun _ => ([.int .i64 0], S), inv := fun _ => True, mu := fun _ => natOfR (Ab.look env 8) },
      { slots := [9], keep := [0, 2, 3, 8], α := Nat × (Nat × Nat) × List Arr × List UInt8, st := fun y => ([.int .i64 y.1], ⟨(3, y.2.1.1, .vec 4 y.2.2.1.length y.2.1.2 (fun i => (y.2.2.1.getD i default).row1)) :: setO (putC S.objs 2 0 (.vs 3 y.2.1.1 y.2.2.1.length y.2.1.2 4)) 0 (.cells [bsl y.2.2.2 .any]), []⟩), inv := fun y => LHd (arrP 17) (natOfR (Ab.look env 8)) (rdL S.objs) y.1 y.2.2.1 y.2.2.2 ∧ y.2.2.1.length ≤ y.2.1.2 ∧ y.2.2.2.length ≤ l.length, mu := fun y => natOfR (Ab.look env 8) - y.1 })
    | _ => none
  ann := fun b env S => match b with
    | 2 => some { slots := [21], keep := [0, 2, 3, 20], α := Nat × Nat × List FnD × List UInt8, st := fun y => ([.int .i64 y.1], ⟨setO (putC S.objs 2 1 (.sl 2 y.2.2.1.length (fun i => FnD.row (y.2.2.1.getD i default)) (.tok 0 y.2.1))) 0 (.cells [bsl y.2.2.2 .any]), (0, y.2.1) :: S.toks.tail⟩), inv := fun y => LHd funP (natOfR (Ab.look env 20)) (rdL S.objs) y.1 y.2.2.1 y.2.2.2 ∧ y.2.2.2.length ≤ l.length, mu := fun y => natOfR (Ab.look env 20) - y.1 }
    | 4 => some { slots := [28], keep := [0, 2, 3, 4, 20, 21, 27], α := Nat × Nat × List I4 × List UInt8, st := fun y => ([.int .i64 y.1], ⟨setO (putC S.objs 4 1 (.sl 4 y.2.2.1.length (fun i => I4.row (y.2.2.1.getD i default)) (.tok 1 y.2.1))) 0 (.cells [bsl y.2.2.2 .any]), (1, y.2.1) :: S.toks.tail⟩), inv := fun y => LHd p4 (natOfR (Ab.look env 27)) (rdL S.objs) y.1 y.2.2.1 y.2.2.2 ∧ y.2.2.2.length ≤ l.length, mu := fun y => natOfR (Ab.look env 27) - y.1 }
    | 6 => some { slots := [54], keep := [0, 2, 3, 53], α := Nat × Nat × List KeD × List UInt8, st := fun y => ([.int .i64 y.1], ⟨setO (putC S.objs 2 2 (.sl 4 y.2.2.1.length (fun i => KeD.row (y.2.2.1.getD i default)) (.tok 1 y.2.1))) 0 (.cells [bsl y.2.2.2 .any]), (1, y.2.1) :: S.toks.tail⟩), inv := fun y => LHd kerP (natOfR (Ab.look env 53)) (rdL S.objs) y.1 y.2.2.1 y.2.2.2 ∧ y.2.2.2.length ≤ l.length, mu := fun y => natOfR (Ab.look env 53) - y.1 }
    | 8 => some { slots := [61], keep := [0, 2, 3, 5, 53, 54, 60], α := Nat × Nat × List I4 × List UInt8, st := fun y => ([.int .i64 y.1], ⟨setO (putC S.objs 4 1 (.sl 4 y.2.2.1.length (fun i => I4.row (y.2.2.1.getD i default)) (.tok 2 y.2.1))) 0 (.cells [bsl y.2.2.2 .any]), (2, y.2.1) :: S.toks.tail⟩), inv := fun y => LHd p4 (natOfR (Ab.look env 60)) (rdL S.objs) y.1 y.2.2.1 y.2.2.2 ∧ y.2.2.2.length ≤ l.length, mu := fun y => natOfR (Ab.look env 60) - y.1 }
    | 10 => some { slots := [93], keep := [0, 2, 3, 92], α := Nat × Nat × List LaD × List UInt8, st := fun y => ([.int .i64 y.1], ⟨setO (putC S.objs 2 3 (.sl 2 y.2.2.1.length (fun i => LaD.row (y.2.2.1.getD i default)) (.tok 2 y.2.1))) 0 (.cells [bsl y.2.2.2 .any]), (2, y.2.1) :: S.toks.tail⟩), inv := fun y => LHd lanP (natOfR (Ab.look env 92)) (rdL S.objs) y.1 y.2.2.1 y.2.2.2 ∧ y.2.2.2.length ≤ l.length, mu := fun y => natOfR (Ab.look env 92) - y.1 }
    | 12 => some { slots := [100], keep := [0, 2, 3, 6, 92, 93, 99], α := Nat × Nat × List I6 × List UInt8, st := fun y => ([.int .i64 y.1], ⟨setO (putC S.objs 4 1 (.sl 6 y.2.2.1.length (fun i => I6.row (y.2.2.1.getD i default)) (.tok 3 y.2.1))) 0 (.cells [bsl y.2.2.2 .any]), (3, y.2.1) :: S.toks.tail⟩), inv := fun y => LHd p6 (natOfR (Ab.look env 99)) (rdL S.objs) y.1 y.2.2.1 y.2.2.2 ∧ y.2.2.2.length ≤ l.length, mu := fun y => natOfR (Ab.look env 99) - y.1 }
    | _ => none
  bcut := fun b env S => match b with
    | 4 => some { slots := [], keep := [0, 2, 3, 4, 20, 21], α := List I4 × List UInt8, st := fun y => ([], ⟨setO (putC S.objs 4 1 (gsl 4 I4.row y.1)) 0 (.cells [bsl y.2 .any]), S.toks⟩), inv := fun y => listP p4 (natOfR (Ab.look env 27)) (rdL S.objs) = some (y.1, y.2) ∧ y.2.length ≤ l.length, mu := fun _ => 0 }
    | 8 => some { slots := [], keep := [0, 2, 3, 5, 53, 54], α := List I4 × List UInt8, st := fun y => ([], ⟨setO (putC S.objs 4 1 (gsl 4 I4.row y.1)) 0 (.cells [bsl y.2 .any]), S.toks⟩), inv := fun y => listP p4 (natOfR (Ab.look env 60)) (rdL S.objs) = some (y.1, y.2) ∧ y.2.length ≤ l.length, mu := fun _ => 0 }
    | 12 => some { slots := [], keep := [0, 2, 3, 6, 92, 93], α := List I6 × List UInt8, st := fun y => ([], ⟨setO (putC S.objs 4 1 (gsl 6 I6.row y.1)) 0 (.cells [bsl y.2 .any]), S.toks⟩), inv := fun y => listP p6 (natOfR (Ab.look env 99)) (rdL S.objs) = some (y.1, y.2) ∧ y.2.length ≤ l.length, mu := fun _ => 0 }
    | _ => none }
noncomputable section
def rd6q0 (p0 : List UInt8) (p1 : Nat) : List D := [ZB (BI p0 p1)]
def rd6q1 (p0 : List UInt8) : List UInt8 := bytesOf (LN p0) fun (i : Nat) => rd6q0 p0 i
def rd6q2 (p0 : Nat) (p1 : List UInt8) : Prop := SM p0 ∧ (rowsB (LN p1) fun (i : Nat) => rd6q0 p1 i) = true ∧ LN p1 ≤ (4294967296 : Nat) ∧ (SM p0 ∧ ((LN p1 = LN (rd6q1 p1) ∧ (∀ (i : Nat), i < LN p1 → rd6q0 p1 i = [ZB (BI (rd6q1 p1) i)]) ∧ True) ∧ True) ∧ True) ∧ True
def rd6q3 (p0 : List UInt8) : Option (Nat × List UInt8) := cntP (rd6q1 p0)
def rd6q4 (p0 : List UInt8) (p1 : Nat) (p2 : List UInt8) : Prop := rd6q3 p0 = some (p1, p2)
def rd6q5 (p0 : Nat) (p1 : List UInt8) : Nat × Nat × AObj := (N0, p0, AObj.cells [D.sl N1 (LN p1) (fun (i : Nat) => rd6q0 p1 i) Mode.any])
def rd6q6 : D := D.sl N1 N0 (fun (_x : Nat) => []) Mode.nil
def rd6q7 : List D := [rd6q6]
def rd6q8 : List D := rd6q6 :: rd6q6 :: rd6q7
def rd6q9 (p0 : Nat) : Nat × AObj := (p0, AObj.cells (rd6q6 :: rd6q8))
def rd6q10 (p0 : Nat) : List (Nat × Nat × AObj) := [(N1, rd6q9 p0)]
def rd6q11 (p0 : Nat) (p1 : List UInt8) (p2 p3 : Nat) : St := St.mk (rd6q5 p0 p1 :: (N2, rd6q9 p2) :: rd6q10 p3) []
def rd6q12 (p0 : Nat) : Nat := natOfR (ZI (↑p0 : Int))
def rd6q13 (p0 : Nat) (p1 : List UInt8) (p2 : Nat) (p3 : List Arr) (p4 : List UInt8) (p5 : Nat) (p6 : List UInt8) : Prop := LHd (arrP (17 : Nat)) (rd6q12 p0) (rd6q1 p1) p2 p3 p4 ∧ LN p3 ≤ p5 ∧ LN p4 ≤ LN p6
def rd6q14 (p0 : Nat) : Prop := Z0 = (↑p0 : Int) ∧ True
def rd6q15 : Arr := DA
def rd6q16 (p0 : List Arr) (p1 : Nat) : Arr := List.getD p0 p1 rd6q15
def rd6q17 (p0 : List Arr) (p1 : Nat) : List Int := Arr.sh (rd6q16 p0 p1)
def rd6q18 (p0 : List Arr) (p1 : Nat) : List Int := Arr.nu (rd6q16 p0 p1)
def rd6q19 (p0 : List Arr) (p1 : Nat) : List Arr := Arr.it (rd6q16 p0 p1)
def rd6q20 (p0 : List Arr) (p1 : Nat) : List D := [ZI (Arr.k (rd6q16 p0 p1)), SI (rd6q17 p0 p1), SI (rd6q18 p0 p1), D.sl N4 (LN (rd6q19 p0 p1)) (fun (i : Nat) => Arr.row (List.getD (rd6q19 p0 p1) i rd6q15)) Mode.any]
def rd6q21 (p0 : Nat) (p1 : List Arr) (p2 p3 : Nat) (p4 : List UInt8) (p5 p6 : Nat) : St := St.mk (((3 : Nat), p0, AObj.vec N4 (LN p1) p2 fun (i : Nat) => rd6q20 p1 i) :: rd6q5 p3 p4 :: (N2, p5, AObj.cells (D.vs (3 : Nat) p0 (LN p1) p2 N4 :: rd6q8)) :: rd6q10 p6) []
def rd6q22 (p0 : List UInt8) : Option (Arr × List UInt8) := arrP (17 : Nat) (rd6q1 p0)
def rd6q23 (p0 : List UInt8) (p1 : Arr) (p2 : List UInt8) : Prop := rd6q22 p0 = some (p1, p2)
def rd6q24 (p0 : Nat) : Prop := SM p0 ∧ SM rd6q6
def rd6q25 (p0 p1 p2 p3 : Nat) : Prop := p0 ≠ p1 ∧ p2 ≠ p1 ∧ p3 ≠ p1 ∧ True
def rd6q26 (p0 : Nat) : Prop := SM (D.ref N0 p0 N0)
def rd6q27 (p0 : Nat) : Prop := SM (D.ref N1 p0 N0)
def rd6q28 (p0 : Nat) : Prop := SM (D.ref N2 p0 N0)
def rd6q29 (p0 : Nat) : Prop := SM (ZI (↑p0 : Int))
def rd6q30 (p0 p1 p2 p3 : Nat) : Prop := rd6q26 p0 ∧ rd6q27 p1 ∧ rd6q28 p2 ∧ rd6q29 p3 ∧ True
def rd6q31 (p0 : Arr) (p1 : Nat) : List D := List.getD [[ZI (Arr.k p0), SI (Arr.sh p0), SI (Arr.nu p0), D.sl N4 (LN (Arr.it p0)) (fun (i : Nat) => Arr.row (List.getD (Arr.it p0) i rd6q15)) Mode.any]] p1 []
def rd6q32 (p0 p1 : Nat) (p2 : Arr) (p3 : Nat) (p4 : List UInt8) (p5 p6 : Nat) : St := St.mk (((8 : Nat), p0, AObj.vec N4 N1 p1 fun (i : Nat) => rd6q31 p2 i) :: rd6q5 p3 p4 :: (N2, p5, AObj.cells (D.vs (8 : Nat) p0 N1 p1 N4 :: rd6q8)) :: rd6q10 p6) []
def rd6q33 (p0 p1 : Nat) : Nat := rd6q12 p0 - p1
def rd6q34 (p0 : List UInt8) : Prop := (∀ (c : CodD), codP p0 ≠ some (c, [])) ∧ SM (96 : Nat) ∧ True
def rd6q35 (p0 : List UInt8) : Prop := ∀ (_r : List UInt8), rd6q34 p0
def rd6q36 (p0 p1 : List UInt8) : Prop := rd6q22 p0 = none → rd6q35 p1
def rd6q37 (p0 : Nat) (p1 : List UInt8) (p2 : Nat) (p3 : List FnD) (p4 p5 : List UInt8) : Prop := LHd funP (rd6q12 p0) (rd6q1 p1) p2 p3 p4 ∧ LN p4 ≤ LN p5
def rd6q38 (p0 p1 : List UInt8) : Prop := (LN p0 = LN p1 ∧ (∀ (i : Nat), i < LN p0 → rd6q0 p0 i = rd6q0 p1 i) ∧ True) ∧ True
def rd6q39 : Prop := SM N0 ∧ (∀ (i : Nat), i < N0 → eqOf (List D) [] []) ∧ True
def rd6q40 (p0 : List FnD) (p1 : Nat) : List I4 := FnD.code (List.getD p0 p1 DF)
def rd6q41 : I4 := D4
def rd6q42 (p0 : List FnD) (p1 p2 : Nat) : I4 := List.getD (rd6q40 p0 p1) p2 rd6q41
def rd6q43 (p0 : List FnD) (p1 : Nat) : List D := [ZI (FnD.slots (List.getD p0 p1 DF)), D.sl N4 (LN (rd6q40 p0 p1)) (fun (i : Nat) => (R4 (rd6q42 p0 p1 i))) Mode.any]
def rd6q44 : Prop := rd6q39 ∧ True
def rd6q45 : Prop := rd6q39 ∧ rd6q44
def rd6q46 (p0 : List FnD) (p1 p2 : Nat) : Prop := (N0 = LN p0 ∧ (∀ (i : Nat), i < N0 → eqOf (List D) [] (rd6q43 p0 i)) ∧ p1 = p2) ∧ rd6q45
def rd6q47 (p0 : Nat) : Prop := SM p0 ∧ (rd6q39 ∧ rd6q39 ∧ rd6q45) ∧ True
def rd6q48 (p0 p1 : Nat) : Bool := decide ((↑p0 : Int) < (↑p1 : Int))
def rd6q49 (p0 : List UInt8) : Option (Int × List UInt8) := numP (rd6q1 p0)
def rd6q50 (p0 : List UInt8) (p1 : Int) (p2 : List UInt8) : Prop := rd6q49 p0 = some (p1, p2)
def rd6q51 (p0 : Nat) (p1 : List UInt8) (p2 : List I4) (p3 p4 : List UInt8) : Prop := listP Ytoglbmhkfkghbaa.p4 (rd6q12 p0) (rd6q1 p1) = some (p2, p3) ∧ LN p3 ≤ LN p4
def rd6q52 (p0 p1 p2 : Nat) : Prop := rd6q33 p0 p1 < rd6q33 p0 p2
def rd6q53 (p0 p1 : Nat) : Prop := IntKind.wrap IntKind.i64 ((↑p0 : Int) + Z1) = (↑p1 : Int) ∧ True
def rd6q54 (p0 : Int) (p1 : Nat) : List D := List.getD [ZI p0 :: rd6q7] p1 []
def rd6q55 (p0 : List UInt8) : Prop := rd6q3 p0 = none
def rd6q56 (p0 p1 : List UInt8) : Prop := rd6q55 p0 → rd6q35 p1
def rd6q57 (p0 p1 : List UInt8) : Prop := rd6q49 p0 = none → rd6q35 p1
def rd6q58 (p0 : Nat) (p1 : List UInt8) (p2 : Nat) (p3 : List KeD) (p4 p5 : List UInt8) : Prop := LHd kerP (rd6q12 p0) (rd6q1 p1) p2 p3 p4 ∧ LN p4 ≤ LN p5
def rd6q59 (p0 : List FnD) (p1 : Nat) : Prop := SM (LN p0) ∧ (∀ (i : Nat), i < LN p0 → SM (rd6q43 p0 i)) ∧ SM p1
def rd6q60 (p0 : List KeD) (p1 : Nat) : KeD := List.getD p0 p1 DK
def rd6q61 (p0 : List KeD) (p1 : Nat) : List I4 := KeD.ops (rd6q60 p0 p1)
def rd6q62 (p0 : List KeD) (p1 p2 : Nat) : I4 := List.getD (rd6q61 p0 p1) p2 rd6q41
def rd6q63 (p0 : List KeD) (p1 : Nat) : List D := [ZI (KeD.inputs (rd6q60 p0 p1)), D.sl N4 (LN (rd6q61 p0 p1)) (fun (i : Nat) => (R4 (rd6q62 p0 p1 i))) Mode.any, ZI (KeD.reduce (rd6q60 p0 p1)), ZI (KeD.at_ (rd6q60 p0 p1))]
def rd6q64 (p0 : List FnD) (p1 : Nat) (p2 : List KeD) (p3 p4 : Nat) : Prop := rd6q59 p0 p1 ∧ (N0 = LN p2 ∧ (∀ (i : Nat), i < N0 → eqOf (List D) [] (rd6q63 p2 i)) ∧ p3 = p4) ∧ rd6q44
def rd6q65 (p0 p1 p2 : Nat) : Prop := p0 = p1 ∧ SM p2 ∧ True
def rd6q66 (p0 : Nat) (p1 : List UInt8) (p2 : Nat) (p3 : List LaD) (p4 p5 : List UInt8) : Prop := LHd lanP (rd6q12 p0) (rd6q1 p1) p2 p3 p4 ∧ LN p4 ≤ LN p5
def rd6q67 (p0 : List KeD) (p1 : Nat) : Prop := SM (LN p0) ∧ (∀ (i : Nat), i < LN p0 → SM (rd6q63 p0 i)) ∧ SM p1
def rd6q68 (p0 : List LaD) (p1 : Nat) : List I6 := LaD.code (List.getD p0 p1 DL)
def rd6q69 : I6 := D6
def rd6q70 (p0 : List LaD) (p1 p2 : Nat) : I6 := List.getD (rd6q68 p0 p1) p2 rd6q69
def rd6q71 (p0 : List LaD) (p1 : Nat) : List D := [ZI (LaD.regs (List.getD p0 p1 DL)), D.sl N6 (LN (rd6q68 p0 p1)) (fun (i : Nat) => (R6 (rd6q70 p0 p1 i))) Mode.any]
def rd6q72 (p0 : List FnD) (p1 : Nat) (p2 : List KeD) (p3 : Nat) (p4 : List LaD) (p5 p6 : Nat) : Prop := rd6q59 p0 p1 ∧ rd6q67 p2 p3 ∧ (N0 = LN p4 ∧ (∀ (i : Nat), i < N0 → eqOf (List D) [] (rd6q71 p4 i)) ∧ p5 = p6) ∧ True
def rd6q73 (p0 p1 p2 p3 : Nat) : Prop := p0 = p1 ∧ SM p2 ∧ SM p3 ∧ True
def rd6q74 (p0 : Nat) (p1 : List UInt8) (p2 : List I6) (p3 p4 : List UInt8) : Prop := listP p6 (rd6q12 p0) (rd6q1 p1) = some (p2, p3) ∧ LN p3 ≤ LN p4
def rd6q75 (p0 p1 : List FnD) (p2 p3 : List KeD) (p4 p5 : List LaD) : Prop := (LN p0 = LN p1 ∧ (∀ (i : Nat), i < LN p0 → rd6q43 p0 i = rd6q43 p1 i) ∧ True) ∧ (LN p2 = LN p3 ∧ (∀ (i : Nat), i < LN p2 → rd6q63 p2 i = rd6q63 p3 i) ∧ True) ∧ LN p4 = LN p5 ∧ (∀ (i : Nat), i < LN p4 → rd6q71 p4 i = rd6q71 p5 i) ∧ True
def rd6q76 (p0 : Nat) (p1 : List Arr) (p2 : Nat) (p3 : Arr) (p4 : Nat) (p5 : List UInt8) (p6 p7 : Nat) : St := St.mk (((3 : Nat), p0, AObj.vec N4 (LN p1 + N1) p2 (appF (LN p1) (fun (i : Nat) => rd6q20 p1 i) fun (i : Nat) => rd6q31 p3 i)) :: rd6q5 p4 p5 :: (N2, p6, AObj.cells (D.vs (3 : Nat) p0 (LN p1 + N1) p2 N4 :: rd6q8)) :: rd6q10 p7) []
def rd6q77 (p0 : List Arr) (p1 : Nat) : Prop := SM (LN p0) ∧ SM p1 ∧ ∀ (i : Nat), i < LN p0 → SM (rd6q20 p0 i)
def rd6q78 (p0 : Nat) (p1 : List Arr) (p2 : Nat) : Prop := SM p0 ∧ SM (LN p1) ∧ SM p2
def rd6q79 (p0 : Nat) (p1 : List UInt8) (p2 : Nat) (p3 : List I4) (p4 p5 : List UInt8) : Prop := LHd Ytoglbmhkfkghbaa.p4 (rd6q12 p0) (rd6q1 p1) p2 p3 p4 ∧ LN p4 ≤ LN p5
def rd6q80 (p0 : List I4) (p1 : Nat) : I4 := List.getD p0 p1 rd6q41
def rd6q81 (p0 : List I4) (p1 : Nat) : List D := (R4 (rd6q80 p0 p1))
def rd6q82 (p0 : List I4) (p1 p2 : Nat) : Prop := N0 = LN p0 ∧ (∀ (i : Nat), i < N0 → eqOf (List D) [] (rd6q81 p0 i)) ∧ p1 = p2
def rd6q83 (p0 : Nat) (p1 : List Arr) (p2 p3 : Nat) (p4 : List FnD) (p5 p6 : Nat) : Prop := SM p0 ∧ rd6q77 p1 p2 ∧ SM p3 ∧ (rd6q78 p0 p1 p2 ∧ rd6q59 p4 p5 ∧ rd6q45) ∧ rd6q47 p6
def rd6q84 (p0 : List I4) (p1 : Nat) : D := D.sl N4 (LN p0) (fun (i : Nat) => rd6q81 p0 i) (Mode.tok N1 p1)
def rd6q85 (p0 : Nat) (p1 : List I4) (p2 : Nat) : Prop := SM p0 ∧ SM (rd6q84 p1 p2)
def rd6q86 (p0 : Nat) : Prop := SM (D.ref (max N1 (max ((3 : Nat) + N1) (3 : Nat))) p0 N0)
def rd6q87 (p0 p1 : Nat) : Prop := rd6q29 p0 ∧ rd6q29 p1 ∧ True
def rd6q88 (p0 p1 p2 p3 p4 p5 p6 : Nat) : Prop := rd6q26 p0 ∧ rd6q27 p1 ∧ rd6q28 p2 ∧ rd6q86 p3 ∧ rd6q29 p4 ∧ rd6q87 p5 p6
def rd6q89 (p0 p1 : List I4) (p2 p3 p4 p5 : Int) (p6 p7 : Nat) : Prop := LN p0 + N1 = LN p1 ∧ (∀ (i : Nat), i < LN p0 + N1 → appF (LN p0) (fun (i : Nat) => rd6q81 p0 i) (fun (i : Nat) => List.getD [[ZI p2, ZI p3, ZI p4, ZI p5]] i []) i = rd6q81 p1 i) ∧ p6 = p7
def rd6q90 (p0 p1 p2 p3 p4 p5 : Nat) : Prop := rd6q26 p0 ∧ rd6q27 p1 ∧ rd6q28 p2 ∧ rd6q86 p3 ∧ rd6q87 p4 p5
def rd6q91 (p0 p1 : List I4) : Prop := LN p0 = LN p1 ∧ (∀ (i : Nat), i < LN p0 → rd6q81 p0 i = rd6q81 p1 i) ∧ True
def rd6q92 (p0 : List I4) : D := D.sl N4 (LN p0) (fun (i : Nat) => rd6q81 p0 i) Mode.any
def rd6q93 : Prop := SM Z0 ∧ SM Z0 ∧ True
def rd6q94 (p0 : Nat) (p1 : List Arr) (p2 p3 : Nat) (p4 : List FnD) (p5 : Nat) (p6 : List KeD) (p7 p8 : Nat) : Prop := SM p0 ∧ rd6q77 p1 p2 ∧ SM p3 ∧ (rd6q78 p0 p1 p2 ∧ rd6q59 p4 p5 ∧ rd6q67 p6 p7 ∧ rd6q44) ∧ rd6q47 p8
def rd6q95 (p0 : List I4) (p1 : Nat) : D := D.sl N4 (LN p0) (fun (i : Nat) => rd6q81 p0 i) (Mode.tok N2 p1)
def rd6q96 (p0 : Nat) (p1 : List I4) (p2 : Nat) : Prop := SM p0 ∧ SM (rd6q95 p1 p2)
def rd6q97 (p0 : Nat) (p1 : List UInt8) (p2 : Nat) (p3 : List I6) (p4 p5 : List UInt8) : Prop := LHd p6 (rd6q12 p0) (rd6q1 p1) p2 p3 p4 ∧ LN p4 ≤ LN p5
def rd6q98 (p0 : List I6) (p1 : Nat) : I6 := List.getD p0 p1 rd6q69
def rd6q99 (p0 : List I6) (p1 : Nat) : List D := (R6 (rd6q98 p0 p1))
def rd6q100 (p0 : Nat) (p1 : List Arr) (p2 p3 : Nat) (p4 : List FnD) (p5 : Nat) (p6 : List KeD) (p7 : Nat) (p8 : List LaD) (p9 p10 : Nat) : Prop := SM p0 ∧ rd6q77 p1 p2 ∧ SM p3 ∧ (rd6q78 p0 p1 p2 ∧ rd6q59 p4 p5 ∧ rd6q67 p6 p7 ∧ (SM (LN p8) ∧ (∀ (i : Nat), i < LN p8 → SM (rd6q71 p8 i)) ∧ SM p9) ∧ True) ∧ rd6q47 p10
def rd6q101 (p0 : List I6) (p1 : Nat) : D := D.sl N6 (LN p0) (fun (i : Nat) => rd6q99 p0 i) (Mode.tok (3 : Nat) p1)
def rd6q102 (p0 : Nat) (p1 : List I6) (p2 : Nat) : Prop := SM p0 ∧ SM (rd6q101 p1 p2)
end
theorem rc1 (x n : Nat) (l r1 : List UInt8) (hl : l.length ≤ 4294967296) (hn : cntP l = some (n + 1, r1)) :
    ACalls Try.prog 49 [.ref 0 x 0] (bS x l) (endC1 (codP l)) := by
  refine call_of (E := Ec1 l) (erOk con0_ok (inlB_ok con0_ok (rarr_rd 17 (by omega))) rfl) Try.func49 rfl (by kernel_rfl) rfl (by simp [Ec1, EC, E0]) ?_
  refine vc_eq (T :=
    ∀ (x_1 : Nat), x ≠ x_1 ∧ True → ∀ (x_2 : Nat), x_1 ≠ x_2 ∧ x ≠ x_2 ∧ True → rd6q2 x l ∧ (∀ (a : Nat) (r : List UInt8), rd6q4 l a r → ((∃ (x_3 : Unit), True ∧ True ∧ (SM Z0 ∧ True) ∧ StTo (rd6q11 x r x_2 x_1) (rd6q11 x r x_2 x_1)) ∨ ∃ (x_3 : Nat × (Nat × Nat) × List Arr × List UInt8), rd6q13 a r x_3.1 x_3.2.2.1 x_3.2.2.2 x_3.2.1.2 l ∧ True ∧ rd6q14 x_3.1 ∧ StTo (rd6q11 x r x_2 x_1) (rd6q21 x_3.2.1.1 x_3.2.2.1 x_3.2.1.2 x x_3.2.2.2 x_2 x_1)) ∧ (∀ (x_3 : Unit), True → ifB (decide (Z0 < (↑a : Int))) (SM x_2 ∧ SM Z0 ∧ rd6q2 x r ∧ (∀ (a_3 : Arr) (r_1 : List UInt8), rd6q23 r a_3 r_1 → rd6q24 x_2 ∧ rd6q24 x_2 ∧ ∀ (y cap' : Nat), rd6q25 x y x_2 x_1 → N1 ≤ cap' → SM x_2 ∧ rd6q30 x x_1 x_2 a ∧ ((∃ (x_4 : Unit), True ∧ rd6q12 a < rd6q12 a ∧ (Z1 = Z0 ∧ True) ∧ StTo (rd6q32 y cap' a_3 x r_1 x_2 x_1) (rd6q11 x r x_2 x_1)) ∨ ∃ (x_4 : Nat × (Nat × Nat) × List Arr × List UInt8), rd6q13 a r x_4.1 x_4.2.2.1 x_4.2.2.2 x_4.2.1.2 l ∧ rd6q33 a x_4.1 < rd6q12 a ∧ (Z1 = (NI x_4.1) ∧ True) ∧ StTo (rd6q32 y cap' a_3 x r_1 x_2 x_1) (rd6q21 x_4.2.1.1 x_4.2.2.1 x_4.2.1.2 x x_4.2.2.2 x_2 x_1))) ∧ rd6q36 r l) (rd6q2 x r ∧ (∀ (a : Nat) (r_1 : List UInt8), rd6q4 r a r_1 → ∀ (t : Nat), (∃ (x_4 : Nat × Nat × List FnD × List UInt8), rd6q37 a r_1 x_4.1 x_4.2.2.1 x_4.2.2.2 l ∧ rd6q14 x_4.1 ∧ (SM x ∧ rd6q38 r_1 x_4.2.2.2 ∧ SM x_2 ∧ (rd6q39 ∧ rd6q46 x_4.2.2.1 t x_4.2.1) ∧ rd6q47 x_1) ∧ t = x_4.2.1 ∧ True) ∧ ∀ (x_4 : Nat × Nat × List FnD × List UInt8), rd6q37 a r_1 x_4.1 x_4.2.2.1 x_4.2.2.2 l → ifB (rd6q48 x_4.1 a) (rd6q2 x x_4.2.2.2 ∧ (∀ (a_5 : Int) (r : List UInt8), rd6q50 x_4.2.2.2 a_5 r → ∀ (x_5 : Nat), rd6q25 x x_5 x_2 x_1 → SM x_5 ∧ rd6q2 x r ∧ (∀ (a_8 : Nat) (r_2 : List UInt8), rd6q4 r a_8 r_2 → False ∧ ∀ (x_6 : List I4 × List UInt8), rd6q51 a_8 r_2 x_6.1 x_6.2 l → SM x_2 ∧ SM x_5 ∧ SM x_4.2.1 ∧ side ((LN x_4.2.2.1 + N1) * (32 : Nat) ≤ (140737488355328 : Nat) ∧ LN x_4.2.2.1 + N1 ≤ (9223372036854775807 : Nat)) (∀ (t : Nat), SM x_2 ∧ rd6q30 x x_1 x_2 a ∧ ∃ (y : Nat × Nat × List FnD × List UInt8), rd6q37 a r_1 y.1 y.2.2.1 y.2.2.2 l ∧ rd6q52 a y.1 x_4.1 ∧ rd6q53 x_4.1 y.1 ∧ (SM x ∧ rd6q38 x_6.2 y.2.2.2 ∧ SM x_2 ∧ (rd6q39 ∧ (LN x_4.2.2.1 + N1 = LN y.2.2.1 ∧ (∀ (i : Nat), i < LN x_4.2.2.1 + N1 → appF (LN x_4.2.2.1) (fun (i : Nat) => rd6q43 x_4.2.2.1 i) (fun (i : Nat) => rd6q54 a_5 i) i = rd6q43 y.2.2.1 i) ∧ t = y.2.1) ∧ rd6q45) ∧ rd6q47 x_1) ∧ t = y.2.1 ∧ True)) ∧ rd6q56 r l) ∧ rd6q57 x_4.2.2.2 l) (rd6q2 x x_4.2.2.2 ∧ (∀ (a : Nat) (r : List UInt8), rd6q4 x_4.2.2.2 a r → ∀ (t : Nat), (∃ (x_5 : Nat × Nat × List KeD × List UInt8), rd6q58 a r x_5.1 x_5.2.2.1 x_5.2.2.2 l ∧ rd6q14 x_5.1 ∧ (SM x ∧ rd6q38 r x_5.2.2.2 ∧ SM x_2 ∧ (rd6q39 ∧ rd6q64 x_4.2.2.1 x_4.2.1 x_5.2.2.1 t x_5.2.1) ∧ rd6q47 x_1) ∧ rd6q65 t x_5.2.1 x_4.2.1) ∧ ∀ (x_5 : Nat × Nat × List KeD × List UInt8), rd6q58 a r x_5.1 x_5.2.2.1 x_5.2.2.2 l → ifB (rd6q48 x_5.1 a) (rd6q2 x x_5.2.2.2 ∧ (∀ (a_7 : Int) (r_2 : List UInt8), rd6q50 x_5.2.2.2 a_7 r_2 → ∀ (x_6 : Nat), rd6q25 x x_6 x_2 x_1 → SM x_6 ∧ rd6q2 x r_2 ∧ (∀ (a_10 : Nat) (r_3 : List UInt8), rd6q4 r_2 a_10 r_3 → False ∧ ∀ (x_7 : List I4 × List UInt8), rd6q51 a_10 r_3 x_7.1 x_7.2 l → rd6q2 x x_7.2 ∧ (∀ (a_13 : Int) (r_4 : List UInt8), rd6q50 x_7.2 a_13 r_4 → rd6q2 x r_4 ∧ (∀ (a_15 : Int) (r_5 : List UInt8), rd6q50 r_4 a_15 r_5 → SM x_6 ∧ SM x_6 ∧ SM x_2 ∧ SM x_6 ∧ SM x_5.2.1 ∧ side ((LN x_5.2.2.1 + N1) * (48 : Nat) ≤ (140737488355328 : Nat) ∧ LN x_5.2.2.1 + N1 ≤ (9223372036854775807 : Nat)) (∀ (t : Nat), SM x_2 ∧ rd6q30 x x_1 x_2 a ∧ ∃ (y : Nat × Nat × List KeD × List UInt8), rd6q58 a r y.1 y.2.2.1 y.2.2.2 l ∧ rd6q52 a y.1 x_5.1 ∧ rd6q53 x_5.1 y.1 ∧ (SM x ∧ rd6q38 r_5 y.2.2.2 ∧ SM x_2 ∧ (rd6q39 ∧ rd6q59 x_4.2.2.1 x_4.2.1 ∧ (LN x_5.2.2.1 + N1 = LN y.2.2.1 ∧ (∀ (i : Nat), i < LN x_5.2.2.1 + N1 → appF (LN x_5.2.2.1) (fun (i : Nat) => rd6q63 x_5.2.2.1 i) (fun (i : Nat) => List.getD [[ZI a_7, rd6q6, ZI a_13, ZI a_15]] i []) i = rd6q63 y.2.2.1 i) ∧ t = y.2.1) ∧ rd6q44) ∧ rd6q47 x_1) ∧ rd6q65 t y.2.1 x_4.2.1)) ∧ rd6q57 r_4 l) ∧ rd6q57 x_7.2 l) ∧ rd6q56 r_2 l) ∧ rd6q57 x_5.2.2.2 l) (rd6q2 x x_5.2.2.2 ∧ (∀ (a : Nat) (r : List UInt8), rd6q4 x_5.2.2.2 a r → ∀ (t : Nat), (∃ (x_6 : Nat × Nat × List LaD × List UInt8), rd6q66 a r x_6.1 x_6.2.2.1 x_6.2.2.2 l ∧ rd6q14 x_6.1 ∧ (SM x ∧ rd6q38 r x_6.2.2.2 ∧ SM x_2 ∧ (rd6q39 ∧ rd6q72 x_4.2.2.1 x_4.2.1 x_5.2.2.1 x_5.2.1 x_6.2.2.1 t x_6.2.1) ∧ rd6q47 x_1) ∧ rd6q73 t x_6.2.1 x_5.2.1 x_4.2.1) ∧ ∀ (x_6 : Nat × Nat × List LaD × List UInt8), rd6q66 a r x_6.1 x_6.2.2.1 x_6.2.2.2 l → ifB (rd6q48 x_6.1 a) (rd6q2 x x_6.2.2.2 ∧ (∀ (a_9 : Int) (r_2 : List UInt8), rd6q50 x_6.2.2.2 a_9 r_2 → ∀ (x_7 : Nat), rd6q25 x x_7 x_2 x_1 → SM x_7 ∧ rd6q2 x r_2 ∧ (∀ (a_12 : Nat) (r_3 : List UInt8), rd6q4 r_2 a_12 r_3 → False ∧ ∀ (x_8 : List I6 × List UInt8), rd6q74 a_12 r_3 x_8.1 x_8.2 l → SM x_2 ∧ SM x_7 ∧ SM x_6.2.1 ∧ side ((LN x_6.2.2.1 + N1) * (32 : Nat) ≤ (140737488355328 : Nat) ∧ LN x_6.2.2.1 + N1 ≤ (9223372036854775807 : Nat)) (∀ (t : Nat), SM x_2 ∧ rd6q30 x x_1 x_2 a ∧ ∃ (y : Nat × Nat × List LaD × List UInt8), rd6q66 a r y.1 y.2.2.1 y.2.2.2 l ∧ rd6q52 a y.1 x_6.1 ∧ rd6q53 x_6.1 y.1 ∧ (SM x ∧ rd6q38 x_8.2 y.2.2.2 ∧ SM x_2 ∧ (rd6q39 ∧ rd6q59 x_4.2.2.1 x_4.2.1 ∧ rd6q67 x_5.2.2.1 x_5.2.1 ∧ (LN x_6.2.2.1 + N1 = LN y.2.2.1 ∧ (∀ (i : Nat), i < LN x_6.2.2.1 + N1 → appF (LN x_6.2.2.1) (fun (i : Nat) => rd6q71 x_6.2.2.1 i) (fun (i : Nat) => rd6q54 a_9 i) i = rd6q71 y.2.2.1 i) ∧ t = y.2.1) ∧ True) ∧ rd6q47 x_1) ∧ rd6q73 t y.2.1 x_5.2.1 x_4.2.1)) ∧ rd6q56 r_2 l) ∧ rd6q57 x_6.2.2.2 l) (SM x ∧ ifB (! (LI x_6.2.2.2) == Z0) (rd6q34 l) (True ∧ SM x_2 ∧ SM x_1 ∧ (SM x_1 ∧ True) ∧ ∃ (y : List Arr × CY), codP l = some (CodD.mk y.1 y.2.1 y.2.2.1 y.2.2.2.1, []) ∧ False ∧ rd6q75 x_4.2.2.1 y.2.1 x_5.2.2.1 y.2.2.1 x_6.2.2.1 y.2.2.2.1))) ∧ rd6q56 x_5.2.2.2 l)) ∧ rd6q56 x_4.2.2.2 l)) ∧ rd6q56 r l)) ∧ ∀ (x_3 : Nat × (Nat × Nat) × List Arr × List UInt8), rd6q13 a r x_3.1 x_3.2.2.1 x_3.2.2.2 x_3.2.1.2 l → ifB (rd6q48 x_3.1 a) (SM x_2 ∧ SM Z0 ∧ rd6q2 x x_3.2.2.2 ∧ (∀ (a_3 : Arr) (r_1 : List UInt8), rd6q23 x_3.2.2.2 a_3 r_1 → (SM x_2 ∧ SM (D.vs (3 : Nat) x_3.2.1.1 (LN x_3.2.2.1) x_3.2.1.2 N4)) ∧ (SM x_2 ∧ SM (D.vs (3 : Nat) x_3.2.1.1 (LN x_3.2.2.1) x_3.2.1.2 N4)) ∧ SM x_3.2.1.1 ∧ SM x_3.2.1.2 ∧ side (LN x_3.2.2.1 ≤ LN x_3.2.2.1 ∧ (LN x_3.2.2.1 + N1) * (80 : Nat) ≤ (140737488355328 : Nat) ∧ LN x_3.2.2.1 + N1 ≤ (9223372036854775807 : Nat)) (∀ (y cap' : Nat), LN x_3.2.2.1 + N1 ≤ cap' → SM x_2 ∧ rd6q30 x x_1 x_2 a ∧ ((∃ (x_4 : Unit), True ∧ rd6q12 a < rd6q33 a x_3.1 ∧ (IntKind.wrap IntKind.i64 ((NI x_3.1) + Z1) = Z0 ∧ True) ∧ StTo (rd6q76 y x_3.2.2.1 cap' a_3 x r_1 x_2 x_1) (rd6q11 x r x_2 x_1)) ∨ ∃ (x_4 : Nat × (Nat × Nat) × List Arr × List UInt8), rd6q13 a r x_4.1 x_4.2.2.1 x_4.2.2.2 x_4.2.1.2 l ∧ rd6q52 a x_4.1 x_3.1 ∧ rd6q53 x_3.1 x_4.1 ∧ StTo (rd6q76 y x_3.2.2.1 cap' a_3 x r_1 x_2 x_1) (rd6q21 x_4.2.1.1 x_4.2.2.1 x_4.2.1.2 x x_4.2.2.2 x_2 x_1)))) ∧ rd6q36 x_3.2.2.2 l) (rd6q2 x x_3.2.2.2 ∧ (∀ (a : Nat) (r : List UInt8), rd6q4 x_3.2.2.2 a r → ∀ (t : Nat), (∃ (x_4 : Nat × Nat × List FnD × List UInt8), rd6q37 a r x_4.1 x_4.2.2.1 x_4.2.2.2 l ∧ rd6q14 x_4.1 ∧ (SM x ∧ rd6q38 r x_4.2.2.2 ∧ SM x_3.2.1.1 ∧ rd6q77 x_3.2.2.1 x_3.2.1.2 ∧ SM x_2 ∧ (rd6q78 x_3.2.1.1 x_3.2.2.1 x_3.2.1.2 ∧ rd6q46 x_4.2.2.1 t x_4.2.1) ∧ rd6q47 x_1) ∧ t = x_4.2.1 ∧ True) ∧ ∀ (x_4 : Nat × Nat × List FnD × List UInt8), rd6q37 a r x_4.1 x_4.2.2.1 x_4.2.2.2 l → ifB (rd6q48 x_4.1 a) (rd6q2 x x_4.2.2.2 ∧ (∀ (a_5 : Int) (r_1 : List UInt8), rd6q50 x_4.2.2.2 a_5 r_1 → ∀ (x_5 : Nat), x ≠ x_5 ∧ rd6q25 x_3.2.1.1 x_5 x_2 x_1 → SM x_5 ∧ rd6q2 x r_1 ∧ (∀ (a_8 : Nat) (r_2 : List UInt8), rd6q4 r_1 a_8 r_2 → (∀ (t : Nat), (∃ (x_6 : Nat × Nat × List I4 × List UInt8), rd6q79 a_8 r_2 x_6.1 x_6.2.2.1 x_6.2.2.2 l ∧ rd6q14 x_6.1 ∧ (SM x ∧ rd6q38 r_2 x_6.2.2.2 ∧ SM x_5 ∧ (SM a_5 ∧ rd6q82 x_6.2.2.1 t x_6.2.1 ∧ True) ∧ rd6q83 x_3.2.1.1 x_3.2.2.1 x_3.2.1.2 x_2 x_4.2.2.1 x_4.2.1 x_1) ∧ rd6q65 t x_6.2.1 x_4.2.1) ∧ ∀ (x_6 : Nat × Nat × List I4 × List UInt8), rd6q79 a_8 r_2 x_6.1 x_6.2.2.1 x_6.2.2.2 l → ifB (rd6q48 x_6.1 a_8) (SM x_5 ∧ rd6q2 x x_6.2.2.2 ∧ (∀ (a_11 : Int) (r : List UInt8), rd6q50 x_6.2.2.2 a_11 r → rd6q85 x_5 x_6.2.2.1 x_6.2.1 ∧ rd6q2 x r ∧ (∀ (a_13 : Int) (r_3 : List UInt8), rd6q50 r a_13 r_3 → rd6q85 x_5 x_6.2.2.1 x_6.2.1 ∧ rd6q2 x r_3 ∧ (∀ (a_15 : Int) (r : List UInt8), rd6q50 r_3 a_15 r → rd6q85 x_5 x_6.2.2.1 x_6.2.1 ∧ rd6q2 x r ∧ (∀ (a_17 : Int) (r_4 : List UInt8), rd6q50 r a_17 r_4 → rd6q85 x_5 x_6.2.2.1 x_6.2.1 ∧ rd6q85 x_5 x_6.2.2.1 x_6.2.1 ∧ SM x_6.2.1 ∧ side ((LN x_6.2.2.1 + N1) * (32 : Nat) ≤ (140737488355328 : Nat) ∧ LN x_6.2.2.1 + N1 ≤ (9223372036854775807 : Nat)) (∀ (t : Nat), SM x_5 ∧ rd6q88 x x_1 x_2 x_5 a x_4.1 a_8 ∧ ∃ (y : Nat × Nat × List I4 × List UInt8), rd6q79 a_8 r_2 y.1 y.2.2.1 y.2.2.2 l ∧ rd6q52 a_8 y.1 x_6.1 ∧ rd6q53 x_6.1 y.1 ∧ (SM x ∧ rd6q38 r_4 y.2.2.2 ∧ SM x_5 ∧ (SM a_5 ∧ rd6q89 x_6.2.2.1 y.2.2.1 a_11 a_13 a_15 a_17 t y.2.1 ∧ True) ∧ rd6q83 x_3.2.1.1 x_3.2.2.1 x_3.2.1.2 x_2 x_4.2.2.1 x_4.2.1 x_1) ∧ rd6q65 t y.2.1 x_4.2.1)) ∧ rd6q57 r l) ∧ rd6q57 r_3 l) ∧ rd6q57 r l) ∧ rd6q57 x_6.2.2.2 l) (rd6q90 x x_1 x_2 x_5 a x_4.1 ∧ ∃ (x_7 : List I4 × List UInt8), rd6q51 a_8 r_2 x_7.1 x_7.2 l ∧ True ∧ (SM x ∧ rd6q38 x_6.2.2.2 x_7.2 ∧ SM x_5 ∧ (SM a_5 ∧ rd6q91 x_6.2.2.1 x_7.1 ∧ True) ∧ rd6q83 x_3.2.1.1 x_3.2.2.1 x_3.2.1.2 x_2 x_4.2.2.1 x_4.2.1 x_1) ∧ SM x_4.2.1 ∧ True)) ∧ ∀ (x_6 : List I4 × List UInt8), rd6q51 a_8 r_2 x_6.1 x_6.2 l → SM x_2 ∧ SM x_5 ∧ SM x_4.2.1 ∧ side ((LN x_4.2.2.1 + N1) * (32 : Nat) ≤ (140737488355328 : Nat) ∧ LN x_4.2.2.1 + N1 ≤ (9223372036854775807 : Nat)) (∀ (t : Nat), SM x_2 ∧ rd6q30 x x_1 x_2 a ∧ ∃ (y : Nat × Nat × List FnD × List UInt8), rd6q37 a r y.1 y.2.2.1 y.2.2.2 l ∧ rd6q52 a y.1 x_4.1 ∧ rd6q53 x_4.1 y.1 ∧ (SM x ∧ rd6q38 x_6.2 y.2.2.2 ∧ SM x_3.2.1.1 ∧ rd6q77 x_3.2.2.1 x_3.2.1.2 ∧ SM x_2 ∧ (rd6q78 x_3.2.1.1 x_3.2.2.1 x_3.2.1.2 ∧ (LN x_4.2.2.1 + N1 = LN y.2.2.1 ∧ (∀ (i : Nat), i < LN x_4.2.2.1 + N1 → appF (LN x_4.2.2.1) (fun (i : Nat) => rd6q43 x_4.2.2.1 i) (fun (i : Nat) => List.getD [[ZI a_5, rd6q92 x_6.1]] i []) i = rd6q43 y.2.2.1 i) ∧ t = y.2.1) ∧ rd6q45) ∧ rd6q47 x_1) ∧ t = y.2.1 ∧ True)) ∧ rd6q56 r_1 l) ∧ rd6q57 x_4.2.2.2 l) (rd6q2 x x_4.2.2.2 ∧ (∀ (a : Nat) (r : List UInt8), rd6q4 x_4.2.2.2 a r → ∀ (t : Nat), (∃ (x_5 : Nat × Nat × List KeD × List UInt8), rd6q58 a r x_5.1 x_5.2.2.1 x_5.2.2.2 l ∧ rd6q14 x_5.1 ∧ (SM x ∧ rd6q38 r x_5.2.2.2 ∧ SM x_3.2.1.1 ∧ rd6q77 x_3.2.2.1 x_3.2.1.2 ∧ SM x_2 ∧ (rd6q78 x_3.2.1.1 x_3.2.2.1 x_3.2.1.2 ∧ rd6q64 x_4.2.2.1 x_4.2.1 x_5.2.2.1 t x_5.2.1) ∧ rd6q47 x_1) ∧ rd6q65 t x_5.2.1 x_4.2.1) ∧ ∀ (x_5 : Nat × Nat × List KeD × List UInt8), rd6q58 a r x_5.1 x_5.2.2.1 x_5.2.2.2 l → ifB (rd6q48 x_5.1 a) (rd6q2 x x_5.2.2.2 ∧ (∀ (a_7 : Int) (r_1 : List UInt8), rd6q50 x_5.2.2.2 a_7 r_1 → ∀ (x_6 : Nat), x ≠ x_6 ∧ rd6q25 x_3.2.1.1 x_6 x_2 x_1 → SM x_6 ∧ rd6q2 x r_1 ∧ (∀ (a_10 : Nat) (r_2 : List UInt8), rd6q4 r_1 a_10 r_2 → (∀ (t : Nat), (∃ (x_7 : Nat × Nat × List I4 × List UInt8), rd6q79 a_10 r_2 x_7.1 x_7.2.2.1 x_7.2.2.2 l ∧ rd6q14 x_7.1 ∧ (SM x ∧ rd6q38 r_2 x_7.2.2.2 ∧ SM x_6 ∧ (SM a_7 ∧ rd6q82 x_7.2.2.1 t x_7.2.1 ∧ rd6q93) ∧ rd6q94 x_3.2.1.1 x_3.2.2.1 x_3.2.1.2 x_2 x_4.2.2.1 x_4.2.1 x_5.2.2.1 x_5.2.1 x_1) ∧ rd6q73 t x_7.2.1 x_5.2.1 x_4.2.1) ∧ ∀ (x_7 : Nat × Nat × List I4 × List UInt8), rd6q79 a_10 r_2 x_7.1 x_7.2.2.1 x_7.2.2.2 l → ifB (rd6q48 x_7.1 a_10) (SM x_6 ∧ rd6q2 x x_7.2.2.2 ∧ (∀ (a_13 : Int) (r : List UInt8), rd6q50 x_7.2.2.2 a_13 r → rd6q96 x_6 x_7.2.2.1 x_7.2.1 ∧ rd6q2 x r ∧ (∀ (a_15 : Int) (r_3 : List UInt8), rd6q50 r a_15 r_3 → rd6q96 x_6 x_7.2.2.1 x_7.2.1 ∧ rd6q2 x r_3 ∧ (∀ (a_17 : Int) (r : List UInt8), rd6q50 r_3 a_17 r → rd6q96 x_6 x_7.2.2.1 x_7.2.1 ∧ rd6q2 x r ∧ (∀ (a_19 : Int) (r_4 : List UInt8), rd6q50 r a_19 r_4 → rd6q96 x_6 x_7.2.2.1 x_7.2.1 ∧ rd6q96 x_6 x_7.2.2.1 x_7.2.1 ∧ SM x_7.2.1 ∧ side ((LN x_7.2.2.1 + N1) * (32 : Nat) ≤ (140737488355328 : Nat) ∧ LN x_7.2.2.1 + N1 ≤ (9223372036854775807 : Nat)) (∀ (t : Nat), SM x_6 ∧ rd6q88 x x_1 x_2 x_6 a x_5.1 a_10 ∧ ∃ (y : Nat × Nat × List I4 × List UInt8), rd6q79 a_10 r_2 y.1 y.2.2.1 y.2.2.2 l ∧ rd6q52 a_10 y.1 x_7.1 ∧ rd6q53 x_7.1 y.1 ∧ (SM x ∧ rd6q38 r_4 y.2.2.2 ∧ SM x_6 ∧ (SM a_7 ∧ rd6q89 x_7.2.2.1 y.2.2.1 a_13 a_15 a_17 a_19 t y.2.1 ∧ rd6q93) ∧ rd6q94 x_3.2.1.1 x_3.2.2.1 x_3.2.1.2 x_2 x_4.2.2.1 x_4.2.1 x_5.2.2.1 x_5.2.1 x_1) ∧ rd6q73 t y.2.1 x_5.2.1 x_4.2.1)) ∧ rd6q57 r l) ∧ rd6q57 r_3 l) ∧ rd6q57 r l) ∧ rd6q57 x_7.2.2.2 l) (rd6q90 x x_1 x_2 x_6 a x_5.1 ∧ ∃ (x_8 : List I4 × List UInt8), rd6q51 a_10 r_2 x_8.1 x_8.2 l ∧ True ∧ (SM x ∧ rd6q38 x_7.2.2.2 x_8.2 ∧ SM x_6 ∧ (SM a_7 ∧ rd6q91 x_7.2.2.1 x_8.1 ∧ rd6q93) ∧ rd6q94 x_3.2.1.1 x_3.2.2.1 x_3.2.1.2 x_2 x_4.2.2.1 x_4.2.1 x_5.2.2.1 x_5.2.1 x_1) ∧ SM x_5.2.1 ∧ SM x_4.2.1 ∧ True)) ∧ ∀ (x_7 : List I4 × List UInt8), rd6q51 a_10 r_2 x_7.1 x_7.2 l → rd6q2 x x_7.2 ∧ (∀ (a_13 : Int) (r_3 : List UInt8), rd6q50 x_7.2 a_13 r_3 → rd6q2 x r_3 ∧ (∀ (a_15 : Int) (r_4 : List UInt8), rd6q50 r_3 a_15 r_4 → SM x_6 ∧ SM x_6 ∧ SM x_2 ∧ SM x_6 ∧ SM x_5.2.1 ∧ side ((LN x_5.2.2.1 + N1) * (48 : Nat) ≤ (140737488355328 : Nat) ∧ LN x_5.2.2.1 + N1 ≤ (9223372036854775807 : Nat)) (∀ (t : Nat), SM x_2 ∧ rd6q30 x x_1 x_2 a ∧ ∃ (y : Nat × Nat × List KeD × List UInt8), rd6q58 a r y.1 y.2.2.1 y.2.2.2 l ∧ rd6q52 a y.1 x_5.1 ∧ rd6q53 x_5.1 y.1 ∧ (SM x ∧ rd6q38 r_4 y.2.2.2 ∧ SM x_3.2.1.1 ∧ rd6q77 x_3.2.2.1 x_3.2.1.2 ∧ SM x_2 ∧ (rd6q78 x_3.2.1.1 x_3.2.2.1 x_3.2.1.2 ∧ rd6q59 x_4.2.2.1 x_4.2.1 ∧ (LN x_5.2.2.1 + N1 = LN y.2.2.1 ∧ (∀ (i : Nat), i < LN x_5.2.2.1 + N1 → appF (LN x_5.2.2.1) (fun (i : Nat) => rd6q63 x_5.2.2.1 i) (fun (i : Nat) => List.getD [[ZI a_7, rd6q92 x_7.1, ZI a_13, ZI a_15]] i []) i = rd6q63 y.2.2.1 i) ∧ t = y.2.1) ∧ rd6q44) ∧ rd6q47 x_1) ∧ rd6q65 t y.2.1 x_4.2.1)) ∧ rd6q57 r_3 l) ∧ rd6q57 x_7.2 l) ∧ rd6q56 r_1 l) ∧ rd6q57 x_5.2.2.2 l) (rd6q2 x x_5.2.2.2 ∧ (∀ (a : Nat) (r : List UInt8), rd6q4 x_5.2.2.2 a r → ∀ (t : Nat), (∃ (x_6 : Nat × Nat × List LaD × List UInt8), rd6q66 a r x_6.1 x_6.2.2.1 x_6.2.2.2 l ∧ rd6q14 x_6.1 ∧ (SM x ∧ rd6q38 r x_6.2.2.2 ∧ SM x_3.2.1.1 ∧ rd6q77 x_3.2.2.1 x_3.2.1.2 ∧ SM x_2 ∧ (rd6q78 x_3.2.1.1 x_3.2.2.1 x_3.2.1.2 ∧ rd6q72 x_4.2.2.1 x_4.2.1 x_5.2.2.1 x_5.2.1 x_6.2.2.1 t x_6.2.1) ∧ rd6q47 x_1) ∧ rd6q73 t x_6.2.1 x_5.2.1 x_4.2.1) ∧ ∀ (x_6 : Nat × Nat × List LaD × List UInt8), rd6q66 a r x_6.1 x_6.2.2.1 x_6.2.2.2 l → ifB (rd6q48 x_6.1 a) (rd6q2 x x_6.2.2.2 ∧ (∀ (a_9 : Int) (r_1 : List UInt8), rd6q50 x_6.2.2.2 a_9 r_1 → ∀ (x_7 : Nat), x ≠ x_7 ∧ rd6q25 x_3.2.1.1 x_7 x_2 x_1 → SM x_7 ∧ rd6q2 x r_1 ∧ (∀ (a_12 : Nat) (r_2 : List UInt8), rd6q4 r_1 a_12 r_2 → (∀ (t : Nat), (∃ (x_8 : Nat × Nat × List I6 × List UInt8), rd6q97 a_12 r_2 x_8.1 x_8.2.2.1 x_8.2.2.2 l ∧ rd6q14 x_8.1 ∧ (SM x ∧ rd6q38 r_2 x_8.2.2.2 ∧ SM x_7 ∧ (SM a_9 ∧ (N0 = LN x_8.2.2.1 ∧ (∀ (i : Nat), i < N0 → eqOf (List D) [] (rd6q99 x_8.2.2.1 i)) ∧ t = x_8.2.1) ∧ True) ∧ rd6q100 x_3.2.1.1 x_3.2.2.1 x_3.2.1.2 x_2 x_4.2.2.1 x_4.2.1 x_5.2.2.1 x_5.2.1 x_6.2.2.1 x_6.2.1 x_1) ∧ t = x_8.2.1 ∧ SM x_6.2.1 ∧ SM x_5.2.1 ∧ SM x_4.2.1 ∧ True) ∧ ∀ (x_8 : Nat × Nat × List I6 × List UInt8), rd6q97 a_12 r_2 x_8.1 x_8.2.2.1 x_8.2.2.2 l → ifB (rd6q48 x_8.1 a_12) (SM x_7 ∧ rd6q2 x x_8.2.2.2 ∧ (∀ (a_15 : Int) (r : List UInt8), rd6q50 x_8.2.2.2 a_15 r → rd6q102 x_7 x_8.2.2.1 x_8.2.1 ∧ rd6q2 x r ∧ (∀ (a_17 : Int) (r_3 : List UInt8), rd6q50 r a_17 r_3 → rd6q102 x_7 x_8.2.2.1 x_8.2.1 ∧ rd6q2 x r_3 ∧ (∀ (a_19 : Int) (r : List UInt8), rd6q50 r_3 a_19 r → rd6q102 x_7 x_8.2.2.1 x_8.2.1 ∧ rd6q2 x r ∧ (∀ (a_21 : Int) (r_4 : List UInt8), rd6q50 r a_21 r_4 → rd6q102 x_7 x_8.2.2.1 x_8.2.1 ∧ rd6q2 x r_4 ∧ (∀ (a_23 : Int) (r : List UInt8), rd6q50 r_4 a_23 r → rd6q102 x_7 x_8.2.2.1 x_8.2.1 ∧ rd6q2 x r ∧ (∀ (a_25 : Int) (r_5 : List UInt8), rd6q50 r a_25 r_5 → rd6q102 x_7 x_8.2.2.1 x_8.2.1 ∧ rd6q102 x_7 x_8.2.2.1 x_8.2.1 ∧ SM x_8.2.1 ∧ side ((LN x_8.2.2.1 + N1) * (48 : Nat) ≤ (140737488355328 : Nat) ∧ LN x_8.2.2.1 + N1 ≤ (9223372036854775807 : Nat)) (∀ (t : Nat), SM x_7 ∧ rd6q88 x x_1 x_2 x_7 a x_6.1 a_12 ∧ ∃ (y : Nat × Nat × List I6 × List UInt8), rd6q97 a_12 r_2 y.1 y.2.2.1 y.2.2.2 l ∧ rd6q52 a_12 y.1 x_8.1 ∧ rd6q53 x_8.1 y.1 ∧ (SM x ∧ rd6q38 r_5 y.2.2.2 ∧ SM x_7 ∧ (SM a_9 ∧ (LN x_8.2.2.1 + N1 = LN y.2.2.1 ∧ (∀ (i : Nat), i < LN x_8.2.2.1 + N1 → appF (LN x_8.2.2.1) (fun (i : Nat) => rd6q99 x_8.2.2.1 i) (fun (i : Nat) => List.getD [[ZI a_15, ZI a_17, ZI a_19, ZI a_21, ZI a_23, ZI a_25]] i []) i = rd6q99 y.2.2.1 i) ∧ t = y.2.1) ∧ True) ∧ rd6q100 x_3.2.1.1 x_3.2.2.1 x_3.2.1.2 x_2 x_4.2.2.1 x_4.2.1 x_5.2.2.1 x_5.2.1 x_6.2.2.1 x_6.2.1 x_1) ∧ t = y.2.1 ∧ SM x_6.2.1 ∧ SM x_5.2.1 ∧ SM x_4.2.1 ∧ True)) ∧ rd6q57 r l) ∧ rd6q57 r_4 l) ∧ rd6q57 r l) ∧ rd6q57 r_3 l) ∧ rd6q57 r l) ∧ rd6q57 x_8.2.2.2 l) (rd6q90 x x_1 x_2 x_7 a x_6.1 ∧ ∃ (x_9 : List I6 × List UInt8), rd6q74 a_12 r_2 x_9.1 x_9.2 l ∧ True ∧ (SM x ∧ rd6q38 x_8.2.2.2 x_9.2 ∧ SM x_7 ∧ (SM a_9 ∧ (LN x_8.2.2.1 = LN x_9.1 ∧ (∀ (i : Nat), i < LN x_8.2.2.1 → rd6q99 x_8.2.2.1 i = rd6q99 x_9.1 i) ∧ True) ∧ True) ∧ rd6q100 x_3.2.1.1 x_3.2.2.1 x_3.2.1.2 x_2 x_4.2.2.1 x_4.2.1 x_5.2.2.1 x_5.2.1 x_6.2.2.1 x_6.2.1 x_1) ∧ SM x_6.2.1 ∧ SM x_5.2.1 ∧ SM x_4.2.1 ∧ True)) ∧ ∀ (x_8 : List I6 × List UInt8), rd6q74 a_12 r_2 x_8.1 x_8.2 l → SM x_2 ∧ SM x_7 ∧ SM x_6.2.1 ∧ side ((LN x_6.2.2.1 + N1) * (32 : Nat) ≤ (140737488355328 : Nat) ∧ LN x_6.2.2.1 + N1 ≤ (9223372036854775807 : Nat)) (∀ (t : Nat), SM x_2 ∧ rd6q30 x x_1 x_2 a ∧ ∃ (y : Nat × Nat × List LaD × List UInt8), rd6q66 a r y.1 y.2.2.1 y.2.2.2 l ∧ rd6q52 a y.1 x_6.1 ∧ rd6q53 x_6.1 y.1 ∧ (SM x ∧ rd6q38 x_8.2 y.2.2.2 ∧ SM x_3.2.1.1 ∧ rd6q77 x_3.2.2.1 x_3.2.1.2 ∧ SM x_2 ∧ (rd6q78 x_3.2.1.1 x_3.2.2.1 x_3.2.1.2 ∧ rd6q59 x_4.2.2.1 x_4.2.1 ∧ rd6q67 x_5.2.2.1 x_5.2.1 ∧ (LN x_6.2.2.1 + N1 = LN y.2.2.1 ∧ (∀ (i : Nat), i < LN x_6.2.2.1 + N1 → appF (LN x_6.2.2.1) (fun (i : Nat) => rd6q71 x_6.2.2.1 i) (fun (i : Nat) => List.getD [[ZI a_9, D.sl N6 (LN x_8.1) (fun (i : Nat) => rd6q99 x_8.1 i) Mode.any]] i []) i = rd6q71 y.2.2.1 i) ∧ t = y.2.1) ∧ True) ∧ rd6q47 x_1) ∧ rd6q73 t y.2.1 x_5.2.1 x_4.2.1)) ∧ rd6q56 r_1 l) ∧ rd6q57 x_6.2.2.2 l) (SM x ∧ ifB (! (LI x_6.2.2.2) == Z0) (rd6q34 l) (True ∧ SM x_2 ∧ SM x_1 ∧ (SM x_1 ∧ True) ∧ ∃ (y : List Arr × CY), codP l = some (CodD.mk y.1 y.2.1 y.2.2.1 y.2.2.2.1, []) ∧ (LN x_3.2.2.1 = LN y.1 ∧ (SM x_3.2.1.1 ∧ (LN x_3.2.2.1 = LN y.1 ∧ SM x_3.2.1.2 ∧ ∀ (i : Nat), i < LN x_3.2.2.1 → rd6q20 x_3.2.2.1 i = rd6q20 y.1 i) ∧ True) ∧ True) ∧ rd6q75 x_4.2.2.1 y.2.1 x_5.2.2.1 y.2.2.1 x_6.2.2.1 y.2.2.2.1))) ∧ rd6q56 x_5.2.2.2 l)) ∧ rd6q56 x_4.2.2.2 l)) ∧ rd6q56 x_3.2.2.2 l)) ∧ (rd6q55 l → rd6q35 l)) (by kernel_rfl) ?_
  delta BI D4 D6 DA DF DK DL GI LI LN N0 N1 N2 N4 N6 NI R4 R6 SI SM U0 Z0 Z1 ZB ZI rd6q0 rd6q1 rd6q10 rd6q100 rd6q101 rd6q102 rd6q11 rd6q12 rd6q13 rd6q14 rd6q15 rd6q16 rd6q17 rd6q18 rd6q19 rd6q2 rd6q20 rd6q21 rd6q22 rd6q23 rd6q24 rd6q25 rd6q26 rd6q27 rd6q28 rd6q29 rd6q3 rd6q30 rd6q31 rd6q32 rd6q33 rd6q34 rd6q35 rd6q36 rd6q37 rd6q38 rd6q39 rd6q4 rd6q40 rd6q41 rd6q42 rd6q43 rd6q44 rd6q45 rd6q46 rd6q47 rd6q48 rd6q49 rd6q5 rd6q50 rd6q51 rd6q52 rd6q53 rd6q54 rd6q55 rd6q56 rd6q57 rd6q58 rd6q59 rd6q6 rd6q60 rd6q61 rd6q62 rd6q63 rd6q64 rd6q65 rd6q66 rd6q67 rd6q68 rd6q69 rd6q7 rd6q70 rd6q71 rd6q72 rd6q73 rd6q74 rd6q75 rd6q76 rd6q77 rd6q78 rd6q79 rd6q8 rd6q80 rd6q81 rd6q82 rd6q83 rd6q84 rd6q85 rd6q86 rd6q87 rd6q88 rd6q89 rd6q9 rd6q90 rd6q91 rd6q92 rd6q93 rd6q94 rd6q95 rd6q96 rd6q97 rd6q98 rd6q99
  have da : (default : Arr) = Arr.mk 0 [] [] [] := rfl
  have dF : (default : FnD) = ⟨0, []⟩ := rfl
  have dK : (default : KeD) = ⟨0, [], 0, 0⟩ := rfl
  have dL : (default : LaD) = ⟨0, []⟩ := rfl
  have d4 : (default : I4) = ⟨0, 0, 0, 0⟩ := rfl
  have d6 : (default : I6) = ⟨0, 0, 0, 0, 0, 0⟩ := rfl
  simp only [← da, ← dF, ← dK, ← dL, ← d4, ← d6, eq_self, ne_eq, implies_true, Int.toNat_natCast, ifB_iff, side_iff, decide_eq_true_eq, decide_eq_false_iff_not, true_and, and_true, exists_const, forall_const, bytesOf_bsl, rowsB_bsl, natOfR]
  intro x1 _ x2 _
  refine ⟨hl, fun n0 rr0 hn0 => ?_, fun h => by rw [hn] at h; cases h⟩
  rw [hn] at hn0
  injection hn0 with e; injection e with e1 e2
  subst e1 e2
  have hc0 : codP l = bindP (listP (arrP 17) (n + 1) r1) codT := bindP_some hn
  have ler := cntP_ok hn
  have key : ∀ (a : Arr) (i : Nat), i < 1 → ([a.row1] : List (List D)).getD i [] = (([a] : List Arr).getD i default).row1 := fun a i hi => by
    have : i = 0 := by omega
    subst this
    rfl
  refine ⟨.inl (StTo.refl _), ⟨fun _ => ⟨by omega, fun a ra ha b cap' _ hcap => .inr ⟨(1, (b, cap'), [a], ra), ⟨(LHd.init _ _ _).step (by omega) ha, hcap, ?_⟩, by simp only; omega, rfl, StTo.pos ⟨⟨rfl, chk_iff.2 ⟨rfl, rfl, rfl, fun i hi => key a i hi⟩, rfl, weakL_refl _, rfl, ⟨chk_iff.2 ⟨rfl, rfl, rfl, rfl⟩, weakD_refl _, weakD_refl _, weakD_refl _, trivial⟩, rfl, weakL_refl _, trivial⟩, trivial⟩⟩, fun h => noC (hc0.trans (bindP_none ((LHd.init _ _ _).none (by omega) h)))⟩, fun h => absurd h (by omega)⟩, ?_⟩
  · have := arrP_len 17 _ _ ha; simp only at this ⊢; omega
  rintro ⟨i, ⟨b, cap⟩, s, rr⟩ ⟨hL0, hsc, hrr⟩
  simp only at hL0 hsc hrr ⊢
  have hls := hL0.hs
  have hli := hL0.hi
  refine ⟨fun hlt => ⟨by omega, fun a ra ha => ⟨by omega, fun b' cap' hcap => .inr ⟨(i + 1, (b', cap'), s ++ [a], ra), ⟨hL0.step (by omega) ha, by simp only [List.length_append, List.length_cons, List.length_nil]; omega, ?_⟩, by simp only; omega, wrap_i64' (by omega) (by omega), StTo.pos ⟨⟨rfl, chk_iff.2 ⟨rfl, by simp, rfl, fun j hj => app_list Arr.row1 s a rfl hj⟩, rfl, weakL_refl _, rfl, ⟨chk_iff.2 ⟨rfl, rfl, by simp, rfl⟩, weakD_refl _, weakD_refl _, weakD_refl _, trivial⟩, rfl, weakL_refl _, trivial⟩, trivial⟩⟩⟩, fun h => noC (hc0.trans (bindP_none (hL0.none (by omega) h)))⟩, fun hge => ?_⟩
  · have := arrP_len 17 _ _ ha; simp only at this ⊢; omega
  have hcod : codP l = codT s rr := hc0.trans (bindP_some (hL0.done (by omega)))
  clear hL0 hli hge
  refine ⟨by omega, fun n1 r1 hn1 t0 => ⟨⟨(0, t0, [], r1), ⟨LHd.init _ _ _, ?_⟩, rfl, ⟨⟨rfl, fun _ _ => rfl⟩, rfl, fun i hi => absurd hi (Nat.not_lt_zero i), rfl⟩, rfl⟩, ?_⟩, fun h => noC (hcod.trans (bindP_none h))⟩
  · have := cntP_ok hn1; simp only; omega
  have hc1 := hcod.trans (bindP_some hn1)
  have le1 := cntP_ok hn1
  rintro ⟨i, t1, fs, rs⟩ ⟨hL, hrl⟩
  simp only at hL hrl ⊢
  have hsl := hL.hs
  have hi := hL.hi
  refine ⟨fun hlt => ?_, fun hge => ?_⟩
  · have fail : funP rs = none → ∀ c, ¬ codP l = some (c, []) := fun h => noC (hc1.trans (bindP_none (hL.none (by omega) h)))
    refine ⟨by omega, fun sl ra ha _ _ => ⟨by have := num_le ha; omega, fun m rb hm => ⟨fun t2 => ⟨⟨(0, t2, [], rb), ⟨LHd.init _ _ _, ?_⟩, rfl, ⟨⟨rfl, fun _ _ => rfl⟩, rfl, fun i hi => absurd hi (Nat.not_lt_zero i), rfl⟩, rfl⟩, ?_⟩, ?_⟩, fun h => fail ((bindP_some ha).trans (bindP_none h))⟩, fun h => fail (bindP_none h)⟩
    · have := num_le ha; have := cntP_ok hm; simp only; omega
    · have lea := num_le ha
      have lem := cntP_ok hm
      rintro ⟨j, t3, code, r0⟩ ⟨hM, hr0⟩
      simp only at hM hr0 ⊢
      have hms := hM.hs
      have hmi := hM.hi
      refine ⟨fun hjl => ?_, fun hjg => ⟨(code, r0), ⟨hM.done (by omega), hr0⟩, ⟨rfl, fun _ _ => rfl⟩, rfl, fun _ _ => rfl⟩⟩
      have fail2 : p4 r0 = none → ∀ c, ¬ codP l = some (c, []) := fun h => fail ((bindP_some ha).trans ((bindP_some hm).trans (bindP_none (hM.none (by omega) h))))
      refine ⟨by  omega, fun a ra' ha' => ⟨by have := num_le ha'; omega, fun b rb' hb' => ⟨by have := num_le ha'; have := num_le hb'; omega, fun c rc' hc' => ⟨by have := num_le ha'; have := num_le hb'; have := num_le hc'; omega, fun d rd' hd' => ⟨by omega, fun t4 => ?_⟩, fun h => fail2 ((bindP_some ha').trans ((bindP_some hb').trans ((bindP_some hc').trans (bindP_none h))))⟩, fun h => fail2 ((bindP_some ha').trans ((bindP_some hb').trans (bindP_none h)))⟩, fun h => fail2 ((bindP_some ha').trans (bindP_none h))⟩, fun h => fail2 (bindP_none h)⟩
      have hp : p4 r0 = some (⟨a, b, c, d⟩, rd') := (bindP_some ha').trans ((bindP_some hb').trans ((bindP_some hc').trans (bindP_some hd')))
      exact ⟨(j + 1, t4, code ++ [I4.mk a b c d], rd'), ⟨hM.step (by omega) hp, by have := num_le ha'; have := num_le hb'; have := num_le hc'; have := num_le hd'; simp only; omega⟩, by simp only; omega, wrap_i64' (by omega) (by omega), ⟨⟨rfl, fun _ _ => rfl⟩, by simp, fun j hj => app_list I4.row code (I4.mk a b c d) rfl hj, rfl⟩, rfl⟩
    rintro ⟨code, r0⟩ ⟨hmd, hr0⟩
    simp only at hmd hr0 ⊢
    refine ⟨by omega, fun t4 => ?_⟩
    have hp : funP rs = some (⟨sl, code⟩, r0) := (bindP_some ha).trans ((bindP_some hm).trans (bindP_some hmd))
    exact ⟨(i + 1, t4, fs ++ [FnD.mk sl code], r0), ⟨hL.step (by omega) hp, by simp only; omega⟩, by simp only; omega, wrap_i64' (by omega) (by omega), ⟨⟨rfl, fun _ _ => rfl⟩, by simp, fun j hj => app_list FnD.row fs (FnD.mk sl code) rfl hj, rfl⟩, rfl⟩
  have hcd2 := hc1.trans (bindP_some (hL.done (by omega)))
  clear hc1 le1 hL hi hge hsl hn1 i t1 t0 n1
  refine ⟨by omega, fun n1 r1 hn1 t0 => ⟨⟨(0, t0, [], r1), ⟨LHd.init _ _ _, ?_⟩, rfl, ⟨⟨rfl, fun _ _ => rfl⟩, rfl, fun i hi => absurd hi (Nat.not_lt_zero i), rfl⟩, rfl⟩, ?_⟩, fun h => noC (hcd2.trans (bindP_none h))⟩
  · have := cntP_ok hn1; simp only; omega
  have hc1 := hcd2.trans (bindP_some hn1)
  have le1 := cntP_ok hn1
  rintro ⟨i, t1, ks, ru⟩ ⟨hL, hrl⟩
  simp only at hL hrl ⊢
  have hsl := hL.hs
  have hi := hL.hi
  refine ⟨fun hlt => ?_, fun hge => ?_⟩
  · have fail : kerP ru = none → ∀ c, ¬ codP l = some (c, []) := fun h => noC (hc1.trans (bindP_none (hL.none (by omega) h)))
    refine ⟨by omega, fun sl ra ha _ _ => ⟨by have := num_le ha; omega, fun m rb hm => ⟨fun t2 => ⟨⟨(0, t2, [], rb), ⟨LHd.init _ _ _, ?_⟩, rfl, ⟨⟨rfl, fun _ _ => rfl⟩, rfl, fun i hi => absurd hi (Nat.not_lt_zero i), rfl⟩, rfl⟩, ?_⟩, ?_⟩, fun h => fail ((bindP_some ha).trans (bindP_none h))⟩, fun h => fail (bindP_none h)⟩
    · have := num_le ha; have := cntP_ok hm; simp only; omega
    · have lea := num_le ha
      have lem := cntP_ok hm
      rintro ⟨j, t3, code, r0⟩ ⟨hM, hr0⟩
      simp only at hM hr0 ⊢
      have hms := hM.hs
      have hmi := hM.hi
      refine ⟨fun hjl => ?_, fun hjg => ⟨(code, r0), ⟨hM.done (by omega), hr0⟩, ⟨rfl, fun _ _ => rfl⟩, rfl, fun _ _ => rfl⟩⟩
      have fail2 : p4 r0 = none → ∀ c, ¬ codP l = some (c, []) := fun h => fail ((bindP_some ha).trans ((bindP_some hm).trans (bindP_none (hM.none (by omega) h))))
      refine ⟨by  omega, fun a ra' ha' => ⟨by have := num_le ha'; omega, fun b rb' hb' => ⟨by have := num_le ha'; have := num_le hb'; omega, fun c rc' hc' => ⟨by have := num_le ha'; have := num_le hb'; have := num_le hc'; omega, fun d rd' hd' => ⟨by omega, fun t4 => ?_⟩, fun h => fail2 ((bindP_some ha').trans ((bindP_some hb').trans ((bindP_some hc').trans (bindP_none h))))⟩, fun h => fail2 ((bindP_some ha').trans ((bindP_some hb').trans (bindP_none h)))⟩, fun h => fail2 ((bindP_some ha').trans (bindP_none h))⟩, fun h => fail2 (bindP_none h)⟩
      have hp : p4 r0 = some (⟨a, b, c, d⟩, rd') := (bindP_some ha').trans ((bindP_some hb').trans ((bindP_some hc').trans (bindP_some hd')))
      exact ⟨(j + 1, t4, code ++ [I4.mk a b c d], rd'), ⟨hM.step (by omega) hp, by have := num_le ha'; have := num_le hb'; have := num_le hc'; have := num_le hd'; simp only; omega⟩, by simp only; omega, wrap_i64' (by omega) (by omega), ⟨⟨rfl, fun _ _ => rfl⟩, by simp, fun j hj => app_list I4.row code (I4.mk a b c d) rfl hj, rfl⟩, rfl⟩
    rintro ⟨code, r0⟩ ⟨hmd, hr0⟩
    simp only at hmd hr0 ⊢
    refine ⟨by omega, fun re rf hre => ⟨by have := num_le hre; omega, fun at_ rg hat => ⟨by omega, fun t4 => ?_⟩, fun h => fail ((bindP_some ha).trans ((bindP_some hm).trans ((bindP_some hmd).trans ((bindP_some hre).trans (bindP_none h)))))⟩, fun h => fail ((bindP_some ha).trans ((bindP_some hm).trans ((bindP_some hmd).trans (bindP_none h))))⟩
    have hp : kerP ru = some (⟨sl, code, re, at_⟩, rg) := (bindP_some ha).trans ((bindP_some hm).trans ((bindP_some hmd).trans ((bindP_some hre).trans (bindP_some hat))))
    exact ⟨(i + 1, t4, ks ++ [KeD.mk sl code re at_], rg), ⟨hL.step (by omega) hp, by have := num_le hre; have := num_le hat; simp only; omega⟩, by simp only; omega, wrap_i64' (by omega) (by omega), ⟨⟨rfl, fun _ _ => rfl⟩, by simp, fun j hj => app_list KeD.row ks (KeD.mk sl code re at_) rfl hj, rfl⟩, rfl⟩
  have hcd3 := hc1.trans (bindP_some (hL.done (by omega)))
  clear hc1 le1 hL hi hge hsl hn1 i t1 t0 n1
  refine ⟨by omega, fun n1 r1 hn1 t0 => ⟨⟨(0, t0, [], r1), ⟨LHd.init _ _ _, ?_⟩, rfl, ⟨⟨rfl, fun _ _ => rfl⟩, rfl, fun i hi => absurd hi (Nat.not_lt_zero i), rfl⟩, rfl⟩, ?_⟩, fun h => noC (hcd3.trans (bindP_none h))⟩
  · have := cntP_ok hn1; simp only; omega
  have hc1 := hcd3.trans (bindP_some hn1)
  have le1 := cntP_ok hn1
  rintro ⟨i, t1, ls, rv⟩ ⟨hL, hrl⟩
  simp only at hL hrl ⊢
  have hsl := hL.hs
  have hi := hL.hi
  refine ⟨fun hlt => ?_, fun hge => ?_⟩
  · have fail : lanP rv = none → ∀ c, ¬ codP l = some (c, []) := fun h => noC (hc1.trans (bindP_none (hL.none (by omega) h)))
    refine ⟨by omega, fun sl ra ha _ _ => ⟨by have := num_le ha; omega, fun m rb hm => ⟨fun t2 => ⟨⟨(0, t2, [], rb), ⟨LHd.init _ _ _, ?_⟩, rfl, ⟨⟨rfl, fun _ _ => rfl⟩, rfl, fun i hi => absurd hi (Nat.not_lt_zero i), rfl⟩, rfl⟩, ?_⟩, ?_⟩, fun h => fail ((bindP_some ha).trans (bindP_none h))⟩, fun h => fail (bindP_none h)⟩
    · have := num_le ha; have := cntP_ok hm; simp only; omega
    · have lea := num_le ha
      have lem := cntP_ok hm
      rintro ⟨j, t3, code, r0⟩ ⟨hM, hr0⟩
      simp only at hM hr0 ⊢
      have hms := hM.hs
      have hmi := hM.hi
      refine ⟨fun hjl => ?_, fun hjg => ⟨(code, r0), ⟨hM.done (by omega), hr0⟩, ⟨rfl, fun _ _ => rfl⟩, rfl, fun _ _ => rfl⟩⟩
      have fail2 : p6 r0 = none → ∀ c, ¬ codP l = some (c, []) := fun h => fail ((bindP_some ha).trans ((bindP_some hm).trans (bindP_none (hM.none (by omega) h))))
      refine ⟨by  omega, fun a ra' ha' => ⟨by have := num_le ha'; omega, fun b rb' hb' => ⟨by have := num_le ha'; have := num_le hb'; omega, fun c rc' hc' => ⟨by have := num_le ha'; have := num_le hb'; have := num_le hc'; omega, fun d rd' hd' => ⟨by have := num_le ha'; have := num_le hb'; have := num_le hc'; have := num_le hd'; omega, fun e re' he' => ⟨by have := num_le ha'; have := num_le hb'; have := num_le hc'; have := num_le hd'; have := num_le he'; omega, fun f rf' hf' => ⟨by omega, fun t4 => ?_⟩, fun h => fail2 ((bindP_some ha').trans ((bindP_some hb').trans ((bindP_some hc').trans ((bindP_some hd').trans ((bindP_some he').trans (bindP_none h))))))⟩, fun h => fail2 ((bindP_some ha').trans ((bindP_some hb').trans ((bindP_some hc').trans ((bindP_some hd').trans (bindP_none h)))))⟩, fun h => fail2 ((bindP_some ha').trans ((bindP_some hb').trans ((bindP_some hc').trans (bindP_none h))))⟩, fun h => fail2 ((bindP_some ha').trans ((bindP_some hb').trans (bindP_none h)))⟩, fun h => fail2 ((bindP_some ha').trans (bindP_none h))⟩, fun h => fail2 (bindP_none h)⟩
      have hp : p6 r0 = some (⟨a, b, c, d, e, f⟩, rf') := (bindP_some ha').trans ((bindP_some hb').trans ((bindP_some hc').trans ((bindP_some hd').trans ((bindP_some he').trans (bindP_some hf')))))
      exact ⟨(j + 1, t4, code ++ [I6.mk a b c d e f], rf'), ⟨hM.step (by omega) hp, by have := num_le ha'; have := num_le hb'; have := num_le hc'; have := num_le hd'; have := num_le he'; have := num_le hf'; simp only; omega⟩, by simp only; omega, wrap_i64' (by omega) (by omega), ⟨⟨rfl, fun _ _ => rfl⟩, by simp, fun j hj => app_list I6.row code (I6.mk a b c d e f) rfl hj, rfl⟩, rfl⟩
    rintro ⟨code, r0⟩ ⟨hmd, hr0⟩
    simp only at hmd hr0 ⊢
    refine ⟨by omega, fun t4 => ?_⟩
    have hp : lanP rv = some (⟨sl, code⟩, r0) := (bindP_some ha).trans ((bindP_some hm).trans (bindP_some hmd))
    exact ⟨(i + 1, t4, ls ++ [LaD.mk sl code], r0), ⟨hL.step (by omega) hp, by simp only; omega⟩, by simp only; omega, wrap_i64' (by omega) (by omega), ⟨⟨rfl, fun _ _ => rfl⟩, by simp, fun j hj => app_list LaD.row ls (LaD.mk sl code) rfl hj, rfl⟩, rfl⟩
  have hcd4 := hc1.trans (bindP_some (hL.done (by omega)))
  clear hc1 le1 hL hi hge hsl hn1 i t1 t0 n1
  refine ⟨fun h => ?_, fun h => ?_⟩
  · have h : rv ≠ [] := fun e => by simp [e] at h
    intro c e
    rw [hcd4] at e
    injection e with e; injection e with _ e
    exact h e
  · have h : rv = [] := by simpa using h
    subst h
    exact ⟨(s, fs, ks, ls, []), hcd4, ⟨rfl, rfl, fun _ _ => rfl⟩, ⟨rfl, fun _ _ => rfl⟩, ⟨rfl, fun _ _ => rfl⟩, rfl, fun _ _ => rfl⟩
end Go.Proofs.Ytoglbmhkfkghbaa
namespace Go.Proofs.Ytoglbmhkfkghbaa
open Go Go.Ab
set_option maxRecDepth 100000
theorem listP_length {α : Type} {p : List UInt8 → Option (α × List UInt8)} : ∀ (n : Nat) (l : List UInt8) (y : List α × List UInt8), listP p n l = some y → y.1.length = n
  | 0, l, y, h => by rw [listP] at h; injection h with h; subst h; rfl
  | n + 1, l, y, h => by
    rw [listP] at h
    split at h
    · cases h
    · split at h
      · cases h
      · rename_i w hw
        injection h with h; subst h
        simp [listP_length n _ _ hw]
theorem bindP_some' {α β : Type} {p : Option (α × List UInt8)} {f : α → List UInt8 → Option β} {z : β} (h : bindP p f = some z) : ∃ y, p = some y ∧ f y.1 y.2 = some z := by
  cases p with
  | none => cases h
  | some y => exact ⟨y, rfl, h⟩
theorem codT_consts {cs : List Arr} {l : List UInt8} {z : CodD × List UInt8} (h : codT cs l = some z) : z.1.consts = cs := by
  obtain ⟨_, _, h⟩ := bindP_some' h
  obtain ⟨_, _, h⟩ := bindP_some' h
  obtain ⟨_, _, h⟩ := bindP_some' h
  obtain ⟨_, _, h⟩ := bindP_some' h
  obtain ⟨_, _, h⟩ := bindP_some' h
  obtain ⟨_, _, h⟩ := bindP_some' h
  injection h with h; subst h; rfl
theorem codP_consts {l : List UInt8} {z : CodD × List UInt8} (h : codP l = some z) : ∃ n r, cntP l = some (n, r) ∧ z.1.consts.length = n := by
  obtain ⟨y, h1, h⟩ := bindP_some' h
  obtain ⟨w, h2, h⟩ := bindP_some' h
  exact ⟨y.1, y.2, h1, by rw [codT_consts h, listP_length _ _ _ h2]⟩
theorem bodyP_of {l : List UInt8} {c : CodD} (h : codP l = some (c, [])) : bodyP l = some c := by
  unfold bodyP; rw [bindP_some h]; simp
theorem bodyP_some {l : List UInt8} {c : CodD} (h : bodyP l = some c) : codP l = some (c, []) := by
  obtain ⟨y, h1, h⟩ := bindP_some' h
  split at h
  · rename_i e
    injection h with h
    rw [h1, ← h, ← e]
  · cases h
def _root_.Go.Ab.rcX (S : St) (R : AEnd → St → Prop) (k x : Nat) : Prop :=
  match getO S.objs k with
  | some (y, .cells [.sl 1 n f .any]) => (y = x ∧ rowsB n f = true ∧ n ≤ 4294967296 ∧ leS (stK k x (bytesOf n f)) S) ∧
    (∀ c, bodyP (bytesOf n f) = some c → c.consts = [] → R (.ret (.agg [.sl 1 0 (fun _ => []) .nil, gsl 2 FnD.row c.funs, gsl 4 KeD.row c.kers, gsl 2 LaD.row c.lanes])) (S.less (stK k x []))) ∧
    (∀ c, bodyP (bytesOf n f) = some c → c.consts ≠ [] → ∀ b cap, R (.ret (.agg [.vs (nextTag S.objs) b c.consts.length cap 4, gsl 2 FnD.row c.funs, gsl 4 KeD.row c.kers, gsl 2 LaD.row c.lanes])) ((⟨[(nextTag S.objs, b, .vec 4 c.consts.length cap (fun i => (c.consts.getD i default).row1))], []⟩ : St).add (S.less (stK k x [])))) ∧
    (bodyP (bytesOf n f) = none → R (.pan brk) (S.less (stK k x [])))
  | _ => False
theorem rcX_ok {S : St} {R : AEnd → St → Prop} {k x : Nat} (hx : rcX S R k x) : ACalls Try.prog 49 [.ref k x 0] S R := by
  unfold rcX at hx
  split at hx
  · rename_i y n g hg
    obtain ⟨⟨rfl, h1, h2, h3⟩, h4, h5, h6⟩ := hx
    have hl : (bytesOf n g).length ≤ 4294967296 := by simpa [bytesOf] using h2
    generalize hL : bytesOf n g = l at *
    have st : StTo S ((bS y l).add (S.less (stK k y []))) := fun C F w H => (StTo.frame (StTo.pos (S := stK k y l) (S' := bS y l) ⟨⟨rfl, by simp [weakO, weakL, weakD, chk_iff, weakM, bsl], trivial⟩, trivial⟩) _) C F w (H.split h3)
    have wa : weakL [D.ref k y 0] [D.ref 0 y 0] := ⟨by simp [weakD, chk_iff], trivial⟩
    by_cases hn : ∀ n r, cntP l = some (n, r) → n = 0
    · have hc := ACalls.weakArgs (((rc0 y l hl hn).frame (S.less (stK k y []))).from st) wa
      refine hc.weaken ?_
      rintro e S2 ⟨S0, hR, rfl⟩
      have drop : StTo (S0.add (S.less (stK k y []))) (S.less (stK k y [])) := (StTo.frame (StTo.none S0) _).trans (fun C F w H => by simpa [St.add] using H)
      cases e with
      | ret d' =>
        obtain ⟨z, q1, q2⟩ := hR
        exact ⟨.ret _, _, (show weakD d' _ from q2), drop, h4 ⟨[], z.1, z.2.1, z.2.2.1⟩ (bodyP_of q1) rfl⟩
      | pan d' =>
        obtain ⟨q1, q2⟩ := hR
        refine ⟨.pan brk, _, (show weakD d' _ from q2), drop, h6 ?_⟩
        cases hb : bodyP l with
        | none => rfl
        | some c => exact (q1 c (bodyP_some hb)).elim
    · have hn : ∃ n r, cntP l = some (n + 1, r) := by
        cases hc : cntP l with
        | none => exact (hn fun n r h => by rw [hc] at h; cases h).elim
        | some z =>
          obtain ⟨n, r⟩ := z
          cases n with
          | zero => exact (hn fun n r h => by rw [hc] at h; injection h with h; injection h with h; exact h.symm).elim
          | succ n => exact ⟨n, r, rfl⟩
      obtain ⟨n1, r1, hn⟩ := hn
      have hc := ACalls.weakArgs (((rc1 y n1 l r1 hl hn).frame (S.less (stK k y []))).from st) wa
      refine hc.weaken ?_
      rintro e S2 ⟨S0, hR, rfl⟩
      have drop : StTo (S0.add (S.less (stK k y []))) (S.less (stK k y [])) := (StTo.frame (StTo.none S0) _).trans (fun C F w H => by simpa [St.add] using H)
      cases e with
      | ret d' =>
        unfold endC1 at hR
        split at hR
        · rename_i dc df dk dl e
          injection e with e
          subst e
          obtain ⟨z, q1, q2, q3, q4, q5⟩ := hR
          unfold vecIs at q2
          split at q2
          · rename_i k0 b len cap wd
            obtain ⟨w4, e4, q6⟩ := chk_iff.1 q2
            subst e4
            have w4 : wd = 4 := of_decide_eq_true w4
            subst w4
            have hne : z.1 ≠ [] := by
              obtain ⟨n, r, a1, a2⟩ := codP_consts q1
              rw [hn] at a1
              injection a1 with a1; injection a1 with a1 _
              intro e
              simp [e] at a2
              omega
            refine ⟨.ret (.agg [.vs (nextTag S.objs) b z.1.length cap 4, gsl 2 FnD.row z.2.1, gsl 4 KeD.row z.2.2.1, gsl 2 LaD.row z.2.2.2.1]), _, ⟨chk_iff.2 ⟨rfl, rfl, rfl, rfl⟩, q3, q4, q5, trivial⟩, StTo.frame ((leS_to q6).trans (StTo.pos (S := ⟨[(k0, b, .vec 4 z.1.length cap (fun i => (z.1.getD i default).row1))], []⟩) (S' := ⟨[(nextTag S.objs, b, .vec 4 z.1.length cap (fun i => (z.1.getD i default).row1))], []⟩) ⟨⟨rfl, chk_iff.2 ⟨rfl, rfl, rfl, fun _ _ => rfl⟩, trivial⟩, trivial⟩)) _, h5 ⟨z.1, z.2.1, z.2.2.1, z.2.2.2.1⟩ (bodyP_of q1) hne b cap⟩
          · exact q2.elim
        · rename_i e; cases e
        · exact hR.elim
      | pan d' =>
        obtain ⟨q1, q2⟩ := hR
        refine ⟨.pan brk, _, (show weakD d' _ from q2), drop, h6 ?_⟩
        cases hb : bodyP l with
        | none => rfl
        | some c => exact (q1 c (bodyP_some hb)).elim
  · exact hx.elim
noncomputable def _root_.Go.Ab.inlC (con : Con) (k : Nat) (ds : List D) (S : St) (R : AEnd → St → Prop) : Prop :=
  match Nat.beq k 49 with
  | true => match ds with
    | [.ref kx x 0] => rcX S R kx x
    | _ => False
  | false => inlD { E0 con 0 0 [] (fun _ => ([], [])) with auto := true } (frmGet frames) 9 k ds S R
theorem inlC_ok {con : Con} (hc : ConOk Try.prog con) (k : Nat) (ds : List D) (S : St) (R : AEnd → St → Prop) (h : inlC con k ds S R) : ACalls Try.prog k ds S R := by
  unfold inlC at h
  split at h
  · rename_i hk
    have hk := Nat.eq_of_beq_eq_true hk
    subst hk
    split at h
    · exact rcX_ok h
    · exact h.elim
  · exact inlD_ok (E := { E0 con 0 0 [] (fun _ => ([], [])) with auto := true }) tab_ok hc mix frames_ok eqs_ok 9 k ds S R h
theorem door_of {E : Senv} {f : Nat} {A : Frm} {c : Code} {ds : List D} {S : St} {R : AEnd → St → Prop} {fr : Nat → Option Frm} (hE : EnvOk E) (hF : FrmOk E.P fr) (hA : fr f = some A) (hc : A.fn.body = some c) (hl : Nat.ble ds.length A.n = true)
    (h : vcD (E.fit A E.inl) c 0 (inlQ R E.tt A.fn.results.toList) (doorQ (dclE E fr E.inl) R E.tt A.fn.results.toList) (argsEnv 0 ds) S) : ACalls E.P f ds S R := by
  obtain ⟨hT, hC, hm, hi, hQ⟩ := hE
  obtain ⟨q1, q2, q3⟩ := hF f A hA
  exact acalls_door hT q1 hc q3 q2 (Nat.le_of_ble_eq_true hl) (dclE_ok hT hC hm hF hQ hi) (vcD_sound (E := E.fit A E.inl) (fit_ok hT hC hm hQ hi) c 0 _ _ _ _ h)
def _root_.Go.Ab.conIs (dc : D) (cs : List Arr) (S : St) : Prop := match dc with
  | .sl w n _ .nil => cs = [] ∧ w = 1 ∧ n = 0
  | dc => vecIs dc cs S ∧ cs ≠ []
def _root_.Go.Ab.endY (p : Option CodD) (e : AEnd) (S : St) : Prop :=
  match e with
  | .ret (.tup [.agg [dc, df, dk, dl], .int .i64 z]) => (z = 25 → p = none ∧ weakL [dc, df, dk, dl] [.sl 1 0 (fun _ => []) .nil, .sl 1 0 (fun _ => []) .nil, .sl 1 0 (fun _ => []) .nil, .sl 1 0 (fun _ => []) .nil]) ∧
      (z ≠ 25 → z = 0 ∧ ∃ c : CodD, p = some c ∧ weakD df (gsl 2 FnD.row c.funs) ∧ weakD dk (gsl 4 KeD.row c.kers) ∧ weakD dl (gsl 2 LaD.row c.lanes) ∧ conIs dc c.consts S)
  | _ => False
noncomputable def Eby : Senv := { E0 con0 0 0 [] (fun _ => ([], [])) with auto := true, inl := inlC con0 }
noncomputable section
def rd7q0 (p0 : List UInt8) (p1 : Nat) : List D := [ZB (BI p0 p1)]
def rd7q1 (p0 : List UInt8) : List UInt8 := bytesOf (LN p0) fun (i : Nat) => rd7q0 p0 i
def rd7q2 (p0 : List UInt8) : Option CodD := bodyP (rd7q1 p0)
def rd7q3 (p0 : List UInt8) (p1 : CodD) : Prop := rd7q2 p0 = some p1
def rd7q4 (p0 : CodD) : List Arr := CodD.consts p0
def rd7q5 (p0 : List UInt8) : Prop := bodyP p0 = none
def rd7q6 : Prop := SM N0 ∧ (∀ (i : Nat), i < N0 → eqOf (List D) [] []) ∧ True
def rd7q7 (p0 : List UInt8) (p1 : CodD) : Prop := bodyP p0 = some p1
def rd7q8 (p0 : CodD) : Nat := LN (CodD.funs p0)
def rd7q9 (p0 : CodD) (p1 : Nat) : FnD := GF p0 p1
def rd7q10 (p0 : CodD) (p1 : Nat) : List I4 := FnD.code (rd7q9 p0 p1)
def rd7q11 (p0 : CodD) (p1 p2 : Nat) : I4 := G4 (rd7q10 p0 p1) p2
def rd7q12 (p0 : CodD) (p1 : Nat) : List D := [ZI (FnD.slots (rd7q9 p0 p1)), D.sl N4 (LN (rd7q10 p0 p1)) (fun (i : Nat) => (R4 (rd7q11 p0 p1 i))) Mode.any]
def rd7q13 (p0 p1 : CodD) : Prop := rd7q8 p0 = rd7q8 p1 ∧ (∀ (i : Nat), i < rd7q8 p0 → rd7q12 p0 i = rd7q12 p1 i) ∧ True
def rd7q14 (p0 : CodD) : Nat := LN (CodD.kers p0)
def rd7q15 (p0 : CodD) (p1 : Nat) : KeD := GK p0 p1
def rd7q16 (p0 : CodD) (p1 : Nat) : List I4 := KeD.ops (rd7q15 p0 p1)
def rd7q17 (p0 : CodD) (p1 p2 : Nat) : I4 := G4 (rd7q16 p0 p1) p2
def rd7q18 (p0 : CodD) (p1 : Nat) : List D := [ZI (KeD.inputs (rd7q15 p0 p1)), D.sl N4 (LN (rd7q16 p0 p1)) (fun (i : Nat) => (R4 (rd7q17 p0 p1 i))) Mode.any, ZI (KeD.reduce (rd7q15 p0 p1)), ZI (KeD.at_ (rd7q15 p0 p1))]
def rd7q19 (p0 p1 : CodD) : Prop := rd7q14 p0 = rd7q14 p1 ∧ (∀ (i : Nat), i < rd7q14 p0 → rd7q18 p0 i = rd7q18 p1 i) ∧ True
def rd7q20 (p0 : CodD) : Nat := LN (CodD.lanes p0)
def rd7q21 (p0 : CodD) (p1 : Nat) : LaD := GL p0 p1
def rd7q22 (p0 : CodD) (p1 : Nat) : List I6 := LaD.code (rd7q21 p0 p1)
def rd7q23 (p0 : CodD) (p1 p2 : Nat) : I6 := G6 (rd7q22 p0 p1) p2
def rd7q24 (p0 : CodD) (p1 : Nat) : List D := [ZI (LaD.regs (rd7q21 p0 p1)), D.sl N6 (LN (rd7q22 p0 p1)) (fun (i : Nat) => (R6 (rd7q23 p0 p1 i))) Mode.any]
def rd7q25 (p0 p1 : CodD) : Prop := rd7q20 p0 = rd7q20 p1 ∧ (∀ (i : Nat), i < rd7q20 p0 → rd7q24 p0 i = rd7q24 p1 i) ∧ True
def rd7q26 (p0 : CodD) : Prop := eqOf (List Arr) (rd7q4 p0) [] ∧ SM N1 ∧ SM N0
def rd7q27 (p0 : CodD) : Nat := LN (rd7q4 p0)
def rd7q28 (p0 p1 : CodD) : Prop := rd7q27 p0 = rd7q27 p1
def rd7q29 : Arr := DA
def rd7q30 (p0 : CodD) (p1 : Nat) : Arr := List.getD (rd7q4 p0) p1 rd7q29
def rd7q31 (p0 : CodD) (p1 : Nat) : List Int := Arr.sh (rd7q30 p0 p1)
def rd7q32 (p0 : CodD) (p1 : Nat) : List Int := Arr.nu (rd7q30 p0 p1)
def rd7q33 (p0 : CodD) (p1 : Nat) : List Arr := Arr.it (rd7q30 p0 p1)
def rd7q34 (p0 : CodD) (p1 : Nat) : List D := [ZI (Arr.k (rd7q30 p0 p1)), SI (rd7q31 p0 p1), SI (rd7q32 p0 p1), D.sl N4 (LN (rd7q33 p0 p1)) (fun (i : Nat) => Arr.row (List.getD (rd7q33 p0 p1) i rd7q29)) Mode.any]
end
theorem by_ok (l : List UInt8) (hl : l.length ≤ 4294967296) : ACalls Try.prog 25 [bsl l .any] ⟨[], []⟩ (endY (bodyP l)) := by
  refine door_of (E := Eby) (fr := frmGet frames) ⟨tab_ok, con0_ok, mix, inlC_ok con0_ok, eqs_ok⟩ frames_ok rfl rfl (by kernel_rfl) ?_
  refine vc_eq (T :=
    ∀ (x : Nat), True → ∀ (x_1 : Nat), x ≠ x_1 ∧ True → ∀ (x_2 : Nat), x_1 ≠ x_2 ∧ x ≠ x_2 ∧ True → (SM x_2 ∧ (rowsB (LN l) fun (i : Nat) => rd7q0 l i) = true ∧ LN l ≤ (4294967296 : Nat) ∧ (SM x_2 ∧ ((LN l = LN (rd7q1 l) ∧ (∀ (i : Nat), i < LN l → rd7q0 l i = [ZB (BI (rd7q1 l) i)]) ∧ True) ∧ True) ∧ True) ∧ True) ∧ (∀ (c : CodD), rd7q3 l c → eqOf (List Arr) (rd7q4 c) [] → SM x ∧ SM x_1 ∧ (SM x ∧ SM x_1 ∧ True) ∧ (Z0 = (25 : Int) → rd7q5 l ∧ rd7q6 ∧ False ∧ False ∧ False ∧ True) ∧ (Z0 ≠ (25 : Int) → SM Z0 ∧ ∃ (c_1 : CodD), rd7q7 l c_1 ∧ rd7q13 c c_1 ∧ rd7q19 c c_1 ∧ rd7q25 c c_1 ∧ rd7q26 c_1)) ∧ (∀ (c : CodD), rd7q3 l c → rd7q4 c ≠ [] → ∀ (b cap : Nat), SM x ∧ SM x_1 ∧ (SM x ∧ SM x_1 ∧ True) ∧ (Z0 = (25 : Int) → rd7q5 l ∧ D.vs (3 : Nat) b (rd7q27 c) cap N4 = D.sl N1 N0 (fun (x : Nat) => []) Mode.nil ∧ False ∧ False ∧ False ∧ True) ∧ (Z0 ≠ (25 : Int) → SM Z0 ∧ ∃ (c_1 : CodD), rd7q7 l c_1 ∧ rd7q13 c c_1 ∧ rd7q19 c c_1 ∧ rd7q25 c c_1 ∧ (rd7q28 c c_1 ∧ (SM b ∧ (rd7q28 c c_1 ∧ SM cap ∧ ∀ (i : Nat), i < rd7q27 c → rd7q34 c i = rd7q34 c_1 i) ∧ True) ∧ True) ∧ rd7q4 c_1 ≠ [])) ∧ (rd7q2 l = none → ∀ (x_3 : Nat), x_1 ≠ x_3 ∧ x ≠ x_3 ∧ True → SM x_3 ∧ SM x ∧ SM x_1 ∧ (SM x ∧ SM x_1 ∧ True) ∧ (SM (25 : Int) → rd7q5 l ∧ rd7q6 ∧ rd7q6 ∧ rd7q6 ∧ rd7q6 ∧ True) ∧ ((25 : Int) ≠ (25 : Int) → (25 : Int) = Z0 ∧ ∃ (c : CodD), rd7q7 l c ∧ False ∧ False ∧ False ∧ rd7q26 c))) (by kernel_rfl) ?_
  delta BI D4 D6 DA DF DK DL G4 G6 GF GI GK GL LN N0 N1 N4 N6 R4 R6 SI SM U0 Z0 ZB ZI rd7q0 rd7q1 rd7q10 rd7q11 rd7q12 rd7q13 rd7q14 rd7q15 rd7q16 rd7q17 rd7q18 rd7q19 rd7q2 rd7q20 rd7q21 rd7q22 rd7q23 rd7q24 rd7q25 rd7q26 rd7q27 rd7q28 rd7q29 rd7q3 rd7q30 rd7q31 rd7q32 rd7q33 rd7q34 rd7q4 rd7q5 rd7q6 rd7q7 rd7q8 rd7q9
  have dF : (default : FnD) = ⟨0, []⟩ := rfl
  have dK : (default : KeD) = ⟨0, [], 0, 0⟩ := rfl
  have dL : (default : LaD) = ⟨0, []⟩ := rfl
  have d4 : (default : I4) = ⟨0, 0, 0, 0⟩ := rfl
  have d6 : (default : I6) = ⟨0, 0, 0, 0, 0, 0⟩ := rfl
  have da : (default : Arr) = Arr.mk 0 [] [] [] := rfl
  simp only [← da, ← dF, ← dK, ← dL, ← d4, ← d6, eq_self, ne_eq, implies_true, true_and, and_true, forall_const, bytesOf_bsl, rowsB_bsl]
  refine fun x x1 _ x2 _ => ⟨hl, fun c hc he => ⟨fun h => absurd h (by decide), fun _ => ⟨c, hc, ⟨rfl, fun _ _ => rfl⟩, ⟨rfl, fun _ _ => rfl⟩, ⟨rfl, fun _ _ => rfl⟩, he⟩⟩, fun c hc he b cap => ⟨fun h => absurd h (by decide), fun _ => ⟨c, hc, ⟨rfl, fun _ _ => rfl⟩, ⟨rfl, fun _ _ => rfl⟩, ⟨rfl, fun _ _ => rfl⟩, ⟨rfl, rfl, fun _ _ => rfl⟩, he⟩⟩, fun hn => ?_⟩
  exact fun x3 _ => ⟨hn, fun h => (h trivial).elim⟩
end Go.Proofs.Ytoglbmhkfkghbaa
namespace Go.Proofs.Ytoglbmhkfkghbaa
open Go Go.Ab
set_option maxRecDepth 100000
mutual
def arrB : Arr → List UInt8
  | .mk k s n is => numsB [k, (s.length : Int)] ++ numsB s ++ numsB n ++ arrBL is
def arrBL : List Arr → List UInt8
  | [] => []
  | a :: r => arrB a ++ arrBL r
end
mutual
def szA : Arr → Nat
  | .mk _ s n is => 2 + s.length + n.length + szL is
def szL : List Arr → Nat
  | [] => 0
  | a :: r => szA a + szL r
end
theorem arrB_eq (a : Arr) : arrB a = numsB [a.k, (a.sh.length : Int)] ++ numsB a.sh ++ numsB a.nu ++ arrBL a.it := by
  cases a with
  | mk k s n is => rw [arrB]; rfl
theorem szA_eq (a : Arr) : szA a = 2 + a.sh.length + a.nu.length + szL a.it := by
  cases a with
  | mk k s n is => rw [szA]; rfl
mutual
theorem arrB_len : ∀ a : Arr, (arrB a).length ≤ 10 * szA a
  | .mk k s n is => by
    have h1 := numsB_len [k, (s.length : Int)]
    have h2 := numsB_len s
    have h3 := numsB_len n
    have h4 := arrBL_len is
    simp only [arrB, szA, List.length_append, List.length_cons, List.length_nil] at h1 ⊢
    omega
theorem arrBL_len : ∀ l : List Arr, (arrBL l).length ≤ 10 * szL l
  | [] => by simp [arrBL]
  | a :: r => by
    have h1 := arrB_len a
    have h2 := arrBL_len r
    simp only [arrBL, szL, List.length_append]
    omega
end
theorem arrBL_app : ∀ (l r : List Arr), arrBL (l ++ r) = arrBL l ++ arrBL r
  | [], r => by simp [arrBL]
  | a :: l, r => by simp only [List.cons_append, arrBL, arrBL_app l r, List.append_assoc]
theorem szL_app : ∀ (l r : List Arr), szL (l ++ r) = szL l + szL r
  | [], r => by simp [szL]
  | a :: l, r => by simp only [List.cons_append, szL, szL_app l r, Nat.add_assoc]
theorem arrBL_take {l : List Arr} {i : Nat} (h : i < l.length) : arrBL (l.take (i + 1)) = arrBL (l.take i) ++ arrB (l.getD i default) := by
  rw [take_step h, arrBL_app]; simp [arrBL]
theorem szL_take {l : List Arr} {i : Nat} (h : i < l.length) : szL (l.take i) + szA (l.getD i default) ≤ szL l := by
  have e := szL_app (l.take i) (l.drop i)
  rw [List.take_append_drop, drop_step h, szL] at e
  omega
def sWa (row : Arr → List D) (q : Arr → Prop) : FnSpec where
  β := Nat × Nat × List UInt8 × Arr
  α := Nat × List UInt8
  args := fun b => [.ref 0 b.1 0, .agg (row b.2.2.2)]
  st := fun b => ⟨[(0, b.1, .cells [bsl b.2.2.1 (.tok 0 b.2.1)])], [(0, b.2.1)]⟩
  pre := fun b => q b.2.2.2 ∧ b.2.2.1.length + 10 * szA b.2.2.2 ≤ 70368744177664
  post := fun b y => y.2 = b.2.2.1 ++ arrB b.2.2.2
  res := fun _ _ => .ret (.tup [])
  out := fun b y => ⟨[(0, b.1, .cells [bsl y.2 (.tok 0 y.1)])], [(0, y.1)]⟩
def conWa (its : List Arr) : Con := fun k ds S => match k with
  | 41 => some (sWa Arr.row1 (fun b => b ∈ its))
  | k => conW con0 k ds S
noncomputable def Ewa (x : Nat) (l : List UInt8) (a : Arr) : Senv := { EC (conWa a.it) 33 2 [3, 5, 23, 24, 25, 26] (fun _ => ([], [])) with
  ann := fun b _ _ => match b with
    | 0 => some { slots := [25], keep := [0, 23, 24], α := Nat × Nat × List UInt8, st := fun y => ([.int .i64 y.1], ⟨[(0, x, .cells [bsl y.2.2 (.tok 0 y.2.1)])], [(0, y.2.1)]⟩), inv := fun y => y.1 ≤ a.it.length ∧ y.2.2 = l ++ numsB [a.k, (a.sh.length : Int)] ++ numsB a.sh ++ numsB a.nu ++ arrBL (a.it.take y.1), mu := fun y => a.it.length - y.1 }
    | _ => none }
noncomputable section
def wr3q0 (p0 : Nat) : Prop := tokIs [(N0, p0)] N0 p0
def wr3q1 (p0 : List UInt8) (p1 : Nat) : List D := [ZB (BI p0 p1)]
def wr3q2 (p0 : Arr) : Nat := LN (Arr.sh p0)
def wr3q3 (p0 : Arr) : List D := [ZI (NI (wr3q2 p0))]
def wr3q4 (p0 : List UInt8) : List UInt8 := bytesOf (LN p0) fun (i : Nat) => wr3q1 p0 i
def wr3q5 (p0 : Arr) (p1 : Nat) : List D := [ZI (GI (Arr.sh p0) p1)]
def wr3q6 (p0 : Arr) (p1 : Nat) : List D := [ZI (GI (Arr.nu p0) p1)]
def wr3q7 (p0 : Arr) : List Arr := Arr.it p0
def wr3q8 (p0 : Arr) : Nat := LN (wr3q7 p0)
def wr3q9 (p0 : Nat) (p1 : Arr) (p2 p3 : List UInt8) : Prop := p0 ≤ wr3q8 p1 ∧ p2 = p3 ++ numsB [Arr.k p1, (NI (wr3q2 p1))] ++ numsB (Arr.sh p1) ++ numsB (Arr.nu p1) ++ arrBL (List.take p0 (wr3q7 p1))
def wr3q10 (p0 p1 : List UInt8) (p2 p3 : Nat) : Prop := ((LN p0 = LN p1 ∧ (∀ (i : Nat), i < LN p0 → wr3q1 p0 i = wr3q1 p1 i) ∧ p2 = p3) ∧ True) ∧ True
def wr3q11 (p0 : Nat) (p1 p2 : List UInt8) (p3 p4 : Nat) : Prop := (SM p0 ∧ wr3q10 p1 p2 p3 p4) ∧ p3 = p4 ∧ True
def wr3q12 (p0 : Arr) : Int := (NI (wr3q8 p0))
def wr3q13 : Arr := DA
def wr3q14 (p0 : Arr) (p1 : Nat) : Arr := List.getD (wr3q7 p0) (Int.toNat (↑p1 : Int)) wr3q13
def wr3q15 (p0 : Arr) (p1 : Nat) : List Int := Arr.sh (wr3q14 p0 p1)
def wr3q16 (p0 : Arr) (p1 : Nat) : Nat := LN (wr3q15 p0 p1)
def wr3q17 (p0 : Arr) (p1 : Nat) : List Int := Arr.nu (wr3q14 p0 p1)
def wr3q18 (p0 : Arr) (p1 : Nat) : Nat := LN (wr3q17 p0 p1)
def wr3q19 (p0 : Arr) (p1 : Nat) : List Arr := Arr.it (wr3q14 p0 p1)
def wr3q20 (p0 : Arr) (p1 : Nat) : Nat := LN (wr3q19 p0 p1)
def wr3q21 (p0 : Arr) (p1 : Nat) : Arr := List.getD (wr3q7 p0) p1 wr3q13
def wr3q22 (p0 p1 : Nat) (p2 p3 : List UInt8) (p4 p5 : Nat) : Prop := (p0 = p1 ∧ wr3q10 p2 p3 p4 p5) ∧ p4 = p5 ∧ True
def wr3q23 (p0 : Arr) (p1 : Nat) : List Int := Arr.sh (wr3q21 p0 p1)
def wr3q24 (p0 : Arr) (p1 : Nat) : List Int := Arr.nu (wr3q21 p0 p1)
def wr3q25 (p0 : Arr) (p1 : Nat) : List Arr := Arr.it (wr3q21 p0 p1)
def wr3q26 (p0 : Arr) : D := D.sl N4 (wr3q8 p0) (fun (i : Nat) => [ZI (Arr.k (wr3q21 p0 i)), SI (wr3q23 p0 i), SI (wr3q24 p0 i), D.sl N4 (LN (wr3q25 p0 i)) (fun (i_1 : Nat) => Arr.row (List.getD (wr3q25 p0 i) i_1 wr3q13)) Mode.any]) Mode.any
end
theorem wa_step (x t : Nat) (l : List UInt8) (a : Arr) (ha : a.nu.length ≤ maxLen ∧ a.it.length ≤ maxLen ∧ a.sh.length ≤ maxLen) (ho : inI64 a.k ∧ (∀ z ∈ a.sh, inI64 z) ∧ (∀ z ∈ a.nu, inI64 z)) (hl : l.length + 10 * szA a ≤ 70368744177664)
    (hc : ConOk Try.prog (conWa a.it)) :
    ACalls Try.prog 41 ((sWa Arr.row2 (fun _ => True)).args (x, t, l, a)) ((sWa Arr.row2 (fun _ => True)).st (x, t, l, a)) (SpecR (sWa Arr.row2 (fun _ => True)) (x, t, l, a)) := by
  refine con_of (A := sWa Arr.row2 (fun _ => True)) (x := (x, t, l, a)) (E := Ewa x l a) (eOk hc rfl) Try.func41 rfl (by kernel_rfl) rfl (by simp [sWa, Ewa, EC, E0]) ?_
  refine vc_eq (T :=
    ∀ (x_1 : Nat), x ≠ x_1 ∧ True → SM x_1 ∧ SM x_1 ∧ ((SM x ∧ wr3q0 t ∧ fitP (LN l) (fun (i : Nat) => wr3q1 l i) N2 fun (i : Nat) => List.getD [[ZI (Arr.k a)], wr3q3 a] i []) ∧ True) ∧ ∀ (y : Nat × List UInt8), y.2 = wr3q4 l ++ numsB [rowInt [ZI (Arr.k a)], rowInt (wr3q3 a)] → SM x_1 ∧ ((SM x ∧ wr3q0 y.1 ∧ fitP (LN y.2) (fun (i : Nat) => wr3q1 y.2 i) (wr3q2 a) fun (i : Nat) => wr3q5 a i) ∧ True) ∧ ∀ (y_1 : Nat × List UInt8), y_1.2 = wr3q4 y.2 ++ numsB (intsOf (wr3q2 a) fun (i : Nat) => wr3q5 a i) → SM x_1 ∧ ((SM x ∧ wr3q0 y_1.1 ∧ fitP (LN y_1.2) (fun (i : Nat) => wr3q1 y_1.2 i) (LN (Arr.nu a)) fun (i : Nat) => wr3q6 a i) ∧ True) ∧ ∀ (y : Nat × List UInt8), y.2 = wr3q4 y_1.2 ++ numsB (intsOf (LN (Arr.nu a)) fun (i : Nat) => wr3q6 a i) → SM x_1 ∧ (∃ (x_2 : Nat × Nat × List UInt8), wr3q9 x_2.1 a x_2.2.2 l ∧ (Z0 = (NI x_2.1) ∧ True) ∧ wr3q11 x y.2 x_2.2.2 y.1 x_2.2.1) ∧ ∀ (x_2 : Nat × Nat × List UInt8), wr3q9 x_2.1 a x_2.2.2 l → ifB (decide ((NI x_2.1) < wr3q12 a)) (side (Z0 ≤ (NI x_2.1) ∧ (NI x_2.1) < wr3q12 a) (∀ (x_3 : Nat), x ≠ x_3 ∧ True → SM x_3 ∧ SM x_3 ∧ ∃ (x_4 : Nat × Nat × List UInt8 × Arr), (x = x_4.1 ∧ (Arr.k (wr3q14 a x_2.1) = Arr.k x_4.2.2.2 ∧ (wr3q16 a x_2.1 = wr3q2 x_4.2.2.2 ∧ (∀ (i : Nat), i < wr3q16 a x_2.1 → [ZI (GI (wr3q15 a x_2.1) i)] = wr3q5 x_4.2.2.2 i) ∧ True) ∧ (wr3q18 a x_2.1 = LN (Arr.nu x_4.2.2.2) ∧ (∀ (i : Nat), i < wr3q18 a x_2.1 → [ZI (GI (wr3q17 a x_2.1) i)] = wr3q6 x_4.2.2.2 i) ∧ True) ∧ (wr3q20 a x_2.1 = wr3q8 x_4.2.2.2 ∧ (∀ (i : Nat), i < wr3q20 a x_2.1 → Arr.row (List.getD (wr3q19 a x_2.1) i wr3q13) = Arr.row (wr3q21 x_4.2.2.2 i)) ∧ True) ∧ True) ∧ True) ∧ wr3q22 x x_4.1 x_2.2.2 x_4.2.2.1 x_2.2.1 x_4.2.1 ∧ (x_4.2.2.2 ∈ wr3q7 a ∧ LN x_4.2.2.1 + (10 : Nat) * szA x_4.2.2.2 ≤ (70368744177664 : Nat)) ∧ ∀ (y : Nat × List UInt8), y.2 = x_4.2.2.1 ++ arrB x_4.2.2.2 → (SM (D.ref N0 x N0) ∧ SM (wr3q26 a) ∧ SM (ZI (wr3q12 a)) ∧ True) ∧ ∃ (y_2 : Nat × Nat × List UInt8), wr3q9 y_2.1 a y_2.2.2 l ∧ wr3q8 a - y_2.1 < wr3q8 a - x_2.1 ∧ (IntKind.wrap IntKind.i64 ((NI x_2.1) + Z1) = (NI y_2.1) ∧ True) ∧ wr3q22 x_4.1 x y.2 y_2.2.2 y.1 y_2.2.1)) (True ∧ ∃ (y : Nat × List UInt8), y.2 = l ++ arrB a ∧ True ∧ wr3q11 x x_2.2.2 y.2 x_2.2.1 y.1)) (by kernel_rfl) ?_
  delta BI DA GI LN N0 N1 N2 N4 NI SI SM U0 Z0 Z1 ZB ZI wr3q0 wr3q1 wr3q10 wr3q11 wr3q12 wr3q13 wr3q14 wr3q15 wr3q16 wr3q17 wr3q18 wr3q19 wr3q2 wr3q20 wr3q21 wr3q22 wr3q23 wr3q24 wr3q25 wr3q26 wr3q3 wr3q4 wr3q5 wr3q6 wr3q7 wr3q8 wr3q9
  have da : (default : Arr) = Arr.mk 0 [] [] [] := rfl
  simp only [← da, eq_self, Int.toNat_natCast, ifB_iff, side_iff, decide_eq_true_eq, decide_eq_false_iff_not, true_and, and_true, Prod.forall, forall_eq, bytesOf_bsl]
  obtain ⟨l1, l2, l3⟩ := ha
  simp only [maxLen] at l1 l2 l3
  obtain ⟨o1, o2, o3⟩ := ho
  have hz := szA_eq a
  have hb : ∀ i, i ≤ a.it.length → (l ++ numsB [a.k, (a.sh.length : Int)] ++ numsB a.sh ++ numsB a.nu ++ arrBL (a.it.take i)).length ≤ l.length + 10 * (2 + a.sh.length + a.nu.length) + 10 * szL (a.it.take i) := by
    intro i _
    have h1 := numsB_len [a.k, (a.sh.length : Int)]
    have h2 := numsB_len a.sh
    have h3 := numsB_len a.nu
    have h4 := arrBL_len (a.it.take i)
    simp only [List.length_append, List.length_cons, List.length_nil] at h1 ⊢
    omega
  have hb0 := hb 0 (Nat.zero_le _)
  simp only [List.take_zero, arrBL, szL, List.append_nil, Nat.mul_zero, Nat.add_zero] at hb0
  have e2 : intsOf a.sh.length (fun i => [D.int .i64 (a.sh.getD i 0)]) = a.sh := intsOf_isl _
  have e3 : intsOf a.nu.length (fun i => [D.int .i64 (a.nu.getD i 0)]) = a.nu := intsOf_isl _
  simp only [e2, e3, rowInt]
  intro b1 _
  have hlen1 : (l ++ numsB [a.k, (a.sh.length : Int)]).length ≤ l.length + 20 := by
    have h1 := numsB_len [a.k, (a.sh.length : Int)]
    simp only [List.length_append, List.length_cons, List.length_nil] at h1 ⊢
    omega
  have hlen2 : (l ++ numsB [a.k, (a.sh.length : Int)] ++ numsB a.sh).length ≤ l.length + 20 + 10 * a.sh.length := by
    have h2 := numsB_len a.sh
    rw [List.length_append]
    omega
  refine ⟨⟨tok_is _ _, fit_lit l [a.k, (a.sh.length : Int)] ?_ (by simp only [List.length_cons, List.length_nil]; omega)⟩, fun t1 => ⟨⟨tok_is _ _, fit_isl o2 (by omega)⟩, fun t2 => ⟨⟨tok_is _ _, fit_isl o3 (by omega)⟩, fun t3 => ⟨⟨(0, t3, l ++ numsB [a.k, (a.sh.length : Int)] ++ numsB a.sh ++ numsB a.nu), ⟨Nat.zero_le _, by simp [arrBL]⟩, rfl, ⟨rfl, fun i _ => rfl, rfl⟩, rfl⟩, ?_⟩⟩⟩⟩
  · intro z hz
    simp only [List.mem_cons, List.not_mem_nil, or_false] at hz
    rcases hz with rfl | rfl
    · exact o1
    · simp only [inI64]; omega
  rintro i t4 b ⟨hi, rfl⟩
  refine ⟨fun hlt => ⟨⟨by omega, hlt⟩, fun _ _ => ?_⟩, fun hge => ?_⟩
  · have hlt' : i < a.it.length := by omega
    have h5 := szL_take hlt'
    have h6 := hb i hi
    refine ⟨(x, t4, _, a.it.getD i default), ⟨rfl, rfl, ⟨rfl, fun _ _ => rfl⟩, ⟨rfl, fun _ _ => rfl⟩, rfl, fun _ _ => rfl⟩, ⟨⟨rfl, rfl, fun _ _ => rfl, rfl⟩, rfl⟩, ⟨mem_getD hlt', by simp only; omega⟩, fun t5 => ⟨(i + 1, t5, l ++ numsB [a.k, (a.sh.length : Int)] ++ numsB a.sh ++ numsB a.nu ++ arrBL (a.it.take (i + 1))), ⟨by simp only; omega, rfl⟩, by simp only; omega, wrap_i64' (by omega) (by omega), ⟨rfl, ?_, ?_, rfl⟩, rfl⟩⟩
    · simp only [arrBL_take hlt', List.append_assoc]
    · intro j hj
      simp only [arrBL_take hlt', List.append_assoc]
  · have hi' : i = a.it.length := by omega
    subst hi'
    refine ⟨(t4, l ++ arrB a), rfl, ⟨?_, fun i _ => ?_, rfl⟩, rfl⟩
    · simp only [List.take_length, arrB_eq a, List.append_assoc]
    · simp only [List.take_length, arrB_eq a, List.append_assoc]
theorem sWa_row {row row' : Arr → List D} {q q' : Arr → Prop} {b : Nat × Nat × List UInt8 × Arr} (hw : wkL (row' b.2.2.2) (row b.2.2.2)) (h : ACalls Try.prog 41 ((sWa row q).args b) ((sWa row q).st b) (SpecR (sWa row q) b)) : ACalls Try.prog 41 ((sWa row' q').args b) ((sWa row' q').st b) (SpecR (sWa row' q') b) := by
  refine (h.wkArgs ?_).mono fun _ _ ⟨y, h1, h2, h3⟩ => ⟨y, h1, h2, h3⟩
  simp only [sWa, wkL, wkD]
  exact ⟨by simp [weakD, chk_iff], hw, trivial⟩
theorem wa_all : ∀ (a : Arr), a.ok → ∀ (x t : Nat) (l : List UInt8), l.length + 10 * szA a ≤ 70368744177664 → ACalls Try.prog 41 ((sWa Arr.row2 (fun _ => True)).args (x, t, l, a)) ((sWa Arr.row2 (fun _ => True)).st (x, t, l, a)) (SpecR (sWa Arr.row2 (fun _ => True)) (x, t, l, a))
  | .mk k s n is, h, x, t, l, hl => by
    have h' := h
    simp only [Arr.ok] at h'
    obtain ⟨o1, o2, o3, h1, h2, h3, h4⟩ := h'
    refine wa_step x t l (.mk k s n is) ⟨h2, h3, h1⟩ ⟨o1, o2, o3⟩ hl ?_
    intro k' ds S A hk
    unfold conWa at hk
    split at hk
    · injection hk with hk; subst hk
      refine ConOk.plain (fun b hb => ?_) rfl rfl
      obtain ⟨x', t', l', b'⟩ := b
      obtain ⟨q1, q2⟩ := hb
      have hb' : b' ∈ is := q1
      exact sWa_row (row1_wk b') (wa_all b' ((okL_iff _).1 h4 b' hb') x' t' l' q2)
    · exact conW_ok con0_ok _ _ _ _ hk
termination_by a => SizeOf.sizeOf a
decreasing_by
  have := List.sizeOf_lt_of_mem hb'
  simp only [Arr.mk.sizeOf_spec]
  omega
end Go.Proofs.Ytoglbmhkfkghbaa
namespace Go.Proofs.Ytoglbmhkfkghbaa
open Go Go.Ab
set_option maxRecDepth 100000
def i4B (i : I4) : List UInt8 := numsB [i.a, i.b, i.c, i.d]
def i6B (i : I6) : List UInt8 := numsB [i.a, i.b, i.c, i.d, i.e, i.f]
def funB (f : FnD) : List UInt8 := numsB [f.slots, (f.code.length : Int)] ++ f.code.flatMap i4B
def kerY (k : KeD) : List UInt8 := numsB [k.inputs, (k.ops.length : Int)] ++ (k.ops.flatMap i4B ++ numsB [k.reduce, k.at_])
def lanB (p : LaD) : List UInt8 := numsB [p.regs, (p.code.length : Int)] ++ p.code.flatMap i6B
def tl4 (c : CodD) : List UInt8 := numsB [(c.lanes.length : Int)] ++ c.lanes.flatMap lanB
def tl3 (c : CodD) : List UInt8 := numsB [(c.kers.length : Int)] ++ (c.kers.flatMap kerY ++ tl4 c)
def tl2 (c : CodD) : List UInt8 := numsB [(c.funs.length : Int)] ++ (c.funs.flatMap funB ++ tl3 c)
def codeB (c : CodD) : List UInt8 := numsB [(c.consts.length : Int)] ++ (arrBL c.consts ++ tl2 c)
def CodD.row1 (c : CodD) : List D := [gsl 4 Arr.row1 c.consts, gsl 2 FnD.row c.funs, gsl 4 KeD.row c.kers, gsl 2 LaD.row c.lanes]
theorem code_wk (c : CodD) : wkL c.row c.row1 := by
  simp only [CodD.row, CodD.row1, gsl, wkL, wkD]
  exact ⟨chk_iff.2 ⟨rfl, trivial, fun i _ => row_wk _, by simp [weakM]⟩, chk_iff.2 ⟨rfl, trivial, fun i _ => wkL_refl _, by simp [weakM]⟩, chk_iff.2 ⟨rfl, trivial, fun i _ => wkL_refl _, by simp [weakM]⟩, chk_iff.2 ⟨rfl, trivial, fun i _ => wkL_refl _, by simp [weakM]⟩, trivial⟩
def natOf : D → Nat
  | .int _ z => z.toNat
  | _ => 0
def setB (S : St) (t : Nat) (l : List UInt8) : St := ⟨setO S.objs 0 (.cells [bsl l (.tok 0 t)]), [(0, t)]⟩
def sWc (x : Nat) (l : List UInt8) (c : CodD) (row : List D) : FnSpec where
  β := Unit
  α := Nat × List UInt8
  args := fun _ => [.ref 0 x 0, .agg row]
  st := fun _ => ⟨[(0, x, .cells [bsl l .full])], []⟩
  pre := fun _ => True
  post := fun _ y => y.2 = l ++ codeB c
  res := fun _ _ => .ret (.tup [])
  out := fun _ y => ⟨[(0, x, .cells [bsl y.2 (.tok 0 y.1)])], [(0, y.1)]⟩
def conWc (c : CodD) : Con := fun k ds S => match k with
  | 41 => some (sWa Arr.row1 (fun b => b ∈ c.consts))
  | k => conW con0 k ds S
theorem conWc_ok {c : CodD} (hc : c.ok) : ConOk Try.prog (conWc c) := by
  intro k' ds S A hk
  unfold conWc at hk
  split at hk
  · injection hk with hk; subst hk
    refine ConOk.plain (fun b hb => ?_) rfl rfl
    obtain ⟨x', t', l', b'⟩ := b
    exact sWa_row (row1_wk b') (wa_all b' (hc.1 b' hb.1) x' t' l' hb.2)
  · exact conW_ok con0_ok _ _ _ _ hk
theorem fit_T {b R T : List UInt8} (ns : List Int) (h : b ++ R = T) (hT : T.length ≤ 35184372088832) (hn : ∀ z ∈ ns, inI64 z) (hk : ns.length ≤ 6) : fitP b.length (fun i => [.int .u8 ((b.getD i 0).toNat : Int)]) ns.length (fun i => (ns.map fun z => [D.int .i64 z]).getD i []) := by
  refine fit_lit b ns hn ?_
  have := congrArg List.length h
  rw [List.length_append] at this
  omega
theorem fit_U {b R T : List UInt8} {t : Nat} (ns : List Int) (h : b ++ R = T) (hT : T.length ≤ 35184372088832) (hn : ∀ z ∈ ns, inI64 z) (hk : ns.length ≤ 6) : tokIs [(0, t)] 0 t ∧ fitP b.length (fun i => [.int .u8 ((b.getD i 0).toNat : Int)]) ns.length (fun i => (ns.map fun z => [D.int .i64 z]).getD i []) :=
  ⟨tok_is _ _, fit_T ns h hT hn hk⟩
theorem loop_init {n t : Nat} {b T : List UInt8} (R : Nat → List UInt8) (h : b ++ R 0 = T) :
    ∃ y : Nat × Nat × List UInt8, (y.1 ≤ n ∧ y.2.2 ++ R y.1 = T) ∧ (0 : Int) = (y.1 : Int) ∧ (b.length = y.2.2.length ∧ (∀ i, i < b.length → [D.int .u8 ((b.getD i 0).toNat : Int)] = [D.int .u8 ((y.2.2.getD i 0).toNat : Int)]) ∧ t = y.2.1) ∧ t = y.2.1 :=
  ⟨(0, t, b), ⟨Nat.zero_le _, h⟩, rfl, ⟨rfl, fun _ _ => rfl, rfl⟩, rfl⟩
theorem loop_next {n t a : Nat} {b T : List UInt8} (R : Nat → List UInt8) (ha : a < n) (hn : n ≤ maxLen) (h : b ++ R (a + 1) = T) :
    ∃ y : Nat × Nat × List UInt8, (y.1 ≤ n ∧ y.2.2 ++ R y.1 = T) ∧ n - y.1 < n - a ∧ IntKind.i64.wrap ((a : Int) + 1) = (y.1 : Int) ∧ (b.length = y.2.2.length ∧ (∀ i, i < b.length → [D.int .u8 ((b.getD i 0).toNat : Int)] = [D.int .u8 ((y.2.2.getD i 0).toNat : Int)]) ∧ t = y.2.1) ∧ t = y.2.1 := by
  simp only [maxLen] at hn
  exact ⟨(a + 1, t, b), ⟨by simp only; omega, h⟩, by simp only; omega, wrap_i64' (by omega) (by omega), ⟨rfl, fun _ _ => rfl, rfl⟩, rfl⟩
theorem len_i64 {n : Nat} (h : n ≤ maxLen) : inI64 (n : Int) := by simp only [maxLen, inI64] at *; omega
theorem all1 {a : Int} (ha : inI64 a) : ∀ z ∈ [a], inI64 z := by simpa using ha
theorem all2 {a b : Int} (ha : inI64 a) (hb : inI64 b) : ∀ z ∈ [a, b], inI64 z := by simpa using ⟨ha, hb⟩
theorem all4 {a b c d : Int} (h : inI64 a ∧ inI64 b ∧ inI64 c ∧ inI64 d) : ∀ z ∈ [a, b, c, d], inI64 z := by simpa using h
theorem all6 {a b c d e f : Int} (h : inI64 a ∧ inI64 b ∧ inI64 c ∧ inI64 d ∧ inI64 e ∧ inI64 f) : ∀ z ∈ [a, b, c, d, e, f], inI64 z := by simpa using h
noncomputable def Ewc (l : List UInt8) (c : CodD) : Senv := { EC (conWc c) 169 2 [3, 5, 7, 9, 11, 13, 15, 17, 25, 26, 27, 28, 42, 43, 44, 45, 57, 58, 59, 60, 83, 84, 85, 86, 98, 99, 100, 101, 131, 132, 133, 134, 146, 147, 148, 149] (fun _ => ([], [])) with
  ann := fun b env S => match b with
    | 0 => some { slots := [27], keep := [0, 3, 25, 26], α := Nat × Nat × List UInt8, st := fun y => ([.int .i64 y.1], setB S y.2.1 y.2.2), inv := fun y => y.1 ≤ c.consts.length ∧ y.2.2 ++ (arrBL (c.consts.drop y.1) ++ tl2 c) = l ++ codeB c, mu := fun y => c.consts.length - y.1 }
    | 2 => some { slots := [44], keep := [0, 3, 42, 43], α := Nat × Nat × List UInt8, st := fun y => ([.int .i64 y.1], setB S y.2.1 y.2.2), inv := fun y => y.1 ≤ c.funs.length ∧ y.2.2 ++ ((c.funs.drop y.1).flatMap funB ++ tl3 c) = l ++ codeB c, mu := fun y => c.funs.length - y.1 }
    | 4 => some { slots := [59], keep := [0, 3, 7, 42, 43, 44, 57, 58], α := Nat × Nat × List UInt8, st := fun y => ([.int .i64 y.1], setB S y.2.1 y.2.2), inv := fun y => y.1 ≤ (c.funs.getD (natOf (Ab.look env 44)) default).code.length ∧ y.2.2 ++ (((c.funs.getD (natOf (Ab.look env 44)) default).code.drop y.1).flatMap i4B ++ ((c.funs.drop (natOf (Ab.look env 44) + 1)).flatMap funB ++ tl3 c)) = l ++ codeB c, mu := fun y => (c.funs.getD (natOf (Ab.look env 44)) default).code.length - y.1 }
    | 6 => some { slots := [85], keep := [0, 3, 83, 84], α := Nat × Nat × List UInt8, st := fun y => ([.int .i64 y.1], setB S y.2.1 y.2.2), inv := fun y => y.1 ≤ c.kers.length ∧ y.2.2 ++ ((c.kers.drop y.1).flatMap kerY ++ tl4 c) = l ++ codeB c, mu := fun y => c.kers.length - y.1 }
    | 8 => some { slots := [100], keep := [0, 3, 11, 83, 84, 85, 98, 99], α := Nat × Nat × List UInt8, st := fun y => ([.int .i64 y.1], setB S y.2.1 y.2.2), inv := fun y => y.1 ≤ (c.kers.getD (natOf (Ab.look env 85)) default).ops.length ∧ y.2.2 ++ (((c.kers.getD (natOf (Ab.look env 85)) default).ops.drop y.1).flatMap i4B ++ (numsB [(c.kers.getD (natOf (Ab.look env 85)) default).reduce, (c.kers.getD (natOf (Ab.look env 85)) default).at_] ++ ((c.kers.drop (natOf (Ab.look env 85) + 1)).flatMap kerY ++ tl4 c))) = l ++ codeB c, mu := fun y => (c.kers.getD (natOf (Ab.look env 85)) default).ops.length - y.1 }
    | 10 => some { slots := [133], keep := [0, 3, 131, 132], α := Nat × Nat × List UInt8, st := fun y => ([.int .i64 y.1], setB S y.2.1 y.2.2), inv := fun y => y.1 ≤ c.lanes.length ∧ y.2.2 ++ ((c.lanes.drop y.1).flatMap lanB) = l ++ codeB c, mu := fun y => c.lanes.length - y.1 }
    | 12 => some { slots := [148], keep := [0, 3, 15, 131, 132, 133, 146, 147], α := Nat × Nat × List UInt8, st := fun y => ([.int .i64 y.1], setB S y.2.1 y.2.2), inv := fun y => y.1 ≤ (c.lanes.getD (natOf (Ab.look env 133)) default).code.length ∧ y.2.2 ++ (((c.lanes.getD (natOf (Ab.look env 133)) default).code.drop y.1).flatMap i6B ++ ((c.lanes.drop (natOf (Ab.look env 133) + 1)).flatMap lanB)) = l ++ codeB c, mu := fun y => (c.lanes.getD (natOf (Ab.look env 133)) default).code.length - y.1 }
    | _ => none }
noncomputable section
def wr4q0 (p0 : List UInt8) (p1 : Nat) : List D := [ZB (BI p0 p1)]
def wr4q1 (p0 : CodD) : List Arr := CodD.consts p0
def wr4q2 (p0 : CodD) : Nat := LN (wr4q1 p0)
def wr4q3 (p0 : CodD) : Int := (NI (wr4q2 p0))
def wr4q4 (p0 : CodD) : D := ZI (wr4q3 p0)
def wr4q5 (p0 : CodD) : List D := [wr4q4 p0]
def wr4q6 (p0 : List UInt8) : List UInt8 := bytesOf (LN p0) fun (i : Nat) => wr4q0 p0 i
def wr4q7 (p0 : List UInt8) (p1 : CodD) : List UInt8 := p0 ++ codeB p1
def wr4q8 (p0 : Nat) (p1 : CodD) (p2 p3 : List UInt8) : Prop := p0 ≤ wr4q2 p1 ∧ p2 ++ (arrBL (List.drop p0 (wr4q1 p1)) ++ tl2 p1) = wr4q7 p3 p1
def wr4q9 (p0 p1 : List UInt8) (p2 p3 : Nat) : Prop := (LN p0 = LN p1 ∧ (∀ (i : Nat), i < LN p0 → wr4q0 p0 i = wr4q0 p1 i) ∧ p2 = p3) ∧ True
def wr4q10 : Arr := DA
def wr4q11 (p0 : CodD) (p1 : Nat) : Arr := List.getD (wr4q1 p0) p1 wr4q10
def wr4q12 (p0 : CodD) (p1 : Nat) : List Int := Arr.sh (wr4q11 p0 p1)
def wr4q13 (p0 : CodD) (p1 : Nat) : List Int := Arr.nu (wr4q11 p0 p1)
def wr4q14 (p0 : CodD) (p1 : Nat) : List Arr := Arr.it (wr4q11 p0 p1)
def wr4q15 (p0 : CodD) (p1 : Nat) : List D := [ZI (Arr.k (wr4q11 p0 p1)), SI (wr4q12 p0 p1), SI (wr4q13 p0 p1), D.sl N4 (LN (wr4q14 p0 p1)) (fun (i : Nat) => Arr.row (List.getD (wr4q14 p0 p1) i wr4q10)) Mode.any]
def wr4q16 (p0 : CodD) : List FnD := CodD.funs p0
def wr4q17 (p0 : CodD) : Nat := LN (wr4q16 p0)
def wr4q18 : FnD := DF
def wr4q19 (p0 : CodD) (p1 : Nat) : FnD := List.getD (wr4q16 p0) p1 wr4q18
def wr4q20 (p0 : CodD) (p1 : Nat) : List I4 := FnD.code (wr4q19 p0 p1)
def wr4q21 : I4 := D4
def wr4q22 (p0 : CodD) (p1 p2 : Nat) : I4 := List.getD (wr4q20 p0 p1) p2 wr4q21
def wr4q23 (p0 : CodD) (p1 : Nat) : List D := [ZI (FnD.slots (wr4q19 p0 p1)), D.sl N4 (LN (wr4q20 p0 p1)) (fun (i : Nat) => (R4 (wr4q22 p0 p1 i))) Mode.any]
def wr4q24 (p0 : CodD) : List KeD := CodD.kers p0
def wr4q25 (p0 : CodD) : Nat := LN (wr4q24 p0)
def wr4q26 : KeD := DK
def wr4q27 (p0 : CodD) (p1 : Nat) : KeD := List.getD (wr4q24 p0) p1 wr4q26
def wr4q28 (p0 : CodD) (p1 : Nat) : List I4 := KeD.ops (wr4q27 p0 p1)
def wr4q29 (p0 : CodD) (p1 p2 : Nat) : I4 := List.getD (wr4q28 p0 p1) p2 wr4q21
def wr4q30 (p0 : CodD) (p1 : Nat) : List D := [ZI (KeD.inputs (wr4q27 p0 p1)), D.sl N4 (LN (wr4q28 p0 p1)) (fun (i : Nat) => (R4 (wr4q29 p0 p1 i))) Mode.any, ZI (KeD.reduce (wr4q27 p0 p1)), ZI (KeD.at_ (wr4q27 p0 p1))]
def wr4q31 (p0 : CodD) : List LaD := CodD.lanes p0
def wr4q32 (p0 : CodD) : Nat := LN (wr4q31 p0)
def wr4q33 : LaD := DL
def wr4q34 (p0 : CodD) (p1 : Nat) : LaD := List.getD (wr4q31 p0) p1 wr4q33
def wr4q35 (p0 : CodD) (p1 : Nat) : List I6 := LaD.code (wr4q34 p0 p1)
def wr4q36 : I6 := D6
def wr4q37 (p0 : CodD) (p1 p2 : Nat) : I6 := List.getD (wr4q35 p0 p1) p2 wr4q36
def wr4q38 (p0 : CodD) (p1 : Nat) : List D := [ZI (LaD.regs (wr4q34 p0 p1)), D.sl N6 (LN (wr4q35 p0 p1)) (fun (i : Nat) => (R6 (wr4q37 p0 p1 i))) Mode.any]
def wr4q39 (p0 : Nat) (p1 : CodD) : Prop := SM p0 ∧ ((SM (wr4q2 p1) ∧ (∀ (i : Nat), i < wr4q2 p1 → SM (wr4q15 p1 i)) ∧ True) ∧ (SM (wr4q17 p1) ∧ (∀ (i : Nat), i < wr4q17 p1 → SM (wr4q23 p1 i)) ∧ True) ∧ (SM (wr4q25 p1) ∧ (∀ (i : Nat), i < wr4q25 p1 → SM (wr4q30 p1 i)) ∧ True) ∧ (SM (wr4q32 p1) ∧ (∀ (i : Nat), i < wr4q32 p1 → SM (wr4q38 p1 i)) ∧ True) ∧ True) ∧ True
def wr4q40 (p0 p1 : List UInt8) (p2 p3 p4 : Nat) (p5 : CodD) : Prop := wr4q9 p0 p1 p2 p3 ∧ wr4q39 p4 p5
def wr4q41 (p0 : Nat) (p1 p2 : List UInt8) (p3 p4 p5 : Nat) (p6 : CodD) : Prop := (SM p0 ∧ wr4q40 p1 p2 p3 p4 p5 p6) ∧ p3 = p4 ∧ True
def wr4q42 (p0 p1 : Nat) (p2 p3 : List UInt8) (p4 p5 p6 : Nat) (p7 : CodD) : Prop := (Z0 = (↑p0 : Int) ∧ True) ∧ wr4q41 p1 p2 p3 p4 p5 p6 p7
def wr4q43 (p0 : CodD) (p1 : Nat) : Arr := List.getD (wr4q1 p0) (Int.toNat (↑p1 : Int)) wr4q10
def wr4q44 (p0 : CodD) (p1 : Nat) : List Int := Arr.sh (wr4q43 p0 p1)
def wr4q45 (p0 : CodD) (p1 : Nat) : Nat := LN (wr4q44 p0 p1)
def wr4q46 (p0 : CodD) (p1 : Nat) : List Int := Arr.nu (wr4q43 p0 p1)
def wr4q47 (p0 : CodD) (p1 : Nat) : Nat := LN (wr4q46 p0 p1)
def wr4q48 (p0 : CodD) (p1 : Nat) : List Arr := Arr.it (wr4q43 p0 p1)
def wr4q49 (p0 : CodD) (p1 : Nat) : Nat := LN (wr4q48 p0 p1)
def wr4q50 (p0 p1 : List UInt8) (p2 p3 : Nat) : Prop := wr4q9 p0 p1 p2 p3 ∧ True
def wr4q51 (p0 : Nat) : Prop := SM (D.ref N0 p0 N0)
def wr4q52 (p0 : Nat) : Prop := SM (D.ref N1 p0 N0)
def wr4q53 (p0 : CodD) : D := D.sl N4 (wr4q2 p0) (fun (i : Nat) => wr4q15 p0 i) Mode.any
def wr4q54 (p0 p1 : Nat) : Prop := IntKind.wrap IntKind.i64 ((↑p0 : Int) + Z1) = (↑p1 : Int) ∧ True
def wr4q55 (p0 : Nat) : Prop := tokIs [(N0, p0)] N0 p0
def wr4q56 (p0 : CodD) : Int := (NI (wr4q17 p0))
def wr4q57 (p0 : CodD) : D := ZI (wr4q56 p0)
def wr4q58 (p0 : CodD) : List D := [wr4q57 p0]
def wr4q59 (p0 : Nat) (p1 : CodD) (p2 p3 : List UInt8) : Prop := p0 ≤ wr4q17 p1 ∧ p2 ++ (List.flatMap funB (List.drop p0 (wr4q16 p1)) ++ tl3 p1) = wr4q7 p3 p1
def wr4q60 (p0 : CodD) (p1 : Nat) : FnD := List.getD (wr4q16 p0) (Int.toNat (↑p1 : Int)) wr4q18
def wr4q61 (p0 : CodD) (p1 : Nat) : Int := FnD.slots (wr4q60 p0 p1)
def wr4q62 (p0 : CodD) (p1 : Nat) : List D := [ZI (wr4q61 p0 p1)]
def wr4q63 (p0 : CodD) (p1 : Nat) : List I4 := FnD.code (wr4q60 p0 p1)
def wr4q64 (p0 : CodD) (p1 : Nat) : Nat := LN (wr4q63 p0 p1)
def wr4q65 (p0 : CodD) (p1 : Nat) : Int := (NI (wr4q64 p0 p1))
def wr4q66 (p0 : CodD) (p1 : Nat) : D := ZI (wr4q65 p0 p1)
def wr4q67 (p0 : CodD) (p1 : Nat) : List D := [wr4q66 p0 p1]
def wr4q68 (p0 : Nat) : Nat := natOf (ZI (↑p0 : Int))
def wr4q69 (p0 : CodD) (p1 : Nat) : List I4 := FnD.code (List.getD (wr4q16 p0) (wr4q68 p1) wr4q18)
def wr4q70 (p0 : CodD) (p1 : Nat) : Nat := LN (wr4q69 p0 p1)
def wr4q71 (p0 : Nat) : Nat := wr4q68 p0 + N1
def wr4q72 (p0 : Nat) (p1 : CodD) (p2 : Nat) (p3 p4 : List UInt8) : Prop := p0 ≤ wr4q70 p1 p2 ∧ p3 ++ (List.flatMap i4B (List.drop p0 (wr4q69 p1 p2)) ++ (List.flatMap funB (List.drop (wr4q71 p2) (wr4q16 p1)) ++ tl3 p1)) = wr4q7 p4 p1
def wr4q73 (p0 : CodD) (p1 p2 : Nat) : I4 := List.getD (wr4q63 p0 p1) p2 wr4q21
def wr4q74 (p0 : CodD) (p1 p2 : Nat) : List D := (R4 (wr4q73 p0 p1 p2))
def wr4q75 (p0 : Nat) (p1 p2 : List UInt8) (p3 p4 p5 : Nat) (p6 : CodD) (p7 p8 : Nat) : Prop := (SM p0 ∧ wr4q9 p1 p2 p3 p4 ∧ SM p5 ∧ (SM (wr4q61 p6 p7) ∧ (SM (wr4q64 p6 p7) ∧ (∀ (i : Nat), i < wr4q64 p6 p7 → SM (wr4q74 p6 p7 i)) ∧ True) ∧ True) ∧ wr4q39 p8 p6) ∧ p3 = p4 ∧ True
def wr4q76 (p0 : CodD) (p1 p2 : Nat) : I4 := List.getD (wr4q63 p0 p1) (Int.toNat (↑p2 : Int)) wr4q21
def wr4q77 (p0 : CodD) (p1 p2 : Nat) : List D := [ZI (I4.a (wr4q76 p0 p1 p2))]
def wr4q78 (p0 : CodD) (p1 p2 : Nat) : List D := [ZI (I4.b (wr4q76 p0 p1 p2))]
def wr4q79 (p0 : CodD) (p1 p2 : Nat) : List D := [ZI (I4.c (wr4q76 p0 p1 p2))]
def wr4q80 (p0 : CodD) (p1 p2 : Nat) : List D := [ZI (I4.d (wr4q76 p0 p1 p2))]
def wr4q81 (p0 : Nat) : Prop := SM (D.ref (max N1 (max (N1 + N1) N0)) p0 N0)
def wr4q82 (p0 : CodD) : D := D.sl N2 (wr4q17 p0) (fun (i : Nat) => wr4q23 p0 i) Mode.any
def wr4q83 (p0 : CodD) : Prop := SM (wr4q82 p0)
def wr4q84 (p0 : CodD) : Prop := SM (wr4q57 p0)
def wr4q85 (p0 : Nat) : Prop := SM (ZI (↑p0 : Int))
def wr4q86 (p0 : CodD) (p1 : Nat) : D := D.sl N4 (wr4q64 p0 p1) (fun (i : Nat) => wr4q74 p0 p1 i) Mode.any
def wr4q87 (p0 : CodD) (p1 p2 : Nat) : Nat := wr4q70 p0 p1 - p2
def wr4q88 (p0 p1 p2 : Nat) (p3 p4 : List UInt8) (p5 p6 p7 : Nat) (p8 : CodD) : Prop := wr4q54 p0 p1 ∧ wr4q41 p2 p3 p4 p5 p6 p7 p8
def wr4q89 (p0 : CodD) : Int := (NI (wr4q25 p0))
def wr4q90 (p0 : CodD) : D := ZI (wr4q89 p0)
def wr4q91 (p0 : CodD) : List D := [wr4q90 p0]
def wr4q92 (p0 : Nat) (p1 : CodD) (p2 p3 : List UInt8) : Prop := p0 ≤ wr4q25 p1 ∧ p2 ++ (List.flatMap kerY (List.drop p0 (wr4q24 p1)) ++ tl4 p1) = wr4q7 p3 p1
def wr4q93 (p0 : CodD) (p1 : Nat) : KeD := List.getD (wr4q24 p0) (Int.toNat (↑p1 : Int)) wr4q26
def wr4q94 (p0 : CodD) (p1 : Nat) : Int := KeD.inputs (wr4q93 p0 p1)
def wr4q95 (p0 : CodD) (p1 : Nat) : List D := [ZI (wr4q94 p0 p1)]
def wr4q96 (p0 : CodD) (p1 : Nat) : List I4 := KeD.ops (wr4q93 p0 p1)
def wr4q97 (p0 : CodD) (p1 : Nat) : Nat := LN (wr4q96 p0 p1)
def wr4q98 (p0 : CodD) (p1 : Nat) : Int := (NI (wr4q97 p0 p1))
def wr4q99 (p0 : CodD) (p1 : Nat) : D := ZI (wr4q98 p0 p1)
def wr4q100 (p0 : CodD) (p1 : Nat) : List D := [wr4q99 p0 p1]
def wr4q101 (p0 : CodD) (p1 : Nat) : KeD := List.getD (wr4q24 p0) (wr4q68 p1) wr4q26
def wr4q102 (p0 : CodD) (p1 : Nat) : List I4 := KeD.ops (wr4q101 p0 p1)
def wr4q103 (p0 : CodD) (p1 : Nat) : Nat := LN (wr4q102 p0 p1)
def wr4q104 (p0 : Nat) (p1 : CodD) (p2 : Nat) (p3 p4 : List UInt8) : Prop := p0 ≤ wr4q103 p1 p2 ∧ p3 ++ (List.flatMap i4B (List.drop p0 (wr4q102 p1 p2)) ++ (numsB [KeD.reduce (wr4q101 p1 p2), KeD.at_ (wr4q101 p1 p2)] ++ (List.flatMap kerY (List.drop (wr4q71 p2) (wr4q24 p1)) ++ tl4 p1))) = wr4q7 p4 p1
def wr4q105 (p0 : CodD) (p1 p2 : Nat) : I4 := List.getD (wr4q96 p0 p1) p2 wr4q21
def wr4q106 (p0 : CodD) (p1 p2 : Nat) : List D := (R4 (wr4q105 p0 p1 p2))
def wr4q107 (p0 : CodD) (p1 : Nat) : Int := KeD.reduce (wr4q93 p0 p1)
def wr4q108 (p0 : CodD) (p1 : Nat) : Int := KeD.at_ (wr4q93 p0 p1)
def wr4q109 (p0 : Nat) (p1 p2 : List UInt8) (p3 p4 p5 : Nat) (p6 : CodD) (p7 p8 : Nat) : Prop := (SM p0 ∧ wr4q9 p1 p2 p3 p4 ∧ SM p5 ∧ (SM (wr4q94 p6 p7) ∧ (SM (wr4q97 p6 p7) ∧ (∀ (i : Nat), i < wr4q97 p6 p7 → SM (wr4q106 p6 p7 i)) ∧ True) ∧ SM (wr4q107 p6 p7) ∧ SM (wr4q108 p6 p7) ∧ True) ∧ wr4q39 p8 p6) ∧ p3 = p4 ∧ True
def wr4q110 (p0 : CodD) (p1 p2 : Nat) : I4 := List.getD (wr4q96 p0 p1) (Int.toNat (↑p2 : Int)) wr4q21
def wr4q111 (p0 : CodD) (p1 p2 : Nat) : List D := [ZI (I4.a (wr4q110 p0 p1 p2))]
def wr4q112 (p0 : CodD) (p1 p2 : Nat) : List D := [ZI (I4.b (wr4q110 p0 p1 p2))]
def wr4q113 (p0 : CodD) (p1 p2 : Nat) : List D := [ZI (I4.c (wr4q110 p0 p1 p2))]
def wr4q114 (p0 : CodD) (p1 p2 : Nat) : List D := [ZI (I4.d (wr4q110 p0 p1 p2))]
def wr4q115 (p0 : CodD) : D := D.sl N4 (wr4q25 p0) (fun (i : Nat) => wr4q30 p0 i) Mode.any
def wr4q116 (p0 : CodD) : Prop := SM (wr4q115 p0)
def wr4q117 (p0 : CodD) : Prop := SM (wr4q90 p0)
def wr4q118 (p0 : CodD) (p1 : Nat) : D := D.sl N4 (wr4q97 p0 p1) (fun (i : Nat) => wr4q106 p0 p1 i) Mode.any
def wr4q119 (p0 : CodD) (p1 p2 : Nat) : Nat := wr4q103 p0 p1 - p2
def wr4q120 (p0 : CodD) (p1 : Nat) : List D := [ZI (wr4q107 p0 p1)]
def wr4q121 (p0 : CodD) (p1 : Nat) : List D := [ZI (wr4q108 p0 p1)]
def wr4q122 (p0 : CodD) : Int := (NI (wr4q32 p0))
def wr4q123 (p0 : CodD) : D := ZI (wr4q122 p0)
def wr4q124 (p0 : CodD) : List D := [wr4q123 p0]
def wr4q125 (p0 : Nat) (p1 : CodD) (p2 p3 : List UInt8) : Prop := p0 ≤ wr4q32 p1 ∧ p2 ++ List.flatMap lanB (List.drop p0 (wr4q31 p1)) = wr4q7 p3 p1
def wr4q126 (p0 : CodD) (p1 : Nat) : LaD := List.getD (wr4q31 p0) (Int.toNat (↑p1 : Int)) wr4q33
def wr4q127 (p0 : CodD) (p1 : Nat) : Int := LaD.regs (wr4q126 p0 p1)
def wr4q128 (p0 : CodD) (p1 : Nat) : List D := [ZI (wr4q127 p0 p1)]
def wr4q129 (p0 : CodD) (p1 : Nat) : List I6 := LaD.code (wr4q126 p0 p1)
def wr4q130 (p0 : CodD) (p1 : Nat) : Nat := LN (wr4q129 p0 p1)
def wr4q131 (p0 : CodD) (p1 : Nat) : Int := (NI (wr4q130 p0 p1))
def wr4q132 (p0 : CodD) (p1 : Nat) : D := ZI (wr4q131 p0 p1)
def wr4q133 (p0 : CodD) (p1 : Nat) : List D := [wr4q132 p0 p1]
def wr4q134 (p0 : CodD) (p1 : Nat) : List I6 := LaD.code (List.getD (wr4q31 p0) (wr4q68 p1) wr4q33)
def wr4q135 (p0 : CodD) (p1 : Nat) : Nat := LN (wr4q134 p0 p1)
def wr4q136 (p0 : Nat) (p1 : CodD) (p2 : Nat) (p3 p4 : List UInt8) : Prop := p0 ≤ wr4q135 p1 p2 ∧ p3 ++ (List.flatMap i6B (List.drop p0 (wr4q134 p1 p2)) ++ List.flatMap lanB (List.drop (wr4q71 p2) (wr4q31 p1))) = wr4q7 p4 p1
def wr4q137 (p0 : CodD) (p1 p2 : Nat) : I6 := List.getD (wr4q129 p0 p1) p2 wr4q36
def wr4q138 (p0 : CodD) (p1 p2 : Nat) : List D := (R6 (wr4q137 p0 p1 p2))
def wr4q139 (p0 : Nat) (p1 p2 : List UInt8) (p3 p4 p5 : Nat) (p6 : CodD) (p7 p8 : Nat) : Prop := (SM p0 ∧ wr4q9 p1 p2 p3 p4 ∧ SM p5 ∧ (SM (wr4q127 p6 p7) ∧ (SM (wr4q130 p6 p7) ∧ (∀ (i : Nat), i < wr4q130 p6 p7 → SM (wr4q138 p6 p7 i)) ∧ True) ∧ True) ∧ wr4q39 p8 p6) ∧ p3 = p4 ∧ True
def wr4q140 (p0 : CodD) (p1 p2 : Nat) : I6 := List.getD (wr4q129 p0 p1) (Int.toNat (↑p2 : Int)) wr4q36
def wr4q141 (p0 : CodD) (p1 p2 : Nat) : List D := [ZI (I6.a (wr4q140 p0 p1 p2))]
def wr4q142 (p0 : CodD) (p1 p2 : Nat) : List D := [ZI (I6.b (wr4q140 p0 p1 p2))]
def wr4q143 (p0 : CodD) (p1 p2 : Nat) : List D := [ZI (I6.c (wr4q140 p0 p1 p2))]
def wr4q144 (p0 : CodD) (p1 p2 : Nat) : List D := [ZI (I6.d (wr4q140 p0 p1 p2))]
def wr4q145 (p0 : CodD) (p1 p2 : Nat) : List D := [ZI (I6.e (wr4q140 p0 p1 p2))]
def wr4q146 (p0 : CodD) (p1 p2 : Nat) : List D := [ZI (I6.f (wr4q140 p0 p1 p2))]
def wr4q147 (p0 : CodD) : D := D.sl N2 (wr4q32 p0) (fun (i : Nat) => wr4q38 p0 i) Mode.any
def wr4q148 (p0 : CodD) : Prop := SM (wr4q147 p0)
def wr4q149 (p0 : CodD) : Prop := SM (wr4q123 p0)
def wr4q150 (p0 : CodD) (p1 : Nat) : D := D.sl N6 (wr4q130 p0 p1) (fun (i : Nat) => wr4q138 p0 p1 i) Mode.any
def wr4q151 (p0 : CodD) (p1 p2 : Nat) : Nat := wr4q135 p0 p1 - p2
end
theorem wc_ok (x : Nat) (l : List UInt8) (c : CodD) (hc : c.ok) (hl : l.length + (codeB c).length ≤ 35184372088832) (hs : ∀ a ∈ c.consts, 10 * szA a ≤ 35184372088832) :
    ACalls Try.prog 21 ((sWc x l c c.row1).args ()) ((sWc x l c c.row1).st ()) (SpecR (sWc x l c c.row1) ()) := by
  refine con_of (A := sWc x l c c.row1) (x := ()) (E := Ewc l c) (eOk (conWc_ok hc) rfl) Try.func21 rfl (by kernel_rfl) rfl (by simp [sWc, Ewc, EC, E0]) ?_
  refine vc_eq (T :=
    ∀ (x_1 : Nat), x ≠ x_1 ∧ True → SM x_1 ∧ ((SM x ∧ fitP (LN l) (fun (i : Nat) => wr4q0 l i) N1 fun (i : Nat) => List.getD [wr4q5 c] i []) ∧ True) ∧ ∀ (y : Nat × List UInt8), y.2 = wr4q6 l ++ numsB [rowInt (wr4q5 c)] → SM x_1 ∧ (∃ (x_2 : Nat × Nat × List UInt8), wr4q8 x_2.1 c x_2.2.2 l ∧ wr4q42 x_2.1 x y.2 x_2.2.2 y.1 x_2.2.1 x_1 c) ∧ ∀ (x_2 : Nat × Nat × List UInt8), wr4q8 x_2.1 c x_2.2.2 l → ifB (decide ((NI x_2.1) < wr4q3 c)) (side (Z0 ≤ (NI x_2.1) ∧ (NI x_2.1) < wr4q3 c) (∀ (x_3 : Nat), x ≠ x_3 ∧ x_1 ≠ x_3 ∧ True → SM x_3 ∧ SM x_3 ∧ ∃ (x_4 : Nat × Nat × List UInt8 × Arr), (x = x_4.1 ∧ (Arr.k (wr4q43 c x_2.1) = Arr.k x_4.2.2.2 ∧ (wr4q45 c x_2.1 = LN (Arr.sh x_4.2.2.2) ∧ (∀ (i : Nat), i < wr4q45 c x_2.1 → [ZI (GI (wr4q44 c x_2.1) i)] = [ZI (GI (Arr.sh x_4.2.2.2) i)]) ∧ True) ∧ (wr4q47 c x_2.1 = LN (Arr.nu x_4.2.2.2) ∧ (∀ (i : Nat), i < wr4q47 c x_2.1 → [ZI (GI (wr4q46 c x_2.1) i)] = [ZI (GI (Arr.nu x_4.2.2.2) i)]) ∧ True) ∧ (wr4q49 c x_2.1 = LN (Arr.it x_4.2.2.2) ∧ (∀ (i : Nat), i < wr4q49 c x_2.1 → Arr.row (List.getD (wr4q48 c x_2.1) i wr4q10) = Arr.row (List.getD (Arr.it x_4.2.2.2) i wr4q10)) ∧ True) ∧ True) ∧ True) ∧ ((x = x_4.1 ∧ wr4q50 x_2.2.2 x_4.2.2.1 x_2.2.1 x_4.2.1) ∧ x_2.2.1 = x_4.2.1 ∧ True) ∧ (x_4.2.2.2 ∈ wr4q1 c ∧ LN x_4.2.2.1 + (10 : Nat) * szA x_4.2.2.2 ≤ (70368744177664 : Nat)) ∧ ∀ (y : Nat × List UInt8), y.2 = x_4.2.2.1 ++ arrB x_4.2.2.2 → (wr4q51 x ∧ wr4q52 x_1 ∧ SM (wr4q53 c) ∧ SM (wr4q4 c) ∧ True) ∧ ∃ (y_1 : Nat × Nat × List UInt8), wr4q8 y_1.1 c y_1.2.2 l ∧ wr4q2 c - y_1.1 < wr4q2 c - x_2.1 ∧ wr4q54 x_2.1 y_1.1 ∧ (x_4.1 = x ∧ wr4q40 y.2 y_1.2.2 y.1 y_1.2.1 x_1 c) ∧ y.1 = y_1.2.1 ∧ True)) (SM x_1 ∧ ((SM x ∧ wr4q55 x_2.2.1 ∧ fitP (LN x_2.2.2) (fun (i : Nat) => wr4q0 x_2.2.2 i) N1 fun (i : Nat) => List.getD [wr4q58 c] i []) ∧ True) ∧ ∀ (y : Nat × List UInt8), y.2 = wr4q6 x_2.2.2 ++ numsB [rowInt (wr4q58 c)] → SM x_1 ∧ (∃ (x_3 : Nat × Nat × List UInt8), wr4q59 x_3.1 c x_3.2.2 l ∧ wr4q42 x_3.1 x y.2 x_3.2.2 y.1 x_3.2.1 x_1 c) ∧ ∀ (x_3 : Nat × Nat × List UInt8), wr4q59 x_3.1 c x_3.2.2 l → ifB (decide ((NI x_3.1) < wr4q56 c)) (side (Z0 ≤ (NI x_3.1) ∧ (NI x_3.1) < wr4q56 c) (∀ (x_4 : Nat), x ≠ x_4 ∧ x_1 ≠ x_4 ∧ True → SM x_4 ∧ SM x_4 ∧ SM x_4 ∧ ((SM x ∧ wr4q55 x_3.2.1 ∧ fitP (LN x_3.2.2) (fun (i : Nat) => wr4q0 x_3.2.2 i) N2 fun (i : Nat) => List.getD [wr4q62 c x_3.1, wr4q67 c x_3.1] i []) ∧ True) ∧ ∀ (y : Nat × List UInt8), y.2 = wr4q6 x_3.2.2 ++ numsB [rowInt (wr4q62 c x_3.1), rowInt (wr4q67 c x_3.1)] → SM x_4 ∧ (∃ (x_5 : Nat × Nat × List UInt8), wr4q72 x_5.1 c x_3.1 x_5.2.2 l ∧ (Z0 = (NI x_5.1) ∧ True) ∧ wr4q75 x y.2 x_5.2.2 y.1 x_5.2.1 x_4 c x_3.1 x_1) ∧ ∀ (x_5 : Nat × Nat × List UInt8), wr4q72 x_5.1 c x_3.1 x_5.2.2 l → ifB (decide ((NI x_5.1) < wr4q65 c x_3.1)) (side (Z0 ≤ (NI x_5.1) ∧ (NI x_5.1) < wr4q65 c x_3.1) (∀ (x_6 : Nat), x ≠ x_6 ∧ x_4 ≠ x_6 ∧ x_1 ≠ x_6 ∧ True → SM x_6 ∧ SM x_6 ∧ SM x_6 ∧ SM x_6 ∧ SM x_6 ∧ ((SM x ∧ wr4q55 x_5.2.1 ∧ fitP (LN x_5.2.2) (fun (i : Nat) => wr4q0 x_5.2.2 i) N4 fun (i : Nat) => List.getD [wr4q77 c x_3.1 x_5.1, wr4q78 c x_3.1 x_5.1, wr4q79 c x_3.1 x_5.1, wr4q80 c x_3.1 x_5.1] i []) ∧ True) ∧ ∀ (y : Nat × List UInt8), y.2 = wr4q6 x_5.2.2 ++ numsB [rowInt (wr4q77 c x_3.1 x_5.1), rowInt (wr4q78 c x_3.1 x_5.1), rowInt (wr4q79 c x_3.1 x_5.1), rowInt (wr4q80 c x_3.1 x_5.1)] → (wr4q51 x ∧ wr4q52 x_1 ∧ wr4q81 x_4 ∧ wr4q83 c ∧ wr4q84 c ∧ wr4q85 x_3.1 ∧ SM (wr4q86 c x_3.1) ∧ SM (wr4q66 c x_3.1) ∧ True) ∧ ∃ (y_1 : Nat × Nat × List UInt8), wr4q72 y_1.1 c x_3.1 y_1.2.2 l ∧ wr4q87 c x_3.1 y_1.1 < wr4q87 c x_3.1 x_5.1 ∧ wr4q54 x_5.1 y_1.1 ∧ wr4q75 x y.2 y_1.2.2 y.1 y_1.2.1 x_4 c x_3.1 x_1)) ((wr4q51 x ∧ wr4q52 x_1 ∧ wr4q83 c ∧ wr4q84 c ∧ True) ∧ ∃ (y : Nat × Nat × List UInt8), wr4q59 y.1 c y.2.2 l ∧ wr4q17 c - y.1 < wr4q17 c - x_3.1 ∧ wr4q88 x_3.1 y.1 x x_5.2.2 y.2.2 x_5.2.1 y.2.1 x_1 c))) (SM x_1 ∧ ((SM x ∧ wr4q55 x_3.2.1 ∧ fitP (LN x_3.2.2) (fun (i : Nat) => wr4q0 x_3.2.2 i) N1 fun (i : Nat) => List.getD [wr4q91 c] i []) ∧ True) ∧ ∀ (y : Nat × List UInt8), y.2 = wr4q6 x_3.2.2 ++ numsB [rowInt (wr4q91 c)] → SM x_1 ∧ (∃ (x_4 : Nat × Nat × List UInt8), wr4q92 x_4.1 c x_4.2.2 l ∧ wr4q42 x_4.1 x y.2 x_4.2.2 y.1 x_4.2.1 x_1 c) ∧ ∀ (x_4 : Nat × Nat × List UInt8), wr4q92 x_4.1 c x_4.2.2 l → ifB (decide ((NI x_4.1) < wr4q89 c)) (side (Z0 ≤ (NI x_4.1) ∧ (NI x_4.1) < wr4q89 c) (∀ (x_5 : Nat), x ≠ x_5 ∧ x_1 ≠ x_5 ∧ True → SM x_5 ∧ SM x_5 ∧ SM x_5 ∧ ((SM x ∧ wr4q55 x_4.2.1 ∧ fitP (LN x_4.2.2) (fun (i : Nat) => wr4q0 x_4.2.2 i) N2 fun (i : Nat) => List.getD [wr4q95 c x_4.1, wr4q100 c x_4.1] i []) ∧ True) ∧ ∀ (y : Nat × List UInt8), y.2 = wr4q6 x_4.2.2 ++ numsB [rowInt (wr4q95 c x_4.1), rowInt (wr4q100 c x_4.1)] → SM x_5 ∧ (∃ (x_6 : Nat × Nat × List UInt8), wr4q104 x_6.1 c x_4.1 x_6.2.2 l ∧ (Z0 = (NI x_6.1) ∧ True) ∧ wr4q109 x y.2 x_6.2.2 y.1 x_6.2.1 x_5 c x_4.1 x_1) ∧ ∀ (x_6 : Nat × Nat × List UInt8), wr4q104 x_6.1 c x_4.1 x_6.2.2 l → ifB (decide ((NI x_6.1) < wr4q98 c x_4.1)) (side (Z0 ≤ (NI x_6.1) ∧ (NI x_6.1) < wr4q98 c x_4.1) (∀ (x_7 : Nat), x ≠ x_7 ∧ x_5 ≠ x_7 ∧ x_1 ≠ x_7 ∧ True → SM x_7 ∧ SM x_7 ∧ SM x_7 ∧ SM x_7 ∧ SM x_7 ∧ ((SM x ∧ wr4q55 x_6.2.1 ∧ fitP (LN x_6.2.2) (fun (i : Nat) => wr4q0 x_6.2.2 i) N4 fun (i : Nat) => List.getD [wr4q111 c x_4.1 x_6.1, wr4q112 c x_4.1 x_6.1, wr4q113 c x_4.1 x_6.1, wr4q114 c x_4.1 x_6.1] i []) ∧ True) ∧ ∀ (y : Nat × List UInt8), y.2 = wr4q6 x_6.2.2 ++ numsB [rowInt (wr4q111 c x_4.1 x_6.1), rowInt (wr4q112 c x_4.1 x_6.1), rowInt (wr4q113 c x_4.1 x_6.1), rowInt (wr4q114 c x_4.1 x_6.1)] → (wr4q51 x ∧ wr4q52 x_1 ∧ wr4q81 x_5 ∧ wr4q116 c ∧ wr4q117 c ∧ wr4q85 x_4.1 ∧ SM (wr4q118 c x_4.1) ∧ SM (wr4q99 c x_4.1) ∧ True) ∧ ∃ (y_1 : Nat × Nat × List UInt8), wr4q104 y_1.1 c x_4.1 y_1.2.2 l ∧ wr4q119 c x_4.1 y_1.1 < wr4q119 c x_4.1 x_6.1 ∧ wr4q54 x_6.1 y_1.1 ∧ wr4q109 x y.2 y_1.2.2 y.1 y_1.2.1 x_5 c x_4.1 x_1)) (SM x_5 ∧ SM x_5 ∧ ((SM x ∧ wr4q55 x_6.2.1 ∧ fitP (LN x_6.2.2) (fun (i : Nat) => wr4q0 x_6.2.2 i) N2 fun (i : Nat) => List.getD [wr4q120 c x_4.1, wr4q121 c x_4.1] i []) ∧ True) ∧ ∀ (y : Nat × List UInt8), y.2 = wr4q6 x_6.2.2 ++ numsB [rowInt (wr4q120 c x_4.1), rowInt (wr4q121 c x_4.1)] → (wr4q51 x ∧ wr4q52 x_1 ∧ wr4q116 c ∧ wr4q117 c ∧ True) ∧ ∃ (y_1 : Nat × Nat × List UInt8), wr4q92 y_1.1 c y_1.2.2 l ∧ wr4q25 c - y_1.1 < wr4q25 c - x_4.1 ∧ wr4q88 x_4.1 y_1.1 x y.2 y_1.2.2 y.1 y_1.2.1 x_1 c))) (SM x_1 ∧ ((SM x ∧ wr4q55 x_4.2.1 ∧ fitP (LN x_4.2.2) (fun (i : Nat) => wr4q0 x_4.2.2 i) N1 fun (i : Nat) => List.getD [wr4q124 c] i []) ∧ True) ∧ ∀ (y : Nat × List UInt8), y.2 = wr4q6 x_4.2.2 ++ numsB [rowInt (wr4q124 c)] → SM x_1 ∧ (∃ (x_5 : Nat × Nat × List UInt8), wr4q125 x_5.1 c x_5.2.2 l ∧ wr4q42 x_5.1 x y.2 x_5.2.2 y.1 x_5.2.1 x_1 c) ∧ ∀ (x_5 : Nat × Nat × List UInt8), wr4q125 x_5.1 c x_5.2.2 l → ifB (decide ((NI x_5.1) < wr4q122 c)) (side (Z0 ≤ (NI x_5.1) ∧ (NI x_5.1) < wr4q122 c) (∀ (x_6 : Nat), x ≠ x_6 ∧ x_1 ≠ x_6 ∧ True → SM x_6 ∧ SM x_6 ∧ SM x_6 ∧ ((SM x ∧ wr4q55 x_5.2.1 ∧ fitP (LN x_5.2.2) (fun (i : Nat) => wr4q0 x_5.2.2 i) N2 fun (i : Nat) => List.getD [wr4q128 c x_5.1, wr4q133 c x_5.1] i []) ∧ True) ∧ ∀ (y : Nat × List UInt8), y.2 = wr4q6 x_5.2.2 ++ numsB [rowInt (wr4q128 c x_5.1), rowInt (wr4q133 c x_5.1)] → SM x_6 ∧ (∃ (x_7 : Nat × Nat × List UInt8), wr4q136 x_7.1 c x_5.1 x_7.2.2 l ∧ (Z0 = (NI x_7.1) ∧ True) ∧ wr4q139 x y.2 x_7.2.2 y.1 x_7.2.1 x_6 c x_5.1 x_1) ∧ ∀ (x_7 : Nat × Nat × List UInt8), wr4q136 x_7.1 c x_5.1 x_7.2.2 l → ifB (decide ((NI x_7.1) < wr4q131 c x_5.1)) (side (Z0 ≤ (NI x_7.1) ∧ (NI x_7.1) < wr4q131 c x_5.1) (∀ (x_8 : Nat), x ≠ x_8 ∧ x_6 ≠ x_8 ∧ x_1 ≠ x_8 ∧ True → SM x_8 ∧ SM x_8 ∧ SM x_8 ∧ SM x_8 ∧ SM x_8 ∧ SM x_8 ∧ SM x_8 ∧ ((SM x ∧ wr4q55 x_7.2.1 ∧ fitP (LN x_7.2.2) (fun (i : Nat) => wr4q0 x_7.2.2 i) N6 fun (i : Nat) => List.getD [wr4q141 c x_5.1 x_7.1, wr4q142 c x_5.1 x_7.1, wr4q143 c x_5.1 x_7.1, wr4q144 c x_5.1 x_7.1, wr4q145 c x_5.1 x_7.1, wr4q146 c x_5.1 x_7.1] i []) ∧ True) ∧ ∀ (y : Nat × List UInt8), y.2 = wr4q6 x_7.2.2 ++ numsB [rowInt (wr4q141 c x_5.1 x_7.1), rowInt (wr4q142 c x_5.1 x_7.1), rowInt (wr4q143 c x_5.1 x_7.1), rowInt (wr4q144 c x_5.1 x_7.1), rowInt (wr4q145 c x_5.1 x_7.1), rowInt (wr4q146 c x_5.1 x_7.1)] → (wr4q51 x ∧ wr4q52 x_1 ∧ wr4q81 x_6 ∧ wr4q148 c ∧ wr4q149 c ∧ wr4q85 x_5.1 ∧ SM (wr4q150 c x_5.1) ∧ SM (wr4q132 c x_5.1) ∧ True) ∧ ∃ (y_1 : Nat × Nat × List UInt8), wr4q136 y_1.1 c x_5.1 y_1.2.2 l ∧ wr4q151 c x_5.1 y_1.1 < wr4q151 c x_5.1 x_7.1 ∧ wr4q54 x_7.1 y_1.1 ∧ wr4q139 x y.2 y_1.2.2 y.1 y_1.2.1 x_6 c x_5.1 x_1)) ((wr4q51 x ∧ wr4q52 x_1 ∧ wr4q148 c ∧ wr4q149 c ∧ True) ∧ ∃ (y : Nat × Nat × List UInt8), wr4q125 y.1 c y.2.2 l ∧ wr4q32 c - y.1 < wr4q32 c - x_5.1 ∧ wr4q88 x_5.1 y.1 x x_7.2.2 y.2.2 x_7.2.1 y.2.1 x_1 c))) (True ∧ ∃ (y : Nat × List UInt8), y.2 = wr4q7 l c ∧ True ∧ (SM x ∧ wr4q50 x_5.2.2 y.2 x_5.2.1 y.1) ∧ x_5.2.1 = y.1 ∧ True))))) (by kernel_rfl) ?_
  delta BI D4 D6 DA DF DK DL GI LN N0 N1 N2 N4 N6 NI R4 R6 SI SM U0 Z0 Z1 ZB ZI wr4q0 wr4q1 wr4q10 wr4q100 wr4q101 wr4q102 wr4q103 wr4q104 wr4q105 wr4q106 wr4q107 wr4q108 wr4q109 wr4q11 wr4q110 wr4q111 wr4q112 wr4q113 wr4q114 wr4q115 wr4q116 wr4q117 wr4q118 wr4q119 wr4q12 wr4q120 wr4q121 wr4q122 wr4q123 wr4q124 wr4q125 wr4q126 wr4q127 wr4q128 wr4q129 wr4q13 wr4q130 wr4q131 wr4q132 wr4q133 wr4q134 wr4q135 wr4q136 wr4q137 wr4q138 wr4q139 wr4q14 wr4q140 wr4q141 wr4q142 wr4q143 wr4q144 wr4q145 wr4q146 wr4q147 wr4q148 wr4q149 wr4q15 wr4q150 wr4q151 wr4q16 wr4q17 wr4q18 wr4q19 wr4q2 wr4q20 wr4q21 wr4q22 wr4q23 wr4q24 wr4q25 wr4q26 wr4q27 wr4q28 wr4q29 wr4q3 wr4q30 wr4q31 wr4q32 wr4q33 wr4q34 wr4q35 wr4q36 wr4q37 wr4q38 wr4q39 wr4q4 wr4q40 wr4q41 wr4q42 wr4q43 wr4q44 wr4q45 wr4q46 wr4q47 wr4q48 wr4q49 wr4q5 wr4q50 wr4q51 wr4q52 wr4q53 wr4q54 wr4q55 wr4q56 wr4q57 wr4q58 wr4q59 wr4q6 wr4q60 wr4q61 wr4q62 wr4q63 wr4q64 wr4q65 wr4q66 wr4q67 wr4q68 wr4q69 wr4q7 wr4q70 wr4q71 wr4q72 wr4q73 wr4q74 wr4q75 wr4q76 wr4q77 wr4q78 wr4q79 wr4q8 wr4q80 wr4q81 wr4q82 wr4q83 wr4q84 wr4q85 wr4q86 wr4q87 wr4q88 wr4q89 wr4q9 wr4q90 wr4q91 wr4q92 wr4q93 wr4q94 wr4q95 wr4q96 wr4q97 wr4q98 wr4q99
  have da : (default : Arr) = Arr.mk 0 [] [] [] := rfl
  have dF : (default : FnD) = ⟨0, []⟩ := rfl
  have dK : (default : KeD) = ⟨0, [], 0, 0⟩ := rfl
  have dL : (default : LaD) = ⟨0, []⟩ := rfl
  have d4 : (default : I4) = ⟨0, 0, 0, 0⟩ := rfl
  have d6 : (default : I6) = ⟨0, 0, 0, 0, 0, 0⟩ := rfl
  simp only [← da, ← dF, ← dK, ← dL, ← d4, ← d6, eq_self, implies_true, Int.toNat_natCast, ifB_iff, side_iff, decide_eq_true_eq, decide_eq_false_iff_not, true_and, and_true, Prod.forall, forall_eq, bytesOf_bsl, rowInt, natOf]
  have hT : (l ++ codeB c).length ≤ 35184372088832 := by rw [List.length_append]; exact hl
  obtain ⟨k1, k2, k3, k4, m1, m2, m3, m4⟩ := hc
  intro xb _
  refine ⟨fit_T [(c.consts.length : Int)] (R := codeB c) rfl hT (all1 (len_i64 m1)) (by simp), fun t0 => ⟨loop_init (fun i => arrBL (c.consts.drop i) ++ tl2 c) (by simp only [List.drop_zero, List.append_assoc, codeB]), ?_⟩⟩
  rintro i t b ⟨hi, hb⟩
  refine ⟨fun hlt => ⟨⟨by omega, hlt⟩, fun _ _ => ?_⟩, fun hge => ?_⟩
  · have hlt' : i < c.consts.length := by omega
    have hbl : b.length ≤ 35184372088832 := by
      have := congrArg List.length hb
      rw [List.length_append] at this
      omega
    have hs' := hs _ (mem_getD hlt')
    have e : (b ++ arrB (c.consts.getD i default)) ++ (arrBL (c.consts.drop (i + 1)) ++ tl2 c) = l ++ codeB c := by
      rw [← hb, drop_step hlt', arrBL]; simp only [List.append_assoc]
    obtain ⟨y, q1, q2, q3, q4, q5⟩ := loop_next (t := 0) (fun i => arrBL (c.consts.drop i) ++ tl2 c) hlt' m1 e
    refine ⟨(x, t, b, c.consts.getD i default), ⟨rfl, rfl, ⟨rfl, fun _ _ => rfl⟩, ⟨rfl, fun _ _ => rfl⟩, rfl, fun _ _ => rfl⟩, ⟨⟨rfl, rfl, fun _ _ => rfl, rfl⟩, rfl⟩, ⟨mem_getD hlt', by simp only; omega⟩, fun t' => ?_⟩
    exact ⟨(y.1, t', y.2.2), q1, q2, q3, ⟨rfl, q4.1, q4.2.1, rfl⟩, rfl⟩
  have hi' : i = c.consts.length := by omega
  rw [hi', List.drop_length, arrBL, List.nil_append] at hb
  refine ⟨fit_U [(c.funs.length : Int)] hb hT (all1 (len_i64 m2)) (by simp), fun t0 => ⟨loop_init (fun i => (c.funs.drop i).flatMap funB ++ tl3 c) (by rw [← hb]; simp only [List.drop_zero, List.append_assoc, tl2]), ?_⟩⟩
  clear hb hge hi hi' i t b t0
  rintro i t b ⟨hi, hb⟩
  refine ⟨fun hlt => ⟨⟨by omega, hlt⟩, fun _ _ => ?_⟩, fun hge => ?_⟩
  · have hlt' : i < c.funs.length := by omega
    have kf := k2 _ (mem_getD hlt')
    rw [drop_step hlt', List.flatMap_cons, funB] at hb
    refine ⟨fit_U [(c.funs.getD i default).slots, ((c.funs.getD i default).code.length : Int)] hb hT (all2 kf.1 (len_i64 kf.2.2)) (by simp), fun t0 => ⟨loop_init (fun j => ((c.funs.getD i default).code.drop j).flatMap i4B ++ ((c.funs.drop (i + 1)).flatMap funB ++ tl3 c)) (by rw [← hb]; simp only [List.drop_zero, List.append_assoc]), ?_⟩⟩
    clear hb t b
    rintro j t b ⟨hj, hb⟩
    refine ⟨fun hjl => ⟨⟨by omega, hjl⟩, fun _ _ => ?_⟩, fun hjg => ?_⟩
    · have hj' : j < (c.funs.getD i default).code.length := by omega
      rw [drop_step hj', List.flatMap_cons, i4B] at hb
      exact ⟨fit_U [((c.funs.getD i default).code.getD j default).a, ((c.funs.getD i default).code.getD j default).b, ((c.funs.getD i default).code.getD j default).c, ((c.funs.getD i default).code.getD j default).d] hb hT (all4 (kf.2.1 _ (mem_getD hj'))) (by simp), fun t1 => loop_next (fun j => ((c.funs.getD i default).code.drop j).flatMap i4B ++ ((c.funs.drop (i + 1)).flatMap funB ++ tl3 c)) hj' kf.2.2 (by rw [← hb]; simp only [List.append_assoc])⟩
    · have hj' : j = (c.funs.getD i default).code.length := by omega
      rw [hj', List.drop_length, List.flatMap_nil, List.nil_append] at hb
      exact loop_next (fun i => (c.funs.drop i).flatMap funB ++ tl3 c) hlt' m2 hb
  have hi' : i = c.funs.length := by omega
  rw [hi', List.drop_length, List.flatMap_nil, List.nil_append] at hb
  refine ⟨fit_U [(c.kers.length : Int)] hb hT (all1 (len_i64 m3)) (by simp), fun t0 => ⟨loop_init (fun i => (c.kers.drop i).flatMap kerY ++ tl4 c) (by rw [← hb]; simp only [List.drop_zero, List.append_assoc, tl3]), ?_⟩⟩
  clear hb hge hi hi' i t b t0
  rintro i t b ⟨hi, hb⟩
  refine ⟨fun hlt => ⟨⟨by omega, hlt⟩, fun _ _ => ?_⟩, fun hge => ?_⟩
  · have hlt' : i < c.kers.length := by omega
    have kf := k3 _ (mem_getD hlt')
    rw [drop_step hlt', List.flatMap_cons, kerY] at hb
    refine ⟨fit_U [(c.kers.getD i default).inputs, ((c.kers.getD i default).ops.length : Int)] hb hT (all2 kf.1 (len_i64 kf.2.2.1)) (by simp), fun t0 => ⟨loop_init (fun j => ((c.kers.getD i default).ops.drop j).flatMap i4B ++ (numsB [(c.kers.getD i default).reduce, (c.kers.getD i default).at_] ++ ((c.kers.drop (i + 1)).flatMap kerY ++ tl4 c))) (by rw [← hb]; simp only [List.drop_zero, List.append_assoc]), ?_⟩⟩
    clear hb t b
    rintro j t b ⟨hj, hb⟩
    refine ⟨fun hjl => ⟨⟨by omega, hjl⟩, fun _ _ => ?_⟩, fun hjg => ?_⟩
    · have hj' : j < (c.kers.getD i default).ops.length := by omega
      rw [drop_step hj', List.flatMap_cons, i4B] at hb
      exact ⟨fit_U [((c.kers.getD i default).ops.getD j default).a, ((c.kers.getD i default).ops.getD j default).b, ((c.kers.getD i default).ops.getD j default).c, ((c.kers.getD i default).ops.getD j default).d] hb hT (all4 (kf.2.1 _ (mem_getD hj'))) (by simp), fun t1 => loop_next (fun j => ((c.kers.getD i default).ops.drop j).flatMap i4B ++ (numsB [(c.kers.getD i default).reduce, (c.kers.getD i default).at_] ++ ((c.kers.drop (i + 1)).flatMap kerY ++ tl4 c))) hj' kf.2.2.1 (by rw [← hb]; simp only [List.append_assoc])⟩
    · have hj' : j = (c.kers.getD i default).ops.length := by omega
      rw [hj', List.drop_length, List.flatMap_nil, List.nil_append] at hb
      exact ⟨fit_U [(c.kers.getD i default).reduce, (c.kers.getD i default).at_] hb hT (all2 kf.2.2.2.1 kf.2.2.2.2) (by simp), fun t1 => loop_next (fun i => (c.kers.drop i).flatMap kerY ++ tl4 c) hlt' m3 (by rw [← hb]; simp only [List.append_assoc])⟩
  have hi' : i = c.kers.length := by omega
  rw [hi', List.drop_length, List.flatMap_nil, List.nil_append] at hb
  refine ⟨fit_U [(c.lanes.length : Int)] hb hT (all1 (len_i64 m4)) (by simp), fun t0 => ⟨loop_init (fun i => (c.lanes.drop i).flatMap lanB) (by rw [← hb]; simp only [List.drop_zero, List.append_assoc, tl4]), ?_⟩⟩
  clear hb hge hi hi' i t b t0
  rintro i t b ⟨hi, hb⟩
  refine ⟨fun hlt => ⟨⟨by omega, hlt⟩, fun _ _ => ?_⟩, fun hge => ?_⟩
  · have hlt' : i < c.lanes.length := by omega
    have kf := k4 _ (mem_getD hlt')
    rw [drop_step hlt', List.flatMap_cons, lanB] at hb
    refine ⟨fit_U [(c.lanes.getD i default).regs, ((c.lanes.getD i default).code.length : Int)] hb hT (all2 kf.1 (len_i64 kf.2.2)) (by simp), fun t0 => ⟨loop_init (fun j => ((c.lanes.getD i default).code.drop j).flatMap i6B ++ ((c.lanes.drop (i + 1)).flatMap lanB)) (by rw [← hb]; simp only [List.drop_zero, List.append_assoc]), ?_⟩⟩
    clear hb t b
    rintro j t b ⟨hj, hb⟩
    refine ⟨fun hjl => ⟨⟨by omega, hjl⟩, fun _ _ => ?_⟩, fun hjg => ?_⟩
    · have hj' : j < (c.lanes.getD i default).code.length := by omega
      rw [drop_step hj', List.flatMap_cons, i6B] at hb
      exact ⟨fit_U [((c.lanes.getD i default).code.getD j default).a, ((c.lanes.getD i default).code.getD j default).b, ((c.lanes.getD i default).code.getD j default).c, ((c.lanes.getD i default).code.getD j default).d, ((c.lanes.getD i default).code.getD j default).e, ((c.lanes.getD i default).code.getD j default).f] hb hT (all6 (kf.2.1 _ (mem_getD hj'))) (by simp), fun t1 => loop_next (fun j => ((c.lanes.getD i default).code.drop j).flatMap i6B ++ ((c.lanes.drop (i + 1)).flatMap lanB)) hj' kf.2.2 (by rw [← hb]; simp only [List.append_assoc])⟩
    · have hj' : j = (c.lanes.getD i default).code.length := by omega
      rw [hj', List.drop_length, List.flatMap_nil, List.nil_append] at hb
      exact loop_next (fun i => (c.lanes.drop i).flatMap lanB) hlt' m4 hb
  have hi' : i = c.lanes.length := by omega
  rw [hi', List.drop_length, List.flatMap_nil, List.append_nil] at hb
  exact ⟨(t, b), hb, ⟨rfl, fun _ _ => rfl, rfl⟩, rfl⟩
end Go.Proofs.Ytoglbmhkfkghbaa
namespace Go.Proofs.Ytoglbmhkfkghbaa
open Go Go.Ab
def bit1 (c : Nat) : Nat := match c % 2 with
  | 0 => c / 2
  | _ => (c / 2) ^^^ 3988292384
def bits (k c : Nat) : Nat := match k with
  | 0 => c
  | k + 1 => bit1 (bits k c)
def crc (l : List UInt8) (c : Nat) : Nat := match l with
  | [] => c
  | b :: r => crc r (bits 8 (c ^^^ b.toNat))
def sumN (l : List UInt8) : Nat := crc l 4294967295 ^^^ 4294967295
theorem bit1_lt {c : Nat} (h : c < 4294967296) : bit1 c < 4294967296 := by
  unfold bit1
  split
  · omega
  · exact Nat.xor_lt_two_pow (n := 32) (by omega) (by omega)
theorem bits_lt {c : Nat} (h : c < 4294967296) : ∀ k, bits k c < 4294967296
  | 0 => h
  | k + 1 => bit1_lt (bits_lt h k)
theorem byte_xor {c : Nat} (h : c < 4294967296) (b : UInt8) : c ^^^ b.toNat < 4294967296 := Nat.xor_lt_two_pow (n := 32) (by omega) (by have := b.toNat_lt; omega)
theorem crc_lt : ∀ (l : List UInt8) {c : Nat}, c < 4294967296 → crc l c < 4294967296
  | [], _, h => h
  | b :: l, _, h => crc_lt l (bits_lt (byte_xor h b) 8)
theorem crc_app : ∀ (l r : List UInt8) (c : Nat), crc (l ++ r) c = crc r (crc l c)
  | [], _, _ => rfl
  | _b :: l, r, _c => crc_app l r _
theorem crc_take (l : List UInt8) {x : Nat} (h : x < l.length) (c : Nat) : crc (l.take (x + 1)) c = bits 8 (crc (l.take x) c ^^^ (l.getD x 0).toNat) := by
  rw [List.take_add_one, crc_app, List.getD_eq_getElem?_getD, List.getElem?_eq_getElem h]; rfl
theorem xor32 {a b : Nat} (ha : a < 4294967296) (hb : b < 4294967296) : xorI .u32 a b = ((a ^^^ b : Nat) : Int) := xorI_nat rfl ha hb
theorem and32 {a b : Nat} (ha : a < 4294967296) (hb : b < 4294967296) : andI .u32 a b = ((a &&& b : Nat) : Int) := andI_nat rfl ha hb
theorem not32 {a : Nat} (ha : a < 4294967296) : notI .u32 a = ((a ^^^ 4294967295 : Nat) : Int) := notI_nat rfl ha
theorem wrapB (b : UInt8) : IntKind.u32.wrap (b.toNat : Int) = (b.toNat : Int) := wrap_uns rfl (by have := b.toNat_lt; simp [IntKind.bits]; omega)
theorem low_bit {c : Nat} (h : c < 4294967296) : (andI .u32 (c : Int) 1 == 1) = decide (c % 2 = 1) := by
  have := and32 h (b := 1) (by omega)
  simp only [Int.ofNat_one] at this
  rw [this, Nat.and_one_is_mod]
  by_cases e : c % 2 = 1
  · simp [e]
  · have : c % 2 = 0 := by omega
    simp [this]
theorem half (c : Nat) : Int.fdiv (c : Int) 2 = ((c / 2 : Nat) : Int) := fdiv_nat c 2
theorem bit_1 {c : Nat} (h : c < 4294967296) (e : c % 2 = 1) : xorI .u32 (Int.fdiv (c : Int) 2) 3988292384 = ((bit1 c : Nat) : Int) := by
  rw [half]
  have := xor32 (a := c / 2) (b := 3988292384) (by omega) (by omega)
  rw [show ((3988292384 : Nat) : Int) = 3988292384 from rfl] at this
  rw [this]
  unfold bit1; rw [e]; rfl
theorem bit_0 {c : Nat} (e : c % 2 = 0) : Int.fdiv (c : Int) 2 = ((bit1 c : Nat) : Int) := by
  rw [half]; unfold bit1; rw [e]; rfl
theorem sum_law (l : List UInt8) : notI .u32 ((crc (l.take l.length) 4294967295 : Nat) : Int) = ((sumN l : Nat) : Int) := by
  rw [List.take_length, not32 (crc_lt l (by omega))]; rfl
def sSum : FnSpec where
  β := List UInt8 × Ab.Mode
  α := Unit
  args := fun x => [.sl 1 x.1.length (fun i => [.int .u8 ((x.1.getD i 0).toNat : Int)]) x.2]
  st := fun _ => ⟨[], []⟩
  pre := fun x => x.1.length ≤ 9223372036854775807
  post := fun _ _ => True
  res := fun x _ => .ret (.int .u32 (sumN x.1 : Int))
  out := fun _ _ => ⟨[], []⟩
def inner (l : List UInt8) (d : D) (s1 s2 : Nat) (keep : List Nat) : Option LoopAnn :=
  match d with
  | .int _ z => some { slots := [s1, s2], keep := keep, α := Nat, st := fun k => ([.int .u32 (bits k (crc (l.take z.toNat) 4294967295 ^^^ (l.getD z.toNat 0).toNat) : Int), .int .i64 k], ⟨[], []⟩), inv := fun k => k ≤ 8, mu := fun k => 8 - k }
  | _ => none
noncomputable def E10 (l : List UInt8) : Senv := { EC con0 31 1 [2, 3, 5, 6, 7, 8, 9, 10, 17, 18, 24] (fun _ => ([], [])) with
  ann := fun b env _ => match b with
    | 0 => some { slots := [3, 9], keep := [7, 8], α := Nat, st := fun i => ([.int .u32 (crc (l.take i) 4294967295 : Int), .int .i64 i], ⟨[], []⟩), inv := fun i => i ≤ l.length, mu := fun i => l.length - i }
    | 2 => inner l (Ab.look env 9) 3 17 [7, 8, 9]
    | _ => none }
noncomputable section
def su1q0 (p0 : Nat) (p1 : List UInt8) : Int := (NI (crc (List.take p0 p1) (4294967295 : Nat)))
def su1q1 (p0 p1 : Nat) (p2 : List UInt8) : Int := (NI (bits p0 (crc (List.take (Int.toNat (↑p1 : Int)) p2) (4294967295 : Nat) ^^^ UInt8.toNat (List.getD p2 (Int.toNat (↑p1 : Int)) U0))))
def su1q2 (p0 : List UInt8) (p1 : Ab.Mode) : D := D.sl N1 (LN p0) (fun (i : Nat) => [ZB (BI p0 i)]) p1
def su1q3 (p0 : List UInt8) (p1 : Ab.Mode) : Prop := SM (su1q2 p0 p1)
def su1q4 (p0 : List UInt8) (p1 : Ab.Mode) (p2 : Nat) : Prop := su1q3 p0 p1 ∧ SM (ZI (LI p0)) ∧ SM (ZI (↑p2 : Int)) ∧ True
def su1q5 (p0 p1 : Nat) (p2 : List UInt8) : Int := Int.fdiv (su1q1 p0 p1 p2) (2 : Int)
def su1q6 (p0 p1 : Nat) : Prop := IntKind.wrap IntKind.i64 ((↑p0 : Int) + Z1) = (↑p1 : Int) ∧ True
end
theorem sum_ok (l : List UInt8) (m : Ab.Mode) (hl : l.length ≤ 9223372036854775807) : ACalls Try.prog 10 (sSum.args (l, m)) (sSum.st (l, m)) (SpecR sSum (l, m)) := by
  refine con_of (A := sSum) (x := (l, m)) (E := E10 l) (eOk con0_ok rfl) Try.func10 rfl (by kernel_rfl) rfl (by simp [sSum, E10, EC, E0]) ?_
  refine vc_eq (T :=
    (∃ (x : Nat), x ≤ LN l ∧ ((4294967295 : Int) = su1q0 x l ∧ Z0 = (↑x : Int) ∧ True) ∧ True ∧ True) ∧ ∀ (x : Nat), x ≤ LN l → ifB (decide ((↑x : Int) < (LI l))) (side (Z0 ≤ (↑x : Int) ∧ (↑x : Int) < (LI l)) ((∃ (x_1 : Nat), x_1 ≤ (8 : Nat) ∧ (xorI IntKind.u32 (su1q0 x l) (IntKind.wrap IntKind.u32 (BI l (Int.toNat (↑x : Int)))) = su1q1 x_1 x l ∧ Z0 = (↑x_1 : Int) ∧ True) ∧ True ∧ True) ∧ ∀ (x_1 : Nat), x_1 ≤ (8 : Nat) → ifB (decide ((↑x_1 : Int) < (8 : Int))) (ifB (andI IntKind.u32 (su1q1 x_1 x l) Z1 == Z1) (su1q4 l m x ∧ ∃ (y : Nat), y ≤ (8 : Nat) ∧ (8 : Nat) - y < (8 : Nat) - x_1 ∧ (xorI IntKind.u32 (su1q5 x_1 x l) (3988292384 : Int) = su1q1 y x l ∧ su1q6 x_1 y) ∧ True ∧ True) (su1q4 l m x ∧ ∃ (y : Nat), y ≤ (8 : Nat) ∧ (8 : Nat) - y < (8 : Nat) - x_1 ∧ (su1q5 x_1 x l = su1q1 y x l ∧ su1q6 x_1 y) ∧ True ∧ True)) ((su1q3 l m ∧ SM (ZI (LI l)) ∧ True) ∧ ∃ (y : Nat), y ≤ LN l ∧ LN l - y < LN l - x ∧ (su1q1 x_1 x l = su1q0 y l ∧ su1q6 x y) ∧ True ∧ True))) (True ∧ ∃ (y : Unit), True ∧ notI IntKind.u32 (su1q0 x l) = (NI (sumN l)) ∧ True ∧ True)) (by kernel_rfl) ?_
  delta BI LI LN N1 NI SM U0 Z0 Z1 ZB ZI su1q0 su1q1 su1q2 su1q3 su1q4 su1q5 su1q6
  have hc := fun x => crc_lt (l.take x) (c := 4294967295) (by omega)
  refine ⟨⟨0, Nat.zero_le _, ⟨rfl, rfl, trivial⟩, trivial, trivial⟩, fun x hx => ?_⟩
  simp only [ifB_iff, side_iff, decide_eq_true_eq, decide_eq_false_iff_not, Int.toNat_natCast, true_and, and_true]
  refine ⟨fun h => ?_, fun h => ⟨(), ?_⟩⟩
  · have hlt : x < l.length := by omega
    have hb := byte_xor (hc x) (l.getD x 0)
    refine ⟨⟨by omega, h⟩, ?_⟩
    refine ⟨⟨0, by omega, ?_, rfl⟩, fun k hk => ?_⟩
    · rw [wrapB, xor32 (hc x) (by have := (l.getD x 0).toNat_lt; omega)]; rfl
    · have hbk := bits_lt hb k
      simp only [low_bit hbk, decide_eq_true_eq, decide_eq_false_iff_not]
      refine ⟨fun h8 => ⟨fun h1 => ⟨k + 1, by omega, by omega, bit_1 hbk h1, ?_⟩, fun h1 => ⟨k + 1, by omega, by omega, bit_0 (by omega), ?_⟩⟩, fun h8 => ⟨x + 1, by omega, by omega, ?_, ?_⟩⟩
      · exact wrap_i64' (by omega) (by omega)
      · exact wrap_i64' (by omega) (by omega)
      · have : k = 8 := by omega
        subst this
        rw [crc_take l hlt]
      · exact wrap_i64' (by omega) (by omega)
  · have : x = l.length := by omega
    subst this
    exact sum_law l
noncomputable def E11 (l : List UInt8) : Senv := { EC con0 34 1 [2, 3, 4, 5, 6, 10, 21, 29] (fun _ => ([], [])) with
  ann := fun b env _ => match b with
    | 0 => some { slots := [3, 4], keep := [0], α := Nat, st := fun i => ([.int .u32 (crc (l.take i) 4294967295 : Int), .int .i64 i], ⟨[], []⟩), inv := fun i => i ≤ l.length, mu := fun i => l.length - i }
    | 2 => inner l (Ab.look env 4) 3 5 [0, 4]
    | _ => none }
noncomputable section
def su1q7 (p0 : Nat) (p1 : List UInt8) : Int := (NI (crc (List.take p0 p1) (4294967295 : Nat)))
def su1q8 (p0 p1 : Nat) (p2 : List UInt8) : Int := (NI (bits p0 (crc (List.take (Int.toNat (↑p1 : Int)) p2) (4294967295 : Nat) ^^^ UInt8.toNat (List.getD p2 (Int.toNat (↑p1 : Int)) U0))))
def su1q9 (p0 : List UInt8) (p1 : Ab.Mode) : D := D.sl N1 (LN p0) (fun (i : Nat) => [ZB (BI p0 i)]) p1
def su1q10 (p0 : List UInt8) (p1 : Ab.Mode) : Prop := SM (su1q9 p0 p1)
def su1q11 (p0 : List UInt8) (p1 : Ab.Mode) (p2 : Nat) : Prop := su1q10 p0 p1 ∧ SM (ZI (↑p2 : Int)) ∧ True
def su1q12 (p0 p1 : Nat) (p2 : List UInt8) : Int := Int.fdiv (su1q8 p0 p1 p2) (2 : Int)
def su1q13 (p0 p1 : Nat) : Prop := IntKind.wrap IntKind.i64 ((↑p0 : Int) + Z1) = (↑p1 : Int) ∧ True
end
theorem rsum_ok (l : List UInt8) (m : Ab.Mode) (hl : l.length ≤ 9223372036854775807) : ACalls Try.prog 11 (sSum.args (l, m)) (sSum.st (l, m)) (SpecR sSum (l, m)) := by
  refine con_of (A := sSum) (x := (l, m)) (E := E11 l) (eOk con0_ok rfl) Try.func11 rfl (by kernel_rfl) rfl (by simp [sSum, E11, EC, E0]) ?_
  refine vc_eq (T :=
    (∃ (x : Nat), x ≤ LN l ∧ ((4294967295 : Int) = su1q7 x l ∧ Z0 = (↑x : Int) ∧ True) ∧ True ∧ True) ∧ ∀ (x : Nat), x ≤ LN l → ifB (decide ((↑x : Int) < (LI l))) (side (Z0 ≤ (↑x : Int) ∧ (↑x : Int) < (LI l)) ((∃ (x_1 : Nat), x_1 ≤ (8 : Nat) ∧ (xorI IntKind.u32 (su1q7 x l) (IntKind.wrap IntKind.u32 (BI l (Int.toNat (↑x : Int)))) = su1q8 x_1 x l ∧ Z0 = (↑x_1 : Int) ∧ True) ∧ True ∧ True) ∧ ∀ (x_1 : Nat), x_1 ≤ (8 : Nat) → ifB (decide ((↑x_1 : Int) < (8 : Int))) (ifB (andI IntKind.u32 (su1q8 x_1 x l) Z1 == Z1) (su1q11 l m x ∧ ∃ (y : Nat), y ≤ (8 : Nat) ∧ (8 : Nat) - y < (8 : Nat) - x_1 ∧ (xorI IntKind.u32 (su1q12 x_1 x l) (3988292384 : Int) = su1q8 y x l ∧ su1q13 x_1 y) ∧ True ∧ True) (su1q11 l m x ∧ ∃ (y : Nat), y ≤ (8 : Nat) ∧ (8 : Nat) - y < (8 : Nat) - x_1 ∧ (su1q12 x_1 x l = su1q8 y x l ∧ su1q13 x_1 y) ∧ True ∧ True)) ((su1q10 l m ∧ True) ∧ ∃ (y : Nat), y ≤ LN l ∧ LN l - y < LN l - x ∧ (su1q8 x_1 x l = su1q7 y l ∧ su1q13 x y) ∧ True ∧ True))) (True ∧ ∃ (y : Unit), True ∧ xorI IntKind.u32 (su1q7 x l) (4294967295 : Int) = (NI (sumN l)) ∧ True ∧ True)) (by kernel_rfl) ?_
  delta BI LI LN N1 NI SM U0 Z0 Z1 ZB ZI su1q10 su1q11 su1q12 su1q13 su1q7 su1q8 su1q9
  have hc := fun x => crc_lt (l.take x) (c := 4294967295) (by omega)
  refine ⟨⟨0, Nat.zero_le _, ⟨rfl, rfl, trivial⟩, trivial, trivial⟩, fun x hx => ?_⟩
  simp only [ifB_iff, side_iff, decide_eq_true_eq, decide_eq_false_iff_not, Int.toNat_natCast, true_and, and_true]
  refine ⟨fun h => ?_, fun h => ⟨(), ?_⟩⟩
  · have hlt : x < l.length := by omega
    have hb := byte_xor (hc x) (l.getD x 0)
    refine ⟨⟨by omega, h⟩, ?_⟩
    refine ⟨⟨0, by omega, ?_, rfl⟩, fun k hk => ?_⟩
    · rw [wrapB, xor32 (hc x) (by have := (l.getD x 0).toNat_lt; omega)]; rfl
    · have hbk := bits_lt hb k
      simp only [low_bit hbk, decide_eq_true_eq, decide_eq_false_iff_not]
      refine ⟨fun h8 => ⟨fun h1 => ⟨k + 1, by omega, by omega, bit_1 hbk h1, ?_⟩, fun h1 => ⟨k + 1, by omega, by omega, bit_0 (by omega), ?_⟩⟩, fun h8 => ⟨x + 1, by omega, by omega, ?_, ?_⟩⟩
      · exact wrap_i64' (by omega) (by omega)
      · exact wrap_i64' (by omega) (by omega)
      · have : k = 8 := by omega
        subst this
        rw [crc_take l hlt]
      · exact wrap_i64' (by omega) (by omega)
  · have : x = l.length := by omega
    subst this
    rw [← sum_law l, not32 (hc _)]
    exact xor32 (b := 4294967295) (hc _) (by omega)
end Go.Proofs.Ytoglbmhkfkghbaa
namespace Go.Proofs.Ytoglbmhkfkghbaa
open Go Go.Ab
def in0 : List D := [.int .i64 25, .int .i64 0, .int .i64 0, .int .i64 0]
def fn0 (m : Ab.Mode) : List D := [.int .i64 0, .sl 4 1 (fun i => ([in0] : List (List D)).getD i []) m]
def nils : D := .sl 1 0 (fun _ => []) .nil
def c0 (m m' : Ab.Mode) : D := .agg [nils, .sl 2 1 (fun i => ([fn0 m'] : List (List D)).getD i []) m, nils, nils]
def b0 : List (List D) := [65, 76, 67, 49, 0, 2, 0, 2, 50, 0, 0, 0, 0, 0, 116, 248, 41, 197].map fun n => [.int .u8 n]
def d0 (m : Ab.Mode) : D := .sl 1 18 (fun i => b0.getD i []) m
theorem sum_fits {k n : Nat} {f : Nat → List D} {m : Ab.Mode} {S : St} (h : ∀ l m, l.length ≤ 9223372036854775807 → ACalls Try.prog k (sSum.args (l, m)) (sSum.st (l, m)) (SpecR sSum (l, m))) :
    (∀ y, (sSum.fits (bytesOf n f, m) (rowsB n f = true)).pre y → ACalls Try.prog k ((sSum.fits (bytesOf n f, m) (rowsB n f = true)).args y) ((sSum.fits (bytesOf n f, m) (rowsB n f = true)).st y) (SpecR (sSum.fits (bytesOf n f, m) (rowsB n f = true)) y)) ∧ (∀ y, (sSum.fits (bytesOf n f, m) (rowsB n f = true)).fit = some y → (sSum.fits (bytesOf n f, m) (rowsB n f = true)).pre y → weakL [.sl 1 n f m] ((sSum.fits (bytesOf n f, m) (rowsB n f = true)).args y) ∧ leS ((sSum.fits (bytesOf n f, m) (rowsB n f = true)).st y) S) ∧ ((sSum.fits (bytesOf n f, m) (rowsB n f = true)).all = true → ∀ y, (sSum.fits (bytesOf n f, m) (rowsB n f = true)).pre y → weakL [.sl 1 n f m] ((sSum.fits (bytesOf n f, m) (rowsB n f = true)).args y) ∧ (sSum.fits (bytesOf n f, m) (rowsB n f = true)).st y = S) := by
  refine FnSpec.fits_ok (A := sSum) (fun y hy => h y.1 y.2 hy) fun hr => ⟨?_, by simp [sSum, leS, leO, leT, nodupB, chk_iff]⟩
  simp only [sSum, weakL, weakD, chk_iff]
  refine ⟨⟨by simp, by simp [bytesOf], fun i hi => ?_, weakM_refl m⟩, trivial⟩
  have hb : rowB (f i) = true := List.all_eq_true.1 hr i (List.mem_range.2 hi)
  have hg : (bytesOf n f).getD i 0 = rowByte (f i) := by
    simp [bytesOf, List.getD_eq_getElem?_getD, hi]
  rw [hg]
  unfold rowB at hb
  split at hb
  · rename_i d hd
    rw [hd]
    have := byteB_eq hb
    simp only [rowByte]
    rw [← this]
  · cases hb
def conS (k : Nat) (ds : List D) (_ : St) : Option FnSpec :=
  match k with
  | 10 => match ds with
    | [.sl 1 n f m] => some (sSum.fits (bytesOf n f, m) (rowsB n f = true))
    | _ => none
  | 11 => match ds with
    | [.sl 1 n f m] => some (sSum.fits (bytesOf n f, m) (rowsB n f = true))
    | _ => none
  | _ => none
theorem conS_ok : ConOk Try.prog conS := by
  intro k ds S A h
  unfold conS at h
  split at h
  · split at h
    · injection h with h; subst h
      exact sum_fits sum_ok
    · cases h
  · split at h
    · injection h with h; subst h
      exact sum_fits rsum_ok
    · cases h
  · cases h
end Go.Proofs.Ytoglbmhkfkghbaa
namespace Go.Proofs.Ytoglbmhkfkghbaa
open Go Go.Ab
def stepS (c : CodD) (f i : Nat) (x : I4) (st : List UInt8) : Option (List UInt8) :=
  match effC c f x with
  | none => none
  | some e => if okA st e.1 true = true ∧ ¬ x.d < 0 ∧ ¬ ((x.a = 25 ∨ x.a = 24) ∧ newA st e.1 e.2 ≠ []) ∧ ¬ (x.a = 24 ∧ x.b ≤ i) then some (newA st e.1 e.2) else none
def runS (c : CodD) (f : Nat) : Nat → List I4 → List UInt8 → Nat → Option Nat
  | _, [], _, deep => some deep
  | i, x :: r, st, deep => match stepS c f i x st with
    | none => none
    | some nx => runS c f (i + 1) r nx (max deep nx.length)
def empS (c : CodD) (f : Nat) : Nat → List I4 → List UInt8 → List Bool
  | _, [], _ => []
  | i, x :: r, st => st.isEmpty :: match stepS c f i x st with
    | none => []
    | some nx => empS c f (i + 1) r nx
def guardsB (em : List Bool) (code : List I4) : Bool := code.all fun x => decide (x.a ≠ 24) || em.getD x.b.toNat false
def funS (c : CodD) (f : Nat) : Option Nat :=
  let fd := c.funs.getD f default
  if between fd.slots 0 1000 = true ∧ fd.code ≠ [] ∧ (fd.code.getD (fd.code.length - 1) default).a = 25 then
    match runS c f 0 fd.code [] 0 with
    | none => none
    | some d => if guardsB (empS c f 0 fd.code []) fd.code then some d else none
  else none
def funD (e : Option Nat) : D := .tup [.int .i64 (e.getD 0 : Nat), .bool e.isSome]
def conF (c : CodD) (f : Nat) : Con := fun k ds S => match k with
  | 63 => match ds with
    | [a0, a1, .agg [.int .i64 a, .int .i64 b, .int .i64 d, .int .i64 e]] => some (pQ [.agg c.row, .int .i64 f, .agg (I4.row ⟨a, b, d, e⟩)] (offD (effC c f ⟨a, b, d, e⟩)) (offQ (effC c f ⟨a, b, d, e⟩)) (weakL [a0, a1] [.agg c.row, .int .i64 f] ∧ I4.ok ⟨a, b, d, e⟩))
    | _ => none
  | k => conE k ds S
theorem conF_ok {c : CodD} {f : Nat} (hf : f < c.funs.length) (hc : c.ok) : ConOk Try.prog (conF c f) := by
  intro k ds S A h
  unfold conF at h
  split at h
  · split at h
    · injection h with h; subst h
      exact pQ_ok fun ⟨hw, hx⟩ => ⟨⟨hw.1, hw.2.1, weakD_refl _, trivial⟩, (of_ok c f ⟨_, _, _, _⟩ hf hc hx).mono fun _ _ h => h⟩
    · cases h
  · exact conE_ok _ _ _ _ h
noncomputable def _root_.Go.Ab.inlF (con : Con) (k : Nat) (ds : List D) (S : St) (R : AEnd → St → Prop) : Prop :=
  match Nat.beq k 64 with
  | true => inlA k ds S R
  | false => inlD { E0 con 0 0 [] (fun _ => ([], [])) with auto := true } (frmGet frames) 9 k ds S R
theorem inlF_ok {con : Con} (hc : ConOk Try.prog con) (k : Nat) (ds : List D) (S : St) (R : AEnd → St → Prop) (h : inlF con k ds S R) : ACalls Try.prog k ds S R := by
  unfold inlF at h
  split at h
  · exact inlA_ok _ _ _ _ h
  · exact inlD_ok (E := { E0 con 0 0 [] (fun _ => ([], [])) with auto := true }) tab_ok hc mix frames_ok eqs_ok 9 k ds S R h
noncomputable def EF (c : CodD) (f : Nat) : Senv := { EC (conF c f) 139 3 [4, 5, 6, 7, 8, 9, 10, 11, 12, 13, 14, 15, 16, 17, 19, 45, 49, 50, 51, 52, 73, 108, 116, 117, 118, 119, 136] (fun _ => ([], [])) with inl := inlF (conF c f) }
def erow (l : List Bool) : Nat → List D := fun i => [.bool (l.getD i false)]
structure FunHead (c : CodD) (f : Nat) (i : Nat) (st : List UInt8) (deep : Nat) (em : List Bool) : Prop where
  hi : i ≤ (c.funs.getD f default).code.length
  hs : st.length ≤ i
  hd : deep ≤ 65536
  hr : runS c f i ((c.funs.getD f default).code.drop i) st deep = runS c f 0 (c.funs.getD f default).code [] 0
  hl : em.length = (c.funs.getD f default).code.length
  he : em.take i ++ empS c f i ((c.funs.getD f default).code.drop i) st = empS c f 0 (c.funs.getD f default).code []
abbrev O4 := D × D × D × D
def O4.row (d : O4) : List D := [d.1, d.2.1, d.2.2.1, d.2.2.2]
def CB (c : CodD) (d : O4) : Prop := d.row = c.row
def cutF (c : CodD) (f : Nat) (d2 : D) : Option LoopAnn :=
  match d2 with
  | .ref _ x2 _ => some
    { slots := [6], keep := [], α := Nat × FnD × O4
      st := fun y => ([.ref 1 y.1 0], ⟨[(1, y.1, .cells (FnD.row y.2.1)), (0, x2, .cells (O4.row y.2.2))], []⟩)
      inv := fun y => y.2.1 = c.funs.getD f default ∧ CB c y.2.2, mu := fun _ => 0 }
  | _ => none
def annF1 (c : CodD) (f n : Nat) (os : List (Nat × Nat × AObj)) : Option (LoopAnn × LoopAnn) :=
  match os with
  | [(_, x9, .vec _ _ _ _), (_, x6, .cells fn), (_, x2, .cells cc)] => some
    ({ slots := [51, 8, 10], keep := [1, 2, 6, 7, 9, 11, 49, 50], α := Nat × Nat × List Bool
       st := fun y => ([.int .i64 y.1, nilB, .int .i64 y.2.1], ⟨[(2, x9, .vec 1 n n (erow y.2.2)), (1, x6, .cells fn), (0, x2, .cells cc)], []⟩)
       inv := fun y => FunHead c f y.1 [] y.2.1 y.2.2, mu := fun y => n - y.1 },
     { slots := [51, 8, 10], keep := [1, 2, 6, 7, 9, 11, 49, 50], α := (Nat × Nat × List Bool) × List UInt8 × Nat × Nat
       st := fun y => ([.int .i64 y.1.1, .vs 3 y.2.2.1 y.2.1.length y.2.2.2 1, .int .i64 y.1.2.1], ⟨[(3, y.2.2.1, .vec 1 y.2.1.length y.2.2.2 (brow y.2.1)), (2, x9, .vec 1 n n (erow y.1.2.2)), (1, x6, .cells fn), (0, x2, .cells cc)], []⟩)
       inv := fun y => FunHead c f y.1.1 y.2.1 y.1.2.1 y.1.2.2 ∧ y.2.1.length ≤ y.2.2.2, mu := fun y => n - y.1.1 })
  | _ => none
def MidInv (c : CodD) (f : Nat) (dp : Nat) (r : Bool) (em : List Bool) : Prop :=
  (r = true ∧ runS c f 0 (c.funs.getD f default).code [] 0 = some dp ∧ em = empS c f 0 (c.funs.getD f default).code []) ∨ (r = false ∧ runS c f 0 (c.funs.getD f default).code [] 0 = none)
def annB (c : CodD) (f n : Nat) (os : List (Nat × Nat × AObj)) : Option LoopAnn :=
  match os with
  | [(_, x9, .vec _ _ _ _), (_, x6, .cells fn), _] => some
    { slots := [10, 11], keep := [6, 9], α := Nat × Bool × List Bool
      st := fun y => ([.int .i64 y.1, .bool y.2.1], ⟨[(2, x9, .vec 1 n n (erow y.2.2)), (1, x6, .cells fn)], []⟩)
      inv := fun y => MidInv c f y.1 y.2.1 y.2.2, mu := fun _ => 0 }
  | _ => none
def annF2 (c : CodD) (f n : Nat) (d9 d10 d11 : D) (emOf : Nat → List D) : Option LoopAnn :=
  match d9, d10, d11 with
  | .vs _ x9 _ _ _, .int _ _, .bool r0 => some
    { slots := [118, 11], keep := [9, 10, 116, 117], α := Nat × Bool
      st := fun y => ([.int .i64 y.1, .bool y.2], ⟨[(2, x9, .vec 1 n n emOf)], []⟩)
      inv := fun y => y.1 ≤ n ∧ (y.2 = false → y.1 = 0 ∧ r0 = false) ∧ (y.2 = true → r0 = true ∧ guardsB (empS c f 0 (c.funs.getD f default).code []) ((c.funs.getD f default).code.take y.1) = true)
      mu := fun y => n - y.1 }
  | _, _, _ => none
def vecOf (S : St) : Nat → List D :=
  match S.objs with
  | (_, _, .vec _ _ _ f) :: _ => f
  | _ => fun _ => []
theorem gu_len {b : Bool} {p q : List UInt8} {e : Eff} (h : gu b (p, q) = some e) (hp : b = true → p.length ≤ 1000) (hq : q.length ≤ 1) : e.1.length ≤ 1000 ∧ e.2.length ≤ 1 := by
  unfold gu at h
  split at h
  · injection h with h; subst h; exact ⟨hp ‹_›, hq⟩
  · cases h
theorem some_len {p q : List UInt8} {e : Eff} (h : some (p, q) = some e) (hp : p.length ≤ 1000) (hq : q.length ≤ 1) : e.1.length ≤ 1000 ∧ e.2.length ≤ 1 := by
  injection h with h; subst h; exact ⟨hp, hq⟩
def LenOk (o : Option Eff) : Prop := ∀ e, o = some e → e.1.length ≤ 1000 ∧ e.2.length ≤ 1
theorem LenOk.ite {c : Prop} [Decidable c] {a b : Option Eff} (ha : LenOk a) (hb : LenOk b) : LenOk (if c then a else b) := by
  split <;> assumption
theorem LenOk.none : LenOk none := fun _ h => nomatch h
theorem eff_len {c : CodD} {f : Nat} {x : I4} : ∀ {e : Eff}, effC c f x = some e → e.1.length ≤ 1000 ∧ e.2.length ≤ 1 := by
  have : LenOk (effC c f x) := by
    unfold effC effS plainS
    repeat' (first
      | exact LenOk.none
      | refine fun e h => some_len h ?_ ?_
      | refine fun e h => gu_len h ?_ ?_
      | apply LenOk.ite)
    all_goals first
      | (simp; done)
      | (intro hb
         generalize (c.kers.getD x.b.toNat default).inputs = ki at *
         simp only [between, Bool.and_eq_true, decide_eq_true_eq] at hb
         rw [Lib.repeatL_length]
         simp only [List.length_singleton]
         omega)
  exact fun {e} h => this e h
theorem eff_guard {c : CodD} {f : Nat} {x : I4} {e : Eff} (h : effC c f x = some e) (ha : x.a = 24) : 0 ≤ x.b ∧ x.b < ((c.funs.getD f default).code.length : Int) := by
  unfold effC effS gu between at h
  generalize (c.funs.getD f default).code.length = n at *
  simp only [ha] at h
  simp at h
  omega
theorem newA_length (st p q : List UInt8) : (newA st p q).length = st.length - p.length + q.length := by simp [newA]
theorem step_len {c : CodD} {f i : Nat} {x : I4} {st nx : List UInt8} (h : stepS c f i x st = some nx) : nx.length ≤ st.length + 1 := by
  unfold stepS at h
  split at h
  · cases h
  · rename_i e he
    split at h
    · simp only [Option.some.injEq] at h
      subst h
      rw [newA_length]
      have := (eff_len he).2
      omega
    · cases h
theorem FunHead.next {c : CodD} {f i : Nat} {st : List UInt8} {deep : Nat} {em : List Bool} (h : FunHead c f i st deep em) (hn : (c.funs.getD f default).code.length ≤ 65536) (hlt : i < (c.funs.getD f default).code.length) {nx : List UInt8}
    (hs : stepS c f i ((c.funs.getD f default).code.getD i default) st = some nx) : FunHead c f (i + 1) nx (max deep nx.length) (em.set i st.isEmpty) := by
  have hl := step_len hs
  have h1 := h.hs
  have hd := drop_step hlt
  refine ⟨by omega, by omega, by have := h.hd; omega, ?_, by simpa using h.hl, ?_⟩
  · have := h.hr
    rw [hd, runS, hs] at this
    exact this
  · have := h.he
    rw [hd, empS, hs] at this
    rw [← this]
    have hlm := h.hl
    rw [List.take_add_one, List.take_set_of_le (Nat.le_refl i)]
    simp [show i < em.length by omega]
theorem FunHead.fail {c : CodD} {f i : Nat} {st : List UInt8} {deep : Nat} {em : List Bool} (h : FunHead c f i st deep em) (hlt : i < (c.funs.getD f default).code.length)
    (hs : stepS c f i ((c.funs.getD f default).code.getD i default) st = none) : runS c f 0 (c.funs.getD f default).code [] 0 = none := by
  have := h.hr
  rw [drop_step hlt, runS, hs] at this
  exact this.symm
theorem FunHead.done {c : CodD} {f i : Nat} {st : List UInt8} {deep : Nat} {em : List Bool} (h : FunHead c f i st deep em) (hge : ¬ i < (c.funs.getD f default).code.length) : MidInv c f deep true em := by
  have hi : i = (c.funs.getD f default).code.length := by have := h.hi; omega
  have h1 := h.hr
  have h2 := h.he
  rw [hi, List.drop_length] at h1 h2
  refine .inl ⟨rfl, ?_, ?_⟩
  · rw [← h1, runS]
  · rw [← h2, empS, List.append_nil, ← h.hl, List.take_length]
theorem upd_row (em : List Bool) (i : Nat) (b : Bool) (hi : i < em.length) (j : Nat) : updF (fun i => [D.bool (em.getD i false)]) i [D.bool b] j = [D.bool ((em.set i b).getD j false)] := by
  simp only [updF]
  split
  · rename_i e; subst e
    simp [List.getD_eq_getElem?_getD, hi]
  · rename_i e
    simp [List.getD_eq_getElem?_getD, List.getElem?_set_ne (Ne.symm e)]
theorem run_mem {c : CodD} {f : Nat} : ∀ (l : List I4) (i : Nat) (st : List UInt8) (d r : Nat), runS c f i l st d = some r → ∀ x ∈ l, ∃ e, effC c f x = some e
  | [], _, _, _, _, _, x, hx => by cases hx
  | y :: l, i, st, d, r, h, x, hx => by
    rw [runS] at h
    split at h
    · cases h
    · rename_i nx hs
      rcases List.mem_cons.1 hx with rfl | hx
      · unfold stepS at hs
        split at hs
        · cases hs
        · exact ⟨_, ‹_›⟩
      · exact run_mem l _ _ _ _ h x hx
theorem getD_mem {α : Type} [Inhabited α] {l : List α} {i : Nat} (h : i < l.length) : l.getD i default ∈ l := by
  rw [List.getD_eq_getElem?_getD, List.getElem?_eq_getElem h]; exact List.getElem_mem h
theorem guard_one {x : I4} {b : Bool} (h : (!(true && (x.a != 24 || b))) = false) : (decide (x.a ≠ 24) || b) = true ∧ (true && (x.a != 24 || b)) = true := by
  cases b <;> simp_all
theorem ops1 {a : Int} : (a = 25 → true = (a == 25 || a == 24)) ∧ (¬ a = 25 → (a == 24) = (a == 25 || a == 24)) := ⟨fun h => by simp [h], fun h => by simp [h]⟩
theorem ops2 {p : Bool} {a : Int} {d : Bool} : (p = true → (a = 24 → d = (p && false || a == 24 && d)) ∧ (¬ a = 24 → false = (p && false || a == 24 && d))) ∧ (p = false → (a = 24 → d = (p && false || a == 24 && d)) ∧ (¬ a = 24 → false = (p && false || a == 24 && d))) :=
  ⟨fun _ => ⟨fun h => by simp [h], fun h => by simp [h]⟩, fun _ => ⟨fun h => by simp [h], fun h => by simp [h]⟩⟩
theorem ops3 {p : Bool} {a : Int} {d : Bool} {n : Nat} : (p = true → (0 < (n : Int) → true = (p && decide (0 < (n : Int)) || a == 24 && d)) ∧ (¬ 0 < (n : Int) → (a = 24 → d = (p && decide (0 < (n : Int)) || a == 24 && d)) ∧ (¬ a = 24 → false = (p && decide (0 < (n : Int)) || a == 24 && d)))) ∧ (p = false → (a = 24 → d = (p && decide (0 < (n : Int)) || a == 24 && d)) ∧ (¬ a = 24 → false = (p && decide (0 < (n : Int)) || a == 24 && d))) :=
  ⟨fun hp => ⟨fun h => by rw [hp, decide_eq_true h]; rfl, fun h => ⟨fun ha => by rw [decide_eq_false h]; simp [ha], fun ha => by rw [decide_eq_false h]; simp [ha]⟩⟩, fun hp => ⟨fun ha => by rw [hp]; simp [ha], fun ha => by rw [hp]; simp [ha]⟩⟩
theorem step_cond {c : CodD} {f i : Nat} {x : I4} {st : List UInt8} {y : Eff} (he : effC c f x = some y) (hok : okA st y.1 true = true) (hd : ¬ x.d < 0) {b : Bool} (hb : b = decide (newA st y.1 y.2 ≠ [])) :
    (((x.a == 25 || x.a == 24) && b || x.a == 24 && decide (x.b ≤ i)) = true → stepS c f i x st = none) ∧ (((x.a == 25 || x.a == 24) && b || x.a == 24 && decide (x.b ≤ i)) = false → stepS c f i x st = some (newA st y.1 y.2)) := by
  subst hb
  unfold stepS
  rw [he]
  simp only [hok]
  refine ⟨fun h => ?_, fun h => ?_⟩
  · rw [if_neg]
    rintro ⟨_, _, h1, h2⟩
    simp only [Bool.or_eq_true, Bool.and_eq_true, beq_iff_eq, decide_eq_true_eq] at h
    rcases h with h | h
    · exact h1 h
    · exact h2 h
  · simp only [Bool.or_eq_false_iff] at h
    rw [if_pos]
    refine ⟨trivial, hd, fun h1 => ?_, fun h2 => ?_⟩
    · have := h.1
      rw [Bool.and_eq_false_iff] at this
      rcases this with h3 | h3
      · rcases h1.1 with h4 | h4 <;> simp [h4] at h3
      · simp [h1.2] at h3
    · have := h.2
      simp [h2.1, h2.2] at this
theorem lenB {l : List UInt8} : decide (0 < (l.length : Int)) = decide (l ≠ []) := by
  cases l with
  | nil => rfl
  | cons a l => simp
theorem maxI (a b : Nat) : (if (a : Int) < (b : Int) then (b : Int) else (a : Int)) = ((max a b : Nat) : Int) := by
  split <;> omega
theorem maxI0 (a : Nat) : (if (a : Int) < 0 then (0 : Int) else (a : Int)) = (a : Int) := by
  split <;> omega
noncomputable def E39 (c : CodD) (f : Nat) : Senv := { EF c f with
  mg := fun id => match id with
    | 13 => 2
    | _ => 0
  cut := fun id env _ => match id with
    | 1 => cutF c f (Ab.look env 2)
    | _ => none
  ann2 := fun b _ S => match b with
    | 0 => annF1 c f (c.funs.getD f default).code.length S.objs
    | _ => none
  ann := fun b env S => match b with
    | 2 => annF2 c f (c.funs.getD f default).code.length (Ab.look env 9) (Ab.look env 10) (Ab.look env 11) (vecOf S)
    | _ => none
  bcut := fun b _ S => match b with
    | 0 => annB c f (c.funs.getD f default).code.length S.objs
    | _ => none }
noncomputable section
def bc7q0 (p0 : CodD) (p1 : Nat) : FnD := GF p0 p1
def bc7q1 (p0 : FnD) (p1 : CodD) (p2 : Nat) (p3 : O4) : Prop := p0 = bc7q0 p1 p2 ∧ CB p1 p3
def bc7q2 (p0 : Nat) : Nat := Int.toNat (↑p0 : Int)
def bc7q3 (p0 : CodD) (p1 : Nat) : FnD := GF p0 (bc7q2 p1)
def bc7q4 (p0 : FnD) : Int := FnD.slots p0
def bc7q5 (p0 : CodD) (p1 : Nat) : List I4 := FnD.code (bc7q3 p0 p1)
def bc7q6 (p0 : CodD) (p1 : Nat) : Nat := LN (bc7q5 p0 p1)
def bc7q7 (p0 : FnD) : List I4 := FnD.code p0
def bc7q8 (p0 : FnD) : Nat := LN (bc7q7 p0)
def bc7q9 : I4 := D4
def bc7q10 (p0 : CodD) (p1 p2 : Nat) : I4 := List.getD (bc7q5 p0 p1) p2 bc7q9
def bc7q11 (p0 : FnD) (p1 : Nat) : I4 := List.getD (bc7q7 p0) p1 bc7q9
def bc7q12 (p0 : FnD) (p1 : Nat) : List D := (R4 (bc7q11 p0 p1))
def bc7q13 (p0 : CodD) : D := D.sl N4 (LN (CodD.consts p0)) (fun (i : Nat) => Arr.row (GC p0 i)) Mode.any
def bc7q14 (p0 : CodD) (p1 : Nat) : List I4 := FnD.code (bc7q0 p0 p1)
def bc7q15 (p0 : CodD) (p1 : Nat) : Nat := LN (bc7q14 p0 p1)
def bc7q16 (p0 : CodD) (p1 p2 : Nat) : I4 := List.getD (bc7q14 p0 p1) p2 bc7q9
def bc7q17 (p0 : CodD) : D := D.sl N2 (LN (CodD.funs p0)) (fun (i : Nat) => [ZI (FnD.slots (bc7q0 p0 i)), D.sl N4 (bc7q15 p0 i) (fun (i_1 : Nat) => (R4 (bc7q16 p0 i i_1))) Mode.any]) Mode.any
def bc7q18 (p0 : CodD) : D := D.sl N4 (LN (CodD.kers p0)) (fun (i : Nat) => KeD.row (GK p0 i)) Mode.any
def bc7q19 (p0 : CodD) : D := D.sl N2 (LN (CodD.lanes p0)) (fun (i : Nat) => LaD.row (GL p0 i)) Mode.any
def bc7q20 (p0 : FnD) : Bool := bif decide (Z0 ≤ bc7q4 p0) then decide (bc7q4 p0 ≤ (1000 : Int)) else false
def bc7q21 (p0 : CodD) (p1 : Nat) : Prop := True ∧ ∃ (_y : Unit), True ∧ (Z0 = (NI (Option.getD (funS p0 p1) N0)) ∧ false = Option.isSome (funS p0 p1) ∧ True) ∧ True ∧ True
def bc7q22 (p0 : FnD) : Int := (NI (bc7q8 p0))
def bc7q23 (p0 : FnD) : Int := IntKind.wrap IntKind.i64 (bc7q22 p0 - Z1)
def bc7q24 (p0 : CodD) (p1 p2 p3 : Nat) (p4 : List Bool) : Prop := FunHead p0 p1 p2 [] p3 p4
def bc7q25 : Prop := SM N0 ∧ (∀ (i : Nat), i < N0 → eqOf (List D) [] []) ∧ True
def bc7q26 (p0 : FnD) : Nat := Int.toNat (bc7q22 p0)
def bc7q27 (p0 : FnD) : D := D.sl N4 (bc7q8 p0) (fun (i : Nat) => bc7q12 p0 i) Mode.any
def bc7q28 (p0 : Nat) (p1 : FnD) (p2 : Nat) (p3 p4 p5 p6 : D) : List (Nat × Nat × AObj) := [(N1, p0, AObj.cells [ZI (bc7q4 p1), bc7q27 p1]), (N0, p2, AObj.cells [p3, p4, p5, p6])]
def bc7q29 (p0 : Nat) (p1 : FnD) (p2 p3 : Nat) (p4 p5 p6 p7 : D) : St := St.mk ((N2, p0, AObj.vec N1 (bc7q26 p1) (bc7q26 p1) fun (_x : Nat) => [D.bool false]) :: bc7q28 p2 p1 p3 p4 p5 p6 p7) []
def bc7q30 (p0 : List Bool) (p1 : Nat) : List D := [D.bool (List.getD p0 p1 false)]
def bc7q31 (p0 : Nat) (p1 : CodD) (p2 : Nat) (p3 : List Bool) (p4 : Nat) (p5 : FnD) (p6 : Nat) (p7 p8 p9 p10 : D) : List (Nat × Nat × AObj) := (N2, p0, AObj.vec N1 (bc7q15 p1 p2) (bc7q15 p1 p2) fun (i : Nat) => bc7q30 p3 i) :: bc7q28 p4 p5 p6 p7 p8 p9 p10
def bc7q32 (p0 : Nat) (p1 : CodD) (p2 : Nat) (p3 : List Bool) (p4 : Nat) (p5 : FnD) (p6 : Nat) (p7 p8 p9 p10 : D) : St := St.mk (bc7q31 p0 p1 p2 p3 p4 p5 p6 p7 p8 p9 p10) []
def bc7q33 (p0 : CodD) (p1 p2 : Nat) (p3 : List UInt8) (p4 : Nat) (p5 : List Bool) (p6 : Nat) : Prop := FunHead p0 p1 p2 p3 p4 p5 ∧ LN p3 ≤ p6
def bc7q34 : D := D.sl N1 N0 (fun (_x : Nat) => []) Mode.nil
def bc7q35 (p0 : List UInt8) (p1 : Nat) : List D := [ZB (BI p0 p1)]
def bc7q36 (p0 : Nat) (p1 : List UInt8) (p2 : Nat) : Nat × AObj := (p0, AObj.vec N1 (LN p1) p2 fun (i : Nat) => bc7q35 p1 i)
def bc7q37 (p0 : Nat) (p1 : FnD) : Bool := decide ((↑p0 : Int) < bc7q22 p1)
def bc7q38 (p0 : FnD) : Int := (NI (bc7q26 p0))
def bc7q39 (p0 : FnD) (p1 : Nat) : I4 := List.getD (bc7q7 p0) (bc7q2 p1) bc7q9
def bc7q40 (p0 : FnD) (p1 : Nat) : Int := I4.a (bc7q39 p0 p1)
def bc7q41 (p0 : FnD) (p1 : Nat) : Int := I4.b (bc7q39 p0 p1)
def bc7q42 (p0 : FnD) (p1 : Nat) : Int := I4.c (bc7q39 p0 p1)
def bc7q43 (p0 : FnD) (p1 : Nat) : Int := I4.d (bc7q39 p0 p1)
def bc7q44 (p0 : FnD) (p1 : Nat) : I4 := I4.mk (bc7q40 p0 p1) (bc7q41 p0 p1) (bc7q42 p0 p1) (bc7q43 p0 p1)
def bc7q45 (p0 : D) (p1 : CodD) (p2 p3 p4 : D) (p5 : Nat) (p6 : FnD) (p7 : Nat) : Prop := ((weakD p0 (bc7q13 p1) ∧ weakD p2 (bc7q17 p1) ∧ weakD p3 (bc7q18 p1) ∧ weakD p4 (bc7q19 p1) ∧ True) ∧ SM (↑p5 : Int) ∧ True) ∧ I4.ok (bc7q44 p6 p7)
def bc7q46 (p0 : CodD) (p1 : Nat) (p2 : FnD) (p3 : Nat) : Option Eff := effC p0 p1 (bc7q44 p2 p3)
def bc7q47 (p0 : CodD) (p1 : Nat) (p2 : FnD) (p3 : Nat) (p4 : Eff) : Prop := offQ (bc7q46 p0 p1 p2 p3) p4
def bc7q48 (p0 : CodD) (p1 : Nat) (p2 : FnD) (p3 : Nat) : Bool := Option.isSome (bc7q46 p0 p1 p2 p3)
def bc7q49 (p0 p1 : List UInt8) (p2 : CodD) (p3 : Nat) (p4 : FnD) (p5 : Nat) : Bool := p0 == [] && (p1 == [] && (bc7q48 p2 p3 p4 p5 == false && true))
def bc7q50 (p0 : Nat) (p1 : FnD) : D := D.vs N2 p0 (bc7q26 p1) (bc7q26 p1) N1
def bc7q51 (p0 : Nat) (p1 : FnD) : Prop := SM (bc7q50 p0 p1)
def bc7q52 (p0 p1 : Nat) (p2 : FnD) : Prop := SM (D.ref N1 p0 N0) ∧ bc7q51 p1 p2 ∧ True
def bc7q53 (p0 : CodD) (p1 : Nat) : Prop := SM (bc7q15 p0 p1)
def bc7q54 (p0 : Nat) (p1 : CodD) (p2 : Nat) : Prop := p0 < bc7q15 p1 p2
def bc7q55 (p0 : Nat) (p1 : FnD) : Prop := SM p0 ∧ (SM (bc7q4 p1) ∧ (SM (bc7q8 p1) ∧ (∀ (i : Nat), i < bc7q8 p1 → SM (bc7q12 p1 i)) ∧ True) ∧ True) ∧ True
def bc7q56 (p0 p1 : Nat) (p2 : FnD) (p3 : CodD) (p4 p5 : Nat) (p6 : List Bool) (p7 : Nat) : Prop := bc7q52 p0 p1 p2 ∧ ∃ (x : Nat × Bool × List Bool), MidInv p3 p4 x.1 x.2.1 x.2.2 ∧ ((↑p5 : Int) = (NI x.1) ∧ false = x.2.1 ∧ True) ∧ (SM p1 ∧ (bc7q53 p3 p4 ∧ bc7q53 p3 p4 ∧ ∀ (i : Nat), bc7q54 i p3 p4 → updF (fun (i : Nat) => bc7q30 p6 i) (bc7q2 p7) [D.bool true] i = bc7q30 x.2.2 i) ∧ bc7q55 p0 p2) ∧ True
def bc7q57 (p0 : FnD) (p1 : Nat) : Bool := decide (bc7q43 p0 p1 < Z0)
def bc7q58 (p0 : CodD) (p1 : Nat) (p2 : FnD) (p3 : Nat) : Prop := bc7q48 p0 p1 p2 p3 = true
def bc7q59 (p0 : FnD) (p1 : Nat) : Bool := bc7q40 p0 p1 == (25 : Int)
def bc7q60 (p0 : FnD) (p1 : Nat) : Bool := bc7q40 p0 p1 == (24 : Int)
def bc7q61 (p0 : FnD) (p1 : Nat) : Bool := bif bc7q59 p0 p1 then true else bc7q60 p0 p1
def bc7q62 (p0 : Nat) (p1 : FnD) (p2 : Nat) : Prop := SM p0 ∧ ifB (bc7q59 p1 p2) (true = bc7q61 p1 p2 ∧ True) (SM p0 ∧ bc7q60 p1 p2 = bc7q61 p1 p2 ∧ True)
def bc7q63 (p0 : FnD) (p1 : Nat) : Bool := decide (bc7q41 p0 p1 ≤ (↑p1 : Int))
def bc7q64 (p0 : FnD) (p1 : Nat) : Bool := bif bc7q60 p0 p1 then bc7q63 p0 p1 else false
def bc7q65 (p0 : FnD) (p1 : Nat) : Bool := bif bif bc7q61 p0 p1 then false else false then true else bc7q64 p0 p1
def bc7q66 (p0 : Nat) (p1 : FnD) (p2 : Nat) : Prop := SM p0 ∧ ifB (bc7q60 p1 p2) (SM p0 ∧ bc7q63 p1 p2 = bc7q65 p1 p2 ∧ True) (false = bc7q65 p1 p2 ∧ True)
def bc7q67 (p0 : FnD) : Prop := SM (ZI (bc7q22 p0))
def bc7q68 (p0 : FnD) : Prop := SM (bc7q27 p0) ∧ bc7q67 p0 ∧ True
def bc7q69 (p0 p1 p2 : Nat) (p3 : FnD) (p4 : Nat) : Prop := SM (ZI (↑p0 : Int)) ∧ SM (D.ref N0 p1 N0) ∧ SM (D.ref N1 p2 N0) ∧ bc7q67 p3 ∧ bc7q51 p4 p3 ∧ SM (D.bool true) ∧ bc7q68 p3
def bc7q70 (p0 : CodD) (p1 p2 : Nat) : Nat := bc7q15 p0 p1 - p2
def bc7q71 (p0 : CodD) (p1 p2 p3 : Nat) : Prop := bc7q70 p0 p1 p2 < bc7q70 p0 p1 p3
def bc7q72 (p0 p1 : Nat) : Prop := IntKind.wrap IntKind.i64 ((↑p0 : Int) + Z1) = (↑p1 : Int)
def bc7q73 (p0 : Nat) (p1 p2 : List UInt8) (p3 : CodD) (p4 : Nat) (p5 : FnD) (p6 : Nat) : Nat × AObj := (p0, AObj.cells [D.str p1, D.str p2, D.bool (bc7q48 p3 p4 p5 p6)])
def bc7q74 (p0 : Nat) (p1 : FnD) (p2 : Nat) : Nat × AObj := (p0, AObj.cells [ZI (bc7q40 p1 p2), ZI (bc7q41 p1 p2), ZI (bc7q42 p1 p2), ZI (bc7q43 p1 p2)])
def bc7q75 (p0 : FnD) (p1 : Nat) (p2 : List UInt8) : Bool := bif bif bc7q61 p0 p1 then decide (Z0 < (LI p2)) else false then true else bc7q64 p0 p1
def bc7q76 (p0 : Nat) (p1 : FnD) (p2 : Nat) (p3 : List UInt8) : Prop := SM p0 ∧ ifB (bc7q60 p1 p2) (SM p0 ∧ bc7q63 p1 p2 = bc7q75 p1 p2 p3 ∧ True) (false = bc7q75 p1 p2 p3 ∧ True)
def bc7q77 (p0 p1 : Nat) (p2 : FnD) (p3 : CodD) (p4 p5 : Nat) (p6 : List Bool) : Prop := bc7q52 p0 p1 p2 ∧ ∃ (x : Nat × Bool × List Bool), MidInv p3 p4 x.1 x.2.1 x.2.2 ∧ ((↑p5 : Int) = (NI x.1) ∧ true = x.2.1 ∧ True) ∧ (SM p1 ∧ (bc7q53 p3 p4 ∧ bc7q53 p3 p4 ∧ ∀ (i : Nat), bc7q54 i p3 p4 → bc7q30 p6 i = bc7q30 x.2.2 i) ∧ bc7q55 p0 p2) ∧ True
def bc7q78 (p0 p1 : Nat) (p2 : FnD) (p3 : CodD) (p4 p5 : Nat) (p6 : List Bool) (p7 : Nat) (p8 : List UInt8) : Prop := bc7q52 p0 p1 p2 ∧ ∃ (x : Nat × Bool × List Bool), MidInv p3 p4 x.1 x.2.1 x.2.2 ∧ ((↑p5 : Int) = (NI x.1) ∧ false = x.2.1 ∧ True) ∧ (SM p1 ∧ (bc7q53 p3 p4 ∧ bc7q53 p3 p4 ∧ ∀ (i : Nat), bc7q54 i p3 p4 → updF (fun (i : Nat) => bc7q30 p6 i) (bc7q2 p7) [D.bool ((LI p8) == Z0)] i = bc7q30 x.2.2 i) ∧ bc7q55 p0 p2) ∧ True
def bc7q79 (p0 p1 p2 : List UInt8) : Nat := LN (newA p0 p1 p2)
def bc7q80 (p0 : FnD) (p1 : Nat) (p2 p3 p4 : List UInt8) : Bool := bif bif bc7q61 p0 p1 then decide (Z0 < (NI (bc7q79 p2 p3 p4))) else false then true else bc7q64 p0 p1
def bc7q81 (p0 : Nat) (p1 : FnD) (p2 : Nat) (p3 p4 p5 : List UInt8) : Prop := SM p0 ∧ ifB (bc7q60 p1 p2) (SM p0 ∧ bc7q63 p1 p2 = bc7q80 p1 p2 p3 p4 p5 ∧ True) (false = bc7q80 p1 p2 p3 p4 p5 ∧ True)
def bc7q82 (p0 : Nat) (p1 p2 p3 : List UInt8) (p4 : Nat) : Prop := (if (↑p0 : Int) < (NI (bc7q79 p1 p2 p3)) then (NI (bc7q79 p1 p2 p3)) else (↑p0 : Int)) = (↑p4 : Int) ∧ True
def bc7q83 (p0 : Nat) (p1 : CodD) (p2 : Nat) (p3 p4 : Bool) : Prop := p0 ≤ bc7q15 p1 p2 ∧ (p3 = false → p0 = N0 ∧ p4 = false) ∧ (p3 = true → p4 = true ∧ guardsB (empS p1 p2 N0 (bc7q14 p1 p2) []) (List.take p0 (bc7q14 p1 p2)) = true)
def bc7q84 (p0 : Nat) (p1 : CodD) (p2 : Nat) (p3 : List Bool) : Prop := (SM p0 ∧ (bc7q53 p1 p2 ∧ bc7q53 p1 p2 ∧ ∀ (i : Nat), bc7q54 i p1 p2 → SM (bc7q30 p3 i)) ∧ True) ∧ True
def bc7q85 (p0 : FnD) (p1 : Nat) : Bool := bc7q40 p0 p1 != (24 : Int)
def bc7q86 (p0 : FnD) (p1 : Nat) : Nat := Int.toNat (bc7q41 p0 p1)
def bc7q87 (p0 : List Bool) (p1 : FnD) (p2 : Nat) : Bool := List.getD p0 (bc7q86 p1 p2) false
def bc7q88 (p0 : Bool) (p1 : FnD) (p2 : Nat) (p3 : List Bool) : Bool := bif p0 then bif bc7q85 p1 p2 then true else bc7q87 p3 p1 p2 else false
end
set_option maxHeartbeats 4000000 in
theorem fun_ok (c : CodD) (f : Nat) (hf : f < c.funs.length) (hc : c.ok) (hn : (c.funs.getD f default).code.length ≤ 65536) : ACalls Try.prog 39 [.agg c.row, .int .i64 f] ⟨[], []⟩ (SpecR (sC [.agg c.row, .int .i64 f] (funD (funS c f))) ()) := by
  refine con_of (A := sC _ _) (x := ()) (E := E39 c f) ⟨tab_ok, conF_ok hf hc, mix, inlF_ok (conF_ok hf hc), eqs_ok⟩ Try.func39 rfl (by kernel_rfl) rfl (by simp [sC, E39, EF, EC, E0]) ?_
  refine vc_eq (T :=
    ∀ (x : Nat), True → (SM x ∧ side (Z0 ≤ (↑f : Int) ∧ (↑f : Int) < (LI (CodD.funs c))) (∀ (x_1 : Nat), x ≠ x_1 ∧ True → SM x_1 ∧ ∃ (x_2 : Nat × FnD × O4), bc7q1 x_2.2.1 c f x_2.2.2 ∧ (x_1 = x_2.1 ∧ True) ∧ (x_1 = x_2.1 ∧ (FnD.slots (bc7q3 c f) = bc7q4 x_2.2.1 ∧ (bc7q6 c f = bc7q8 x_2.2.1 ∧ (∀ (i : Nat), i < bc7q6 c f → (R4 (bc7q10 c f i)) = bc7q12 x_2.2.1 i) ∧ True) ∧ True) ∧ SM x ∧ (weakD (bc7q13 c) x_2.2.2.1 ∧ weakD (bc7q17 c) x_2.2.2.2.1 ∧ weakD (bc7q18 c) x_2.2.2.2.2.1 ∧ weakD (bc7q19 c) x_2.2.2.2.2.2 ∧ True) ∧ True) ∧ True)) ∧ ∀ (x_1 : Nat × FnD × O4), bc7q1 x_1.2.1 c f x_1.2.2 → SM x_1.1 ∧ SM x_1.1 ∧ ifB (decide (Z0 ≤ bc7q4 x_1.2.1)) (decide (bc7q4 x_1.2.1 ≤ (1000 : Int)) = bc7q20 x_1.2.1 ∧ True) (false = bc7q20 x_1.2.1 ∧ True) ∧ True ∧ ifB (!bc7q20 x_1.2.1) (bc7q21 c f) (ifB (bc7q22 x_1.2.1 == Z0) (bc7q21 c f) (SM x_1.1 ∧ side (Z0 ≤ bc7q23 x_1.2.1 ∧ bc7q23 x_1.2.1 < bc7q22 x_1.2.1) (ifB (I4.a (List.getD (bc7q7 x_1.2.1) (Int.toNat (bc7q23 x_1.2.1)) bc7q9) != (25 : Int)) (bc7q21 c f) (side (Z0 ≤ bc7q22 x_1.2.1 ∧ bc7q22 x_1.2.1 ≤ bc7q22 x_1.2.1 ∧ Z1 * bc7q22 x_1.2.1 ≤ (281474976710656 : Int) ∧ bc7q22 x_1.2.1 ≤ (9223372036854775807 : Int)) (∀ (x_2 : Nat), x_1.1 ≠ x_2 ∧ x ≠ x_2 ∧ True → SM x_1.1 ∧ (((∃ (x_3 : Nat × Nat × List Bool), bc7q24 c f x_3.1 x_3.2.1 x_3.2.2 ∧ True ∧ (Z0 = (NI x_3.1) ∧ bc7q25 ∧ Z0 = (NI x_3.2.1) ∧ True) ∧ StTo (bc7q29 x_2 x_1.2.1 x_1.1 x x_1.2.2.1 x_1.2.2.2.1 x_1.2.2.2.2.1 x_1.2.2.2.2.2) (bc7q32 x_2 c f x_3.2.2 x_1.1 x_1.2.1 x x_1.2.2.1 x_1.2.2.2.1 x_1.2.2.2.2.1 x_1.2.2.2.2.2)) ∨ ∃ (x_3 : (Nat × Nat × List Bool) × List UInt8 × Nat × Nat), bc7q33 c f x_3.1.1 x_3.2.1 x_3.1.2.1 x_3.1.2.2 x_3.2.2.2 ∧ True ∧ (Z0 = (NI x_3.1.1) ∧ bc7q34 = D.vs (3 : Nat) x_3.2.2.1 (LN x_3.2.1) x_3.2.2.2 N1 ∧ Z0 = (NI x_3.1.2.1) ∧ True) ∧ StTo (bc7q29 x_2 x_1.2.1 x_1.1 x x_1.2.2.1 x_1.2.2.2.1 x_1.2.2.2.2.1 x_1.2.2.2.2.2) (St.mk (((3 : Nat), bc7q36 x_3.2.2.1 x_3.2.1 x_3.2.2.2) :: bc7q31 x_2 c f x_3.1.2.2 x_1.1 x_1.2.1 x x_1.2.2.1 x_1.2.2.2.1 x_1.2.2.2.2.1 x_1.2.2.2.2.2) [])) ∧ (∀ (x_3 : Nat × Nat × List Bool), bc7q24 c f x_3.1 x_3.2.1 x_3.2.2 → ifB (bc7q37 x_3.1 x_1.2.1) (side (Z0 ≤ (NI x_3.1) ∧ (NI x_3.1) < bc7q22 x_1.2.1) (∀ (x_4 : Nat), x_2 ≠ x_4 ∧ x_1.1 ≠ x_4 ∧ x ≠ x_4 ∧ True → SM x_4 ∧ side (Z0 ≤ (NI x_3.1) ∧ (NI x_3.1) < bc7q38 x_1.2.1) (SM x_2 ∧ side (bc7q2 x_3.1 < bc7q15 c f) (SM x ∧ SM x_4 ∧ bc7q45 x_1.2.2.1 c x_1.2.2.2.1 x_1.2.2.2.2.1 x_1.2.2.2.2.2 f x_1.2.1 x_3.1 ∧ ∀ (y : Eff), bc7q47 c f x_1.2.1 x_3.1 y → ∀ (x_5 : Nat), x_4 ≠ x_5 ∧ x_2 ≠ x_5 ∧ x_1.1 ≠ x_5 ∧ x ≠ x_5 ∧ True → SM x_5 ∧ SM x_5 ∧ ifB (bc7q49 y.1 y.2 c f x_1.2.1 x_3.1) (bc7q56 x_1.1 x_2 x_1.2.1 c f x_3.2.1 x_3.2.2 x_3.1) (SM x_4 ∧ ifB (bc7q57 x_1.2.1 x_3.1) (bc7q56 x_1.1 x_2 x_1.2.1 c f x_3.2.1 x_3.2.2 x_3.1) (SM x_5 ∧ (bc7q58 c f x_1.2.1 x_3.1 → LN y.2 ≤ (1000000 : Nat) ∧ LN y.1 ≤ (1000000 : Nat)) ∧ ifB (okA [] y.1 (bc7q48 c f x_1.2.1 x_3.1)) (ifB (List.isEmpty y.2) (bc7q62 x_4 x_1.2.1 x_3.1 ∧ ifB (bc7q61 x_1.2.1 x_3.1) (bc7q66 x_4 x_1.2.1 x_3.1) (bc7q66 x_4 x_1.2.1 x_3.1) ∧ ifB (bc7q65 x_1.2.1 x_3.1) (bc7q56 x_1.1 x_2 x_1.2.1 c f x_3.2.1 x_3.2.2 x_3.1) (bc7q69 f x x_1.1 x_1.2.1 x_2 ∧ ((∃ (x_6 : Nat × Nat × List Bool), bc7q24 c f x_6.1 x_6.2.1 x_6.2.2 ∧ bc7q71 c f x_6.1 x_3.1 ∧ (bc7q72 x_3.1 x_6.1 ∧ bc7q25 ∧ (if (NI x_3.2.1) < Z0 then Z0 else (NI x_3.2.1)) = (NI x_6.2.1) ∧ True) ∧ StTo (St.mk ((N4, bc7q73 x_5 y.1 y.2 c f x_1.2.1 x_3.1) :: ((3 : Nat), bc7q74 x_4 x_1.2.1 x_3.1) :: (N2, x_2, AObj.vec N1 (bc7q15 c f) (bc7q15 c f) (updF (fun (i : Nat) => bc7q30 x_3.2.2 i) (bc7q2 x_3.1) [D.bool true])) :: bc7q28 x_1.1 x_1.2.1 x x_1.2.2.1 x_1.2.2.2.1 x_1.2.2.2.2.1 x_1.2.2.2.2.2) []) (bc7q32 x_2 c f x_6.2.2 x_1.1 x_1.2.1 x x_1.2.2.1 x_1.2.2.2.1 x_1.2.2.2.2.1 x_1.2.2.2.2.2)) ∨ ∃ (x_6 : (Nat × Nat × List Bool) × List UInt8 × Nat × Nat), bc7q33 c f x_6.1.1 x_6.2.1 x_6.1.2.1 x_6.1.2.2 x_6.2.2.2 ∧ bc7q71 c f x_6.1.1 x_3.1 ∧ (bc7q72 x_3.1 x_6.1.1 ∧ bc7q34 = D.vs (3 : Nat) x_6.2.2.1 (LN x_6.2.1) x_6.2.2.2 N1 ∧ (if (NI x_3.2.1) < Z0 then Z0 else (NI x_3.2.1)) = (NI x_6.1.2.1) ∧ True) ∧ StTo (St.mk ((N4, bc7q73 x_5 y.1 y.2 c f x_1.2.1 x_3.1) :: ((3 : Nat), bc7q74 x_4 x_1.2.1 x_3.1) :: (N2, x_2, AObj.vec N1 (bc7q15 c f) (bc7q15 c f) (updF (fun (i : Nat) => bc7q30 x_3.2.2 i) (bc7q2 x_3.1) [D.bool true])) :: bc7q28 x_1.1 x_1.2.1 x x_1.2.2.1 x_1.2.2.2.1 x_1.2.2.2.2.1 x_1.2.2.2.2.2) []) (St.mk (((3 : Nat), bc7q36 x_6.2.2.1 x_6.2.1 x_6.2.2.2) :: bc7q31 x_2 c f x_6.1.2.2 x_1.1 x_1.2.1 x x_1.2.2.1 x_1.2.2.2.1 x_1.2.2.2.2.1 x_1.2.2.2.2.2) [])))) (∀ (x_6 cap : Nat), LN y.2 ≤ cap → bc7q62 x_4 x_1.2.1 x_3.1 ∧ ifB (bc7q61 x_1.2.1 x_3.1) (ifB (decide (Z0 < (LI y.2))) (true = bc7q75 x_1.2.1 x_3.1 y.2 ∧ True) (bc7q76 x_4 x_1.2.1 x_3.1 y.2)) (bc7q76 x_4 x_1.2.1 x_3.1 y.2) ∧ ifB (bc7q75 x_1.2.1 x_3.1 y.2) (bc7q56 x_1.1 x_2 x_1.2.1 c f x_3.2.1 x_3.2.2 x_3.1) (bc7q69 f x x_1.1 x_1.2.1 x_2 ∧ ((∃ (x_7 : Nat × Nat × List Bool), bc7q24 c f x_7.1 x_7.2.1 x_7.2.2 ∧ bc7q71 c f x_7.1 x_3.1 ∧ (bc7q72 x_3.1 x_7.1 ∧ D.vs (5 : Nat) x_6 (LN y.2) cap N1 = bc7q34 ∧ (if (NI x_3.2.1) < (LI y.2) then (LI y.2) else (NI x_3.2.1)) = (NI x_7.2.1) ∧ True) ∧ StTo (St.mk (((5 : Nat), bc7q36 x_6 y.2 cap) :: (N4, bc7q73 x_5 y.1 y.2 c f x_1.2.1 x_3.1) :: ((3 : Nat), bc7q74 x_4 x_1.2.1 x_3.1) :: (N2, x_2, AObj.vec N1 (bc7q15 c f) (bc7q15 c f) (updF (fun (i : Nat) => bc7q30 x_3.2.2 i) (bc7q2 x_3.1) [D.bool true])) :: bc7q28 x_1.1 x_1.2.1 x x_1.2.2.1 x_1.2.2.2.1 x_1.2.2.2.2.1 x_1.2.2.2.2.2) []) (bc7q32 x_2 c f x_7.2.2 x_1.1 x_1.2.1 x x_1.2.2.1 x_1.2.2.2.1 x_1.2.2.2.2.1 x_1.2.2.2.2.2)) ∨ ∃ (x_7 : (Nat × Nat × List Bool) × List UInt8 × Nat × Nat), bc7q33 c f x_7.1.1 x_7.2.1 x_7.1.2.1 x_7.1.2.2 x_7.2.2.2 ∧ bc7q71 c f x_7.1.1 x_3.1 ∧ (bc7q72 x_3.1 x_7.1.1 ∧ (x_6 = x_7.2.2.1 ∧ LN y.2 = LN x_7.2.1 ∧ cap = x_7.2.2.2) ∧ (if (NI x_3.2.1) < (LI y.2) then (LI y.2) else (NI x_3.2.1)) = (NI x_7.1.2.1) ∧ True) ∧ StTo (St.mk (((5 : Nat), bc7q36 x_6 y.2 cap) :: (N4, bc7q73 x_5 y.1 y.2 c f x_1.2.1 x_3.1) :: ((3 : Nat), bc7q74 x_4 x_1.2.1 x_3.1) :: (N2, x_2, AObj.vec N1 (bc7q15 c f) (bc7q15 c f) (updF (fun (i : Nat) => bc7q30 x_3.2.2 i) (bc7q2 x_3.1) [D.bool true])) :: bc7q28 x_1.1 x_1.2.1 x x_1.2.2.1 x_1.2.2.2.1 x_1.2.2.2.2.1 x_1.2.2.2.2.2) []) (St.mk (((3 : Nat), bc7q36 x_7.2.2.1 x_7.2.1 x_7.2.2.2) :: bc7q31 x_2 c f x_7.1.2.2 x_1.1 x_1.2.1 x x_1.2.2.1 x_1.2.2.2.1 x_1.2.2.2.2.1 x_1.2.2.2.2.2) []))))) (bc7q62 x_4 x_1.2.1 x_3.1 ∧ (SM true ∧ True) ∧ bc7q56 x_1.1 x_2 x_1.2.1 c f x_3.2.1 x_3.2.2 x_3.1))))))) (bc7q77 x_1.1 x_2 x_1.2.1 c f x_3.2.1 x_3.2.2)) ∧ ∀ (x_3 : (Nat × Nat × List Bool) × List UInt8 × Nat × Nat), bc7q33 c f x_3.1.1 x_3.2.1 x_3.1.2.1 x_3.1.2.2 x_3.2.2.2 → ifB (bc7q37 x_3.1.1 x_1.2.1) (side (Z0 ≤ (NI x_3.1.1) ∧ (NI x_3.1.1) < bc7q22 x_1.2.1) (∀ (x_4 : Nat), x_3.2.2.1 ≠ x_4 ∧ x_2 ≠ x_4 ∧ x_1.1 ≠ x_4 ∧ x ≠ x_4 ∧ True → SM x_4 ∧ side (Z0 ≤ (NI x_3.1.1) ∧ (NI x_3.1.1) < bc7q38 x_1.2.1) (SM x_2 ∧ side (bc7q2 x_3.1.1 < bc7q15 c f) (SM x ∧ SM x_4 ∧ bc7q45 x_1.2.2.1 c x_1.2.2.2.1 x_1.2.2.2.2.1 x_1.2.2.2.2.2 f x_1.2.1 x_3.1.1 ∧ ∀ (y : Eff), bc7q47 c f x_1.2.1 x_3.1.1 y → ∀ (x_5 : Nat), x_4 ≠ x_5 ∧ x_3.2.2.1 ≠ x_5 ∧ x_2 ≠ x_5 ∧ x_1.1 ≠ x_5 ∧ x ≠ x_5 ∧ True → SM x_5 ∧ SM x_5 ∧ ifB (bc7q49 y.1 y.2 c f x_1.2.1 x_3.1.1) (bc7q78 x_1.1 x_2 x_1.2.1 c f x_3.1.2.1 x_3.1.2.2 x_3.1.1 x_3.2.1) (SM x_4 ∧ ifB (bc7q57 x_1.2.1 x_3.1.1) (bc7q78 x_1.1 x_2 x_1.2.1 c f x_3.1.2.1 x_3.1.2.2 x_3.1.1 x_3.2.1) (SM x_5 ∧ ∃ (st : List UInt8), (LN st = LN x_3.2.1 ∧ LN x_3.2.1 ≤ x_3.2.2.2 ∧ (bc7q58 c f x_1.2.1 x_3.1.1 → LN st + LN y.2 ≤ (1000000 : Nat) ∧ LN y.1 ≤ (1000000 : Nat)) ∧ (SM x_3.2.2.1 ∧ (SM (LN x_3.2.1) ∧ SM x_3.2.2.2 ∧ ∀ (i : Nat), i < LN x_3.2.1 → bc7q35 x_3.2.1 i = bc7q35 st i) ∧ True) ∧ True) ∧ ifB (okA st y.1 (bc7q48 c f x_1.2.1 x_3.1.1)) (∀ (x' cap' : Nat), bc7q79 st y.1 y.2 ≤ cap' → bc7q62 x_4 x_1.2.1 x_3.1.1 ∧ ifB (bc7q61 x_1.2.1 x_3.1.1) (ifB (decide (Z0 < (NI (bc7q79 st y.1 y.2)))) (true = bc7q80 x_1.2.1 x_3.1.1 st y.1 y.2 ∧ True) (bc7q81 x_4 x_1.2.1 x_3.1.1 st y.1 y.2)) (bc7q81 x_4 x_1.2.1 x_3.1.1 st y.1 y.2) ∧ ifB (bc7q80 x_1.2.1 x_3.1.1 st y.1 y.2) (bc7q78 x_1.1 x_2 x_1.2.1 c f x_3.1.2.1 x_3.1.2.2 x_3.1.1 x_3.2.1) (bc7q69 f x x_1.1 x_1.2.1 x_2 ∧ ((∃ (x_6 : Nat × Nat × List Bool), bc7q24 c f x_6.1 x_6.2.1 x_6.2.2 ∧ bc7q71 c f x_6.1 x_3.1.1 ∧ (bc7q72 x_3.1.1 x_6.1 ∧ D.vs (3 : Nat) x' (bc7q79 st y.1 y.2) cap' N1 = bc7q34 ∧ bc7q82 x_3.1.2.1 st y.1 y.2 x_6.2.1) ∧ StTo (St.mk (((3 : Nat), x', AObj.vec N1 (bc7q79 st y.1 y.2) cap' fun (i : Nat) => [ZB (BI (newA st y.1 y.2) i)]) :: ((5 : Nat), bc7q73 x_5 y.1 y.2 c f x_1.2.1 x_3.1.1) :: (N4, bc7q74 x_4 x_1.2.1 x_3.1.1) :: (N2, x_2, AObj.vec N1 (bc7q15 c f) (bc7q15 c f) (updF (fun (i : Nat) => bc7q30 x_3.1.2.2 i) (bc7q2 x_3.1.1) [D.bool ((LI x_3.2.1) == Z0)])) :: bc7q28 x_1.1 x_1.2.1 x x_1.2.2.1 x_1.2.2.2.1 x_1.2.2.2.2.1 x_1.2.2.2.2.2) []) (bc7q32 x_2 c f x_6.2.2 x_1.1 x_1.2.1 x x_1.2.2.1 x_1.2.2.2.1 x_1.2.2.2.2.1 x_1.2.2.2.2.2)) ∨ ∃ (x_6 : (Nat × Nat × List Bool) × List UInt8 × Nat × Nat), bc7q33 c f x_6.1.1 x_6.2.1 x_6.1.2.1 x_6.1.2.2 x_6.2.2.2 ∧ bc7q71 c f x_6.1.1 x_3.1.1 ∧ (bc7q72 x_3.1.1 x_6.1.1 ∧ (x' = x_6.2.2.1 ∧ bc7q79 st y.1 y.2 = LN x_6.2.1 ∧ cap' = x_6.2.2.2) ∧ bc7q82 x_3.1.2.1 st y.1 y.2 x_6.1.2.1) ∧ StTo (St.mk (((3 : Nat), x', AObj.vec N1 (bc7q79 st y.1 y.2) cap' fun (i : Nat) => [ZB (BI (newA st y.1 y.2) i)]) :: ((5 : Nat), bc7q73 x_5 y.1 y.2 c f x_1.2.1 x_3.1.1) :: (N4, bc7q74 x_4 x_1.2.1 x_3.1.1) :: (N2, x_2, AObj.vec N1 (bc7q15 c f) (bc7q15 c f) (updF (fun (i : Nat) => bc7q30 x_3.1.2.2 i) (bc7q2 x_3.1.1) [D.bool ((LI x_3.2.1) == Z0)])) :: bc7q28 x_1.1 x_1.2.1 x x_1.2.2.1 x_1.2.2.2.1 x_1.2.2.2.2.1 x_1.2.2.2.2.2) []) (St.mk (((3 : Nat), bc7q36 x_6.2.2.1 x_6.2.1 x_6.2.2.2) :: bc7q31 x_2 c f x_6.1.2.2 x_1.1 x_1.2.1 x x_1.2.2.1 x_1.2.2.2.1 x_1.2.2.2.2.1 x_1.2.2.2.2.2) [])))) (bc7q62 x_4 x_1.2.1 x_3.1.1 ∧ (SM true ∧ True) ∧ bc7q78 x_1.1 x_2 x_1.2.1 c f x_3.1.2.1 x_3.1.2.2 x_3.1.1 x_3.2.1))))))) (bc7q77 x_1.1 x_2 x_1.2.1 c f x_3.1.2.1 x_3.1.2.2)) ∧ ∀ (x : Nat × Bool × List Bool), MidInv c f x.1 x.2.1 x.2.2 → SM x_1.1 ∧ (∃ (x_3 : Nat × Bool), bc7q83 x_3.1 c f x_3.2 x.2.1 ∧ (Z0 = (NI x_3.1) ∧ x.2.1 = x_3.2 ∧ True) ∧ bc7q84 x_2 c f x.2.2) ∧ ∀ (x_3 : Nat × Bool), bc7q83 x_3.1 c f x_3.2 x.2.1 → ifB (bc7q37 x_3.1 x_1.2.1) (side (Z0 ≤ (NI x_3.1) ∧ (NI x_3.1) < bc7q22 x_1.2.1) (∀ (x_4 : Nat), x_2 ≠ x_4 ∧ True → SM x_4 ∧ ifB x_3.2 (SM x_4 ∧ ifB (bc7q85 x_1.2.1 x_3.1) (true = bc7q88 x_3.2 x_1.2.1 x_3.1 x.2.2 ∧ True) (SM x_4 ∧ side (Z0 ≤ bc7q41 x_1.2.1 x_3.1 ∧ bc7q41 x_1.2.1 x_3.1 < bc7q38 x_1.2.1) (SM x_2 ∧ side (bc7q86 x_1.2.1 x_3.1 < bc7q15 c f) (bc7q87 x.2.2 x_1.2.1 x_3.1 = bc7q88 x_3.2 x_1.2.1 x_3.1 x.2.2 ∧ True)))) (false = bc7q88 x_3.2 x_1.2.1 x_3.1 x.2.2 ∧ True) ∧ ifB (!bc7q88 x_3.2 x_1.2.1 x_3.1 x.2.2) (bc7q21 c f) ((bc7q51 x_2 x_1.2.1 ∧ SM (ZI (NI x.1)) ∧ bc7q68 x_1.2.1) ∧ ∃ (y : Nat × Bool), bc7q83 y.1 c f y.2 x.2.1 ∧ bc7q71 c f y.1 x_3.1 ∧ (bc7q72 x_3.1 y.1 ∧ bc7q88 x_3.2 x_1.2.1 x_3.1 x.2.2 = y.2 ∧ True) ∧ bc7q84 x_2 c f x.2.2))) (True ∧ ∃ (y : Unit), True ∧ ((NI x.1) = (NI (Option.getD (funS c f) N0)) ∧ true = Option.isSome (funS c f) ∧ True) ∧ True ∧ True))))))) (by kernel_rfl) ?_
  delta BI D4 DA DF DK DL GC GF GK GL LI LN N0 N1 N2 N4 NI R4 SM U0 Z0 Z1 ZB ZI bc7q0 bc7q1 bc7q10 bc7q11 bc7q12 bc7q13 bc7q14 bc7q15 bc7q16 bc7q17 bc7q18 bc7q19 bc7q2 bc7q20 bc7q21 bc7q22 bc7q23 bc7q24 bc7q25 bc7q26 bc7q27 bc7q28 bc7q29 bc7q3 bc7q30 bc7q31 bc7q32 bc7q33 bc7q34 bc7q35 bc7q36 bc7q37 bc7q38 bc7q39 bc7q4 bc7q40 bc7q41 bc7q42 bc7q43 bc7q44 bc7q45 bc7q46 bc7q47 bc7q48 bc7q49 bc7q5 bc7q50 bc7q51 bc7q52 bc7q53 bc7q54 bc7q55 bc7q56 bc7q57 bc7q58 bc7q59 bc7q6 bc7q60 bc7q61 bc7q62 bc7q63 bc7q64 bc7q65 bc7q66 bc7q67 bc7q68 bc7q69 bc7q7 bc7q70 bc7q71 bc7q72 bc7q73 bc7q74 bc7q75 bc7q76 bc7q77 bc7q78 bc7q79 bc7q8 bc7q80 bc7q81 bc7q82 bc7q83 bc7q84 bc7q85 bc7q86 bc7q87 bc7q88 bc7q9
  have de : (default : FnD) = ⟨0, []⟩ := rfl
  have d4 : (default : I4) = ⟨0, 0, 0, 0⟩ := rfl
  simp only [← de, ← d4, Int.toNat_natCast]
  simp only [ifB_iff, side_iff, decide_eq_true_eq, decide_eq_false_iff_not, true_and, and_true, beq_iff_eq, bne_iff_ne, Bool.cond_false_right, Bool.cond_true_left, Bool.and_eq_true, Bool.and_eq_false_iff, beq_eq_false_iff_ne, ne_eq]
  intro x2 _
  refine ⟨⟨by omega, fun x6 _ => ⟨(x6, c.funs.getD f default, (gsl 4 Arr.row c.consts, gsl 2 FnD.row c.funs, gsl 4 KeD.row c.kers, gsl 2 LaD.row c.lanes)), ⟨rfl, rfl⟩, rfl, rfl, ⟨rfl, rfl, fun _ _ => rfl⟩, weakD_refl _, weakD_refl _, weakD_refl _, weakD_refl _⟩⟩, ?_⟩
  rintro ⟨x6, F, dd⟩ ⟨hF, hdd⟩
  simp only at hF hdd ⊢
  subst hF
  have hco : ∀ i : Nat, i < (c.funs.getD f default).code.length → ((c.funs.getD f default).code.getD i default).ok := fun i hi => getD_ok (getD_ok hc.2.1 hf).2.1 hi
  have hD : weakD dd.1 (gsl 4 Arr.row c.consts) ∧ weakD dd.2.1 (gsl 2 FnD.row c.funs) ∧ weakD dd.2.2.1 (gsl 4 KeD.row c.kers) ∧ weakD dd.2.2.2 (gsl 2 LaD.row c.lanes) := by
    have h := hdd
    simp only [CB, O4.row, CodD.row, List.cons.injEq, and_true] at h
    obtain ⟨h1, h2, h3, h4⟩ := h
    rw [h1, h2, h3, h4]
    exact ⟨weakD_refl _, weakD_refl _, weakD_refl _, weakD_refl _⟩
  have hw1 : IntKind.i64.wrap (((c.funs.getD f default).code.length : Int) - 1) = ((c.funs.getD f default).code.length : Int) - 1 := wrap_i64' (by omega) (by omega)
  have no : funS c f = none → ∃ y : Unit, (0 : Int) = ((funS c f).getD 0 : Nat) ∧ false = (funS c f).isSome := fun h => ⟨(), by simp [h], by simp [h]⟩
  have gen : ∃ CO : List I4, CO = (c.funs.getD f default).code := ⟨_, rfl⟩
  refine ⟨⟨fun h => by rw [decide_eq_true h, Bool.true_and], fun h => by rw [decide_eq_false h, Bool.false_and]⟩, fun h => no ?_, fun h1 => ⟨fun h => no ?_, fun h2 => ⟨by rw [hw1]; omega, fun h => no ?_, fun h3 => ⟨by omega, fun x9 _ => ⟨⟨?_, ?_, ?_⟩, ?_⟩⟩⟩⟩⟩
  · simp only [funS]
    rw [if_neg]
    intro hh
    simp only [between] at hh
    rw [hh.1] at h
    cases h
  · simp only [funS]
    rw [if_neg]
    exact fun hh => hh.2.1 (List.eq_nil_of_length_eq_zero (by omega))
  · simp only [funS]
    rw [if_neg]
    intro hh
    apply h
    rw [hw1, show (((c.funs.getD f default).code.length : Int) - 1).toNat = (c.funs.getD f default).code.length - 1 by omega]
    exact hh.2.2
  · refine .inl ⟨(0, 0, List.replicate (c.funs.getD f default).code.length false), ⟨Nat.zero_le _, Nat.le_refl _, Nat.zero_le _, by simp, by simp, by simp⟩, ⟨rfl, fun _ _ => trivial, rfl⟩, leS_to ?_⟩
    simp [leS, chk_iff, leO, leT, getO, nodupB, weakO, weakD_refl, weakL, List.getD_eq_getElem?_getD, List.getElem?_replicate]
    intro i hi
    simp [hi]
  · rintro ⟨i, deep, em⟩ hh
    simp only at hh ⊢
    refine ⟨fun hlt => ?_, fun hge => ⟨(deep, true, em), hh.done (by omega), ⟨rfl, rfl⟩, fun _ _ => rfl, fun _ _ => trivial⟩⟩
    have hlt : i < (c.funs.getD f default).code.length := by omega
    have hx := hco i hlt
    have hiem : i < em.length := by rw [hh.hl]; exact hlt
    have fl := fun h => hh.fail hlt h
    have nxt := fun {nx : List UInt8} (h : stepS c f i ((c.funs.getD f default).code.getD i default) [] = some nx) => hh.next hn hlt h
    generalize (c.funs.getD f default).code.getD i default = x at *
    have fail : stepS c f i x [] = none → ∃ y : Nat × Bool × List Bool, MidInv c f y.1 y.2.1 y.2.2 ∧ ((deep : Int) = (y.1 : Int) ∧ false = y.2.1) ∧ (∀ j, j < (c.funs.getD f default).code.length → updF (fun j => [D.bool (em.getD j false)]) i [D.bool true] j = [D.bool (y.2.2.getD j false)]) ∧ ∀ j, j < (c.funs.getD f default).code.length → True :=
      fun h => ⟨(deep, false, em.set i true), .inr ⟨rfl, fl h⟩, ⟨rfl, rfl⟩, fun j _ => upd_row em i true hiem j, fun _ _ => trivial⟩
    refine ⟨by omega, fun x4 _ => ⟨by omega, hlt, ⟨hD, hx⟩, fun y hy x5 _ => ?_⟩⟩
    generalize he : effC c f ⟨x.a, x.b, x.c, x.d⟩ = e at *
    have he : effC c f x = e := he
    cases e with
    | none =>
      have flw := fail (by simp [stepS, he])
      refine ⟨fun _ => flw, fun _ => ⟨fun _ => flw, fun _ => ⟨fun h => (by cases h), fun h => (by simp [okA] at h), fun _ => ⟨⟨fun h => by simp [h], fun h => by simp [h]⟩, flw⟩⟩⟩⟩
    | some e' =>
      have hye : y = e' := hy e' rfl
      subst hye
      have hlen := eff_len he
      refine ⟨fun h => (by simp at h), fun _ => ⟨fun hd => fail (by simp [stepS, he, hd]), fun hd => ⟨fun _ => by omega, fun hok => ⟨fun hq => ⟨?_, ?_, fun hcond => fail ?_, fun hcond => .inl ?_⟩, fun hq xs cap hcap => ⟨?_, ?_, fun hcond => fail ?_, fun hcond => .inr ?_⟩⟩, fun hok => ⟨⟨fun h => by simp [h], fun h => by simp [h]⟩, fail (by simp only [Option.isSome] at hok; simp [stepS, he, hok])⟩⟩⟩⟩
      · exact ops1
      · exact ops2
      · have hq0 : y.2 = [] := by simpa using hq
        exact (step_cond he hok hd (b := false) (by simp [newA, hq0])).1 hcond
      · have hq0 : y.2 = [] := by simpa using hq
        have hs := (step_cond he hok hd (b := false) (by simp [newA, hq0])).2 hcond
        have hn0 : newA [] y.1 y.2 = [] := by simp [newA, hq0]
        rw [hn0] at hs
        refine ⟨(i + 1, max deep 0, em.set i true), nxt hs, by simp only; omega, ⟨wrap_i64' (by omega) (by omega), fun _ _ => trivial, by rw [maxI0]; simp⟩, leS_to ?_⟩
        simp only [leS, chk_iff, leO, leT, getO, nodupB, weakO, List.map_cons, List.map_nil]
        simp [weakL_refl]
        exact fun j _ => by simpa [List.getD_eq_getElem?_getD] using upd_row em i true hiem j
      · exact ops1
      · exact ops3
      · exact (step_cond he hok hd (b := decide (0 < (y.2.length : Int))) (by rw [lenB]; simp [newA])).1 hcond
      · have hs := (step_cond he hok hd (b := decide (0 < (y.2.length : Int))) (by rw [lenB]; simp [newA])).2 hcond
        have hn0 : newA [] y.1 y.2 = y.2 := by simp [newA]
        rw [hn0] at hs
        refine ⟨((i + 1, max deep y.2.length, em.set i true), y.2, xs, cap), ⟨nxt hs, hcap⟩, by simp only; omega, ⟨wrap_i64' (by omega) (by omega), ⟨rfl, rfl, rfl⟩, maxI _ _⟩, ?_⟩
        refine StTo.trans (B := ⟨[(5, xs, .vec 1 y.2.length cap (brow y.2)), (2, x9, .vec 1 (c.funs.getD f default).code.length (c.funs.getD f default).code.length (erow (em.set i true))), (1, x6, .cells (FnD.row (c.funs.getD f default))), (0, x2, .cells (O4.row dd))], []⟩) (leS_to ?_) (StTo.pos ⟨⟨rfl, ?_, rfl, ?_, rfl, ?_, rfl, ?_, trivial⟩, trivial⟩)
        · simp only [leS, chk_iff, leO, leT, getO, nodupB, weakO, List.map_cons, List.map_nil]
          simp [weakL_refl, O4.row, FnD.row, gsl, I4.row, brow, erow]
          exact fun j _ => by simpa [List.getD_eq_getElem?_getD] using upd_row em i true hiem j
        · simp [weakO, chk_iff, brow]
        · simp [weakO, chk_iff, erow]
        · simp only [weakO]; exact weakL_refl _
        · simp only [weakO]; exact weakL_refl _
  · rintro ⟨⟨i, deep, em⟩, st, xs, cap⟩ ⟨hh, hcap⟩
    simp only at hh hcap ⊢
    refine ⟨fun hlt => ?_, fun hge => ⟨(deep, true, em), hh.done (by omega), ⟨rfl, rfl⟩, fun _ _ => rfl, fun _ _ => trivial⟩⟩
    have hlt : i < (c.funs.getD f default).code.length := by omega
    have hx := hco i hlt
    have hiem : i < em.length := by rw [hh.hl]; exact hlt
    have hsl := hh.hs
    have fl := fun h => hh.fail hlt h
    have nxt := fun {nx : List UInt8} (h : stepS c f i ((c.funs.getD f default).code.getD i default) st = some nx) => hh.next hn hlt h
    generalize (c.funs.getD f default).code.getD i default = x at *
    have fail : stepS c f i x st = none → ∃ y : Nat × Bool × List Bool, MidInv c f y.1 y.2.1 y.2.2 ∧ ((deep : Int) = (y.1 : Int) ∧ false = y.2.1) ∧ (∀ j, j < (c.funs.getD f default).code.length → updF (fun j => [D.bool (em.getD j false)]) i [D.bool st.isEmpty] j = [D.bool (y.2.2.getD j false)]) ∧ ∀ j, j < (c.funs.getD f default).code.length → True :=
      fun h => ⟨(deep, false, em.set i st.isEmpty), .inr ⟨rfl, fl h⟩, ⟨rfl, rfl⟩, fun j _ => upd_row em i _ hiem j, fun _ _ => trivial⟩
    have hie : ((st.length : Int) == 0) = st.isEmpty := by cases st with
      | nil => rfl
      | cons a l => simp; omega
    simp only [hie]
    refine ⟨by omega, fun x4 _ => ⟨by omega, hlt, ⟨hD, hx⟩, fun y hy x5 _ => ?_⟩⟩
    generalize he : effC c f ⟨x.a, x.b, x.c, x.d⟩ = e at *
    have he : effC c f x = e := he
    cases e with
    | none =>
      have flw := fail (by simp [stepS, he])
      refine ⟨fun _ => flw, fun _ => ⟨fun _ => flw, fun _ => ⟨st, ⟨rfl, hcap, fun h => (by cases h), fun _ _ => rfl⟩, fun h => (by simp [okA] at h), fun _ => ⟨ops1, flw⟩⟩⟩⟩
    | some e' =>
      have hye : y = e' := hy e' rfl
      subst hye
      have hlen := eff_len he
      refine ⟨fun h => (by simp at h), fun _ => ⟨fun hd => fail (by simp [stepS, he, hd]), fun hd => ⟨st, ⟨rfl, hcap, fun _ => by omega, fun _ _ => rfl⟩, fun hok x' cap' hcap' => ⟨ops1, ops3, fun hcond => fail ?_, fun hcond => .inr ?_⟩, fun hok => ⟨ops1, fail (by simp only [Option.isSome] at hok; simp [stepS, he, hok])⟩⟩⟩⟩
      · exact (step_cond he hok hd (b := decide (0 < ((newA st y.1 y.2).length : Int))) lenB).1 hcond
      · have hs := (step_cond he hok hd (b := decide (0 < ((newA st y.1 y.2).length : Int))) lenB).2 hcond
        refine ⟨((i + 1, max deep (newA st y.1 y.2).length, em.set i st.isEmpty), newA st y.1 y.2, x', cap'), ⟨nxt hs, hcap'⟩, by simp only; omega, ⟨wrap_i64' (by omega) (by omega), ⟨rfl, rfl, rfl⟩, maxI _ _⟩, leS_to ?_⟩
        simp only [leS, chk_iff, leO, leT, getO, nodupB, weakO, List.map_cons, List.map_nil]
        simp [weakL_refl]
        exact fun j _ => by simpa [List.getD_eq_getElem?_getD] using upd_row em i st.isEmpty hiem j
  · rintro ⟨dp, r, em⟩ hm
    simp only at hm ⊢
    have hN : 0 < (c.funs.getD f default).code.length := by omega
    have hok : between (c.funs.getD f default).slots 0 1000 = true ∧ (c.funs.getD f default).code ≠ [] ∧ ((c.funs.getD f default).code.getD ((c.funs.getD f default).code.length - 1) default).a = 25 := by
      refine ⟨by simpa [between] using h1, (fun e => by rw [e] at hN; cases hN), ?_⟩
      rw [hw1, show (((c.funs.getD f default).code.length : Int) - 1).toNat = (c.funs.getD f default).code.length - 1 by omega] at h3
      simpa using h3
    have none_of : runS c f 0 (c.funs.getD f default).code [] 0 = none → funS c f = none := fun h => by simp only [funS]; rw [if_pos hok, h]
    refine ⟨⟨(0, r), ⟨Nat.zero_le _, fun h => ⟨rfl, h⟩, fun h => ⟨h, by simp [guardsB]⟩⟩, ⟨rfl, rfl⟩, fun _ _ => trivial⟩, ?_⟩
    rintro ⟨j, q⟩ ⟨hj, hjf, hjt⟩
    simp only at hj hjf hjt ⊢
    refine ⟨fun hlt => ⟨by omega, fun x4 _ => ?_⟩, fun hge => ?_⟩
    · have hlt : j < (c.funs.getD f default).code.length := by omega
      have hmem : (c.funs.getD f default).code.getD j default ∈ (c.funs.getD f default).code := getD_mem hlt
      have htk := take_step hlt
      generalize (c.funs.getD f default).code.getD j default = x at *
      cases q with
      | false =>
        obtain ⟨hj0, hr0⟩ := hjf rfl
        rcases hm with ⟨hr1, _⟩ | ⟨_, hrun⟩
        · rw [hr0] at hr1; cases hr1
        · refine ⟨⟨fun h => (by cases h), fun _ => rfl⟩, fun _ => no (none_of hrun), fun h => (by simp at h)⟩
      | true =>
        obtain ⟨hr1, hgs⟩ := hjt rfl
        rcases hm with ⟨_, hrun, rfl⟩ | ⟨hr2, _⟩
        · have hrng : x.a = 24 → 0 ≤ x.b ∧ x.b < ((c.funs.getD f default).code.length : Int) := fun ha => (let ⟨_, he⟩ := run_mem _ _ _ _ _ hrun x hmem; eff_guard he ha)
          refine ⟨⟨fun _ => ⟨fun ha => by simp [ha], fun ha => ?_⟩, fun h => (by cases h)⟩, fun hno => no ?_, fun hyes => ⟨(j + 1, true), ⟨by omega, fun h => (by cases h), fun _ => ⟨hr1, ?_⟩⟩, by omega, ⟨wrap_i64' (by omega) (by omega), ?_⟩, fun _ _ => trivial⟩⟩
          · have ha : x.a = 24 := by simpa using ha
            have := hrng ha
            exact ⟨this, by omega, by simp [ha]⟩
          · simp only [funS]
            rw [if_pos hok, hrun]
            simp only
            rw [if_neg]
            intro hg
            have := List.all_eq_true.1 hg x hmem
            simp at hno this
            rcases this with h | h
            · exact absurd hno.1 h
            · rw [hno.2] at h; cases h
          · rw [htk]
            simp only [guardsB, List.all_append, Bool.and_eq_true] at hgs ⊢
            refine ⟨hgs, ?_⟩
            simp only [List.all_cons, List.all_nil, Bool.and_true]
            exact (guard_one hyes).1
          · exact (guard_one hyes).2
        · rw [hr1] at hr2; cases hr2
    · have hjN : j = (c.funs.getD f default).code.length := by omega
      cases q with
      | false => obtain ⟨hj0, _⟩ := hjf rfl; omega
      | true =>
        obtain ⟨hr1, hgs⟩ := hjt rfl
        rcases hm with ⟨_, hrun, rfl⟩ | ⟨hr2, _⟩
        · rw [hjN, List.take_length] at hgs
          have : funS c f = some dp := by simp only [funS]; rw [if_pos hok, hrun]; simp only; rw [if_pos hgs]
          exact ⟨(), by rw [this]; rfl, by rw [this]; rfl⟩
        · rw [hr1] at hr2; cases hr2
end Go.Proofs.Ytoglbmhkfkghbaa
namespace Go.Proofs.Ytoglbmhkfkghbaa
open Go Go.Ab
structure RunHead (c : CodD) (f : Nat) (i : Nat) (st : List UInt8) (deep : Nat) (em : List Bool) : Prop where
  hi : i ≤ (c.funs.getD f default).code.length
  hs : st.length ≤ i
  hd : deep ≤ 65536
  hr : runS c f i ((c.funs.getD f default).code.drop i) st deep = runS c f 0 (c.funs.getD f default).code [] 0
  hl : em.length = i
  he : em ++ empS c f i ((c.funs.getD f default).code.drop i) st = empS c f 0 (c.funs.getD f default).code []
end Go.Proofs.Ytoglbmhkfkghbaa
namespace Go.Proofs.Ytoglbmhkfkghbaa
open Go Go.Ab
theorem eOk0 {E : Senv} (h : E = { E0 con0 E.n E.V E.cross E.ord with ann := E.ann, inl := inlD (E0 con0 0 0 [] (fun _ => ([], []))) (frmGet frames) 5 }) : EnvOk E := by
  rw [h]
  exact ⟨tab_ok, con0_ok, mix, fun k ds S R h => inlD_ok (E := E0 con0 0 0 [] (fun _ => ([], []))) tab_ok con0_ok mix frames_ok eqs_ok 5 k ds S R h, eqs_ok⟩
def opB (inp : Int) (i : Nat) (o : I4) : Bool := primB o.a && between o.c 0 (inp + i - 1) && between o.b (-1) (inp + i - 1) && decide (0 ≤ o.d)
def kerB (k : KeD) : Bool := between k.inputs 1 16 && between k.ops.length 1 64 && decide (0 ≤ k.at_) && (decide (k.reduce = 0) || primB k.reduce) && (List.range k.ops.length).all fun i => opB k.inputs i (k.ops.getD i default)
def sKer : FnSpec where
  β := KeD
  α := Unit
  args := fun k => [.agg k.row]
  st := fun _ => ⟨[], []⟩
  pre := fun _ => True
  post := fun _ _ => True
  res := fun k _ => .ret (.bool (kerB k))
  out := fun _ _ => ⟨[], []⟩
theorem kerB_no {k : KeD} {i : Nat} (h : i < k.ops.length) (ho : opB k.inputs i (k.ops.getD i default) = false) : false = kerB k := by
  have : ((List.range k.ops.length).all fun i => opB k.inputs i (k.ops.getD i default)) = false := by
    rw [List.all_eq_false]
    exact ⟨i, List.mem_range.2 h, by simp only [ho]; simp⟩
  simp only [kerB, this, Bool.and_false]
theorem kerB_yes {k : KeD} (h1 : 1 ≤ k.inputs) (h2 : k.inputs ≤ 16) (h3 : 1 ≤ (k.ops.length : Int)) (h4 : (k.ops.length : Int) ≤ 64) (h5 : ¬ k.at_ < 0) (h6 : k.reduce = 0 ∨ (1 ≤ k.reduce ∧ k.reduce ≤ 55)) (ho : ∀ j, j < k.ops.length → opB k.inputs j (k.ops.getD j default) = true) : true = kerB k := by
  have : ((List.range k.ops.length).all fun i => opB k.inputs i (k.ops.getD i default)) = true := by
    rw [List.all_eq_true]
    exact fun i hi => ho i (List.mem_range.1 hi)
  symm
  simp only [kerB, this, between, primB, Bool.and_true, Bool.and_eq_true, Bool.or_eq_true, decide_eq_true_eq]
  refine ⟨⟨⟨⟨h1, h2⟩, h3, h4⟩, by omega⟩, h6⟩
def kerAnn (k : KeD) (d : D) : Option LoopAnn :=
  match d with
  | .ref t x _ => some { slots := [36], keep := [1, 34, 35], α := Nat, st := fun i => ([.int .i64 i], ⟨[(t, x, .cells k.row)], []⟩), inv := fun i => i ≤ k.ops.length ∧ ∀ j, j < i → opB k.inputs j (k.ops.getD j default) = true, mu := fun i => k.ops.length - i }
  | _ => none
noncomputable def Eker (k : KeD) : Senv := { E0 con0 70 6 [32, 34, 35, 36, 37, 68] (fun _ => ([], [])) with
  inl := inlD (E0 con0 0 0 [] (fun _ => ([], []))) (frmGet frames) 5
  ann := fun b env _ => match b with
    | 0 => kerAnn k (Ab.look env 1)
    | _ => none }
noncomputable section
def ke1q0 (p0 : KeD) : Int := KeD.inputs p0
def ke1q1 (p0 : KeD) : Prop := True ∧ ∃ (_y : Unit), True ∧ false = kerB p0 ∧ True ∧ True
def ke1q2 (p0 : KeD) : Nat := LN (KeD.ops p0)
def ke1q3 (p0 : KeD) : Int := (NI (ke1q2 p0))
def ke1q4 (p0 : KeD) : Int := KeD.reduce p0
def ke1q5 (p0 : KeD) (p1 : Nat) : I4 := G4 (KeD.ops p0) p1
def ke1q6 (p0 : Nat) (p1 : KeD) : Prop := p0 ≤ ke1q2 p1 ∧ ∀ (j : Nat), j < p0 → opB (ke1q0 p1) j (ke1q5 p1 j) = true
def ke1q7 (p0 : KeD) (p1 : Nat) : List D := (R4 (ke1q5 p0 p1))
def ke1q8 (p0 : Nat) (p1 : KeD) : Prop := (SM p0 ∧ (SM (ke1q0 p1) ∧ (SM (ke1q2 p1) ∧ (∀ (i : Nat), i < ke1q2 p1 → SM (ke1q7 p1 i)) ∧ True) ∧ SM (ke1q4 p1) ∧ SM (KeD.at_ p1) ∧ True) ∧ True) ∧ True
def ke1q9 (p0 : KeD) (p1 : Nat) : I4 := G4 (KeD.ops p0) (Int.toNat (↑p1 : Int))
def ke1q10 (p0 : KeD) (p1 : Nat) : Int := I4.a (ke1q9 p0 p1)
def ke1q11 (p0 : KeD) (p1 : Nat) : Int := I4.c (ke1q9 p0 p1)
def ke1q12 (p0 : KeD) (p1 : Nat) : Int := IntKind.wrap IntKind.i64 (IntKind.wrap IntKind.i64 (ke1q0 p0 + (↑p1 : Int)) - Z1)
def ke1q13 (p0 : KeD) (p1 : Nat) : Int := I4.b (ke1q9 p0 p1)
def ke1q14 (p0 : KeD) : D := D.sl N4 (ke1q2 p0) (fun (i : Nat) => ke1q7 p0 i) Mode.any
def ke1q15 (p0 : KeD) : Prop := True ∧ ke1q1 p0
def ke1q16 (p0 : KeD) : Prop := True ∧ ke1q15 p0
def ke1q17 (p0 : Nat) (p1 : KeD) : Prop := SM p0 ∧ (∃ (x : Nat), ke1q6 x p1 ∧ (Z0 = (↑x : Int) ∧ True) ∧ ke1q8 p0 p1) ∧ ∀ (x : Nat), ke1q6 x p1 → ifB (decide ((↑x : Int) < ke1q3 p1)) (side (Z0 ≤ (↑x : Int) ∧ (↑x : Int) < ke1q3 p1) (∀ (x_1 : Nat), p0 ≠ x_1 ∧ True → SM x_1 ∧ SM p0 ∧ SM x_1 ∧ ifB (decide (Z1 ≤ ke1q10 p1 x)) (True ∧ True ∧ ifB (!decide (ke1q10 p1 x ≤ (55 : Int))) (ke1q1 p1) (SM x_1 ∧ ifB (decide (Z0 ≤ ke1q11 p1 x)) (True ∧ ifB (!decide (ke1q11 p1 x ≤ ke1q12 p1 x)) (ke1q1 p1) (SM x_1 ∧ ifB (decide ((-1 : Int) ≤ ke1q13 p1 x)) (True ∧ ifB (!decide (ke1q13 p1 x ≤ ke1q12 p1 x)) (ke1q1 p1) (SM x_1 ∧ ifB (decide (I4.d (ke1q9 p1 x) < Z0)) (ke1q1 p1) ((SM (D.ref N0 p0 N0) ∧ SM (ke1q14 p1) ∧ SM (ZI (ke1q3 p1)) ∧ True) ∧ ∃ (y : Nat), ke1q6 y p1 ∧ ke1q2 p1 - y < ke1q2 p1 - x ∧ (IntKind.wrap IntKind.i64 ((↑x : Int) + Z1) = (↑y : Int) ∧ True) ∧ ke1q8 p0 p1))) (ke1q15 p1))) (ke1q15 p1))) (ke1q16 p1))) (True ∧ ∃ (_y : Unit), True ∧ true = kerB p1 ∧ True ∧ True)
end
theorem ker_ok (k : KeD) (_h : k.ok) : ACalls Try.prog 38 (sKer.args k) (sKer.st k) (SpecR sKer k) := by
  refine con_of (A := sKer) (x := k) (E := Eker k) (eOk0 rfl) Try.func38 rfl (by kernel_rfl) rfl (by simp [sKer, Eker, E0]) ?_
  refine vc_eq (T :=
    ∀ (x : Nat), True → SM x ∧ ifB (decide (Z1 ≤ ke1q0 k)) (True ∧ ifB (!decide (ke1q0 k ≤ (16 : Int))) (ke1q1 k) (SM x ∧ ifB (decide (Z1 ≤ ke1q3 k)) (True ∧ ifB (!decide (ke1q3 k ≤ (64 : Int))) (ke1q1 k) (SM x ∧ ifB (decide (KeD.at_ k < Z0)) (ke1q1 k) (SM x ∧ ifB (ke1q4 k != Z0) (SM x ∧ ifB (decide (Z1 ≤ ke1q4 k)) (True ∧ True ∧ ifB (!decide (ke1q4 k ≤ (55 : Int))) (ke1q1 k) (ke1q17 x k)) (ke1q16 k)) (ke1q17 x k)))) (ke1q15 k))) (ke1q15 k)) (by kernel_rfl) ?_
  delta D4 G4 LN N0 N4 NI R4 SM Z0 Z1 ZI ke1q0 ke1q1 ke1q10 ke1q11 ke1q12 ke1q13 ke1q14 ke1q15 ke1q16 ke1q17 ke1q2 ke1q3 ke1q4 ke1q5 ke1q6 ke1q7 ke1q8 ke1q9
  intro x _
  simp only [ifB_iff, side_iff, decide_eq_true_eq, decide_eq_false_iff_not, true_and, and_true, Bool.not_eq_true', Bool.not_eq_false', Int.toNat_natCast, exists_const, bne_iff_ne, ne_eq, bne_eq_false_iff_eq]
  refine ⟨fun h1 => ⟨fun n => by simp [kerB, between, n], fun h2 => ⟨fun h3 => ⟨fun n => by simp [kerB, between]; omega, fun h4 => ⟨fun n => by simp [kerB]; omega, fun h5 => ⟨fun r0 => ⟨fun r1 => ⟨fun n => by simp [kerB, primB, between]; omega, fun r2 => ?_⟩, fun n => by simp [kerB, primB, between]; omega⟩, fun r0 => ?_⟩⟩⟩, fun n => by simp [kerB, between]; omega⟩⟩, fun n => by simp [kerB, between, n]⟩
  · have H6 : k.reduce = 0 ∨ (1 ≤ k.reduce ∧ k.reduce ≤ 55) := .inr ⟨r1, r2⟩
    refine ⟨⟨0, ⟨Nat.zero_le _, fun j hj => absurd hj (Nat.not_lt_zero j)⟩, rfl, fun _ _ => trivial⟩, fun i hi => ⟨fun hlt => ⟨⟨by omega, hlt⟩, fun y _ => ?_⟩, fun hge => ?_⟩⟩
    · have hl : i < k.ops.length := by omega
      have hw : IntKind.i64.wrap (IntKind.i64.wrap (k.inputs + (i : Int)) - 1) = k.inputs + i - 1 := by
        rw [wrap_i64' (n := k.inputs + i) (by omega) (by omega), wrap_i64' (by omega) (by omega)]
      rw [hw]
      have no : ∀ {b : Bool}, opB k.inputs i (k.ops.getD i default) = b → b = false → false = kerB k := fun h1 h2 => kerB_no hl (h1.trans h2)
      have de : (default : I4) = ⟨0, 0, 0, 0⟩ := rfl
      rw [← de] at *
      generalize hk : k.ops.getD i default = o at *
      refine ⟨fun a1 => ⟨fun a2 => no rfl (by simp [opB, primB, between]; omega), fun a2 => ⟨fun c1 => ⟨fun c2 => no rfl (by simp [opB, primB, between]; omega), fun c2 => ⟨fun b1 => ⟨fun b2 => no rfl (by simp [opB, primB, between]; omega), fun b2 => ⟨fun d1 => no rfl (by simp [opB, primB, between]; omega), fun d1 => ⟨i + 1, ⟨by omega, fun j hj => ?_⟩, by omega, wrap_i64' (by omega) (by omega), fun _ _ => trivial⟩⟩⟩, fun b1 => no rfl (by simp [opB, primB, between]; omega)⟩⟩, fun c1 => no rfl (by simp [opB, primB, between]; omega)⟩⟩, fun a1 => no rfl (by simp [opB, primB, between]; omega)⟩
      by_cases e : j = i
      · subst e; rw [hk]; simp only [opB, primB, between, Bool.and_eq_true, decide_eq_true_eq]; omega
      · exact hi.2 j (by omega)
    · exact kerB_yes h1 h2 h3 h4 h5 H6 fun j hj => hi.2 j (by omega)
  · have H6 : k.reduce = 0 ∨ (1 ≤ k.reduce ∧ k.reduce ≤ 55) := .inl r0
    refine ⟨⟨0, ⟨Nat.zero_le _, fun j hj => absurd hj (Nat.not_lt_zero j)⟩, rfl, fun _ _ => trivial⟩, fun i hi => ⟨fun hlt => ⟨⟨by omega, hlt⟩, fun y _ => ?_⟩, fun hge => ?_⟩⟩
    · have hl : i < k.ops.length := by omega
      have hw : IntKind.i64.wrap (IntKind.i64.wrap (k.inputs + (i : Int)) - 1) = k.inputs + i - 1 := by
        rw [wrap_i64' (n := k.inputs + i) (by omega) (by omega), wrap_i64' (by omega) (by omega)]
      rw [hw]
      have no : ∀ {b : Bool}, opB k.inputs i (k.ops.getD i default) = b → b = false → false = kerB k := fun h1 h2 => kerB_no hl (h1.trans h2)
      have de : (default : I4) = ⟨0, 0, 0, 0⟩ := rfl
      rw [← de] at *
      generalize hk : k.ops.getD i default = o at *
      refine ⟨fun a1 => ⟨fun a2 => no rfl (by simp [opB, primB, between]; omega), fun a2 => ⟨fun c1 => ⟨fun c2 => no rfl (by simp [opB, primB, between]; omega), fun c2 => ⟨fun b1 => ⟨fun b2 => no rfl (by simp [opB, primB, between]; omega), fun b2 => ⟨fun d1 => no rfl (by simp [opB, primB, between]; omega), fun d1 => ⟨i + 1, ⟨by omega, fun j hj => ?_⟩, by omega, wrap_i64' (by omega) (by omega), fun _ _ => trivial⟩⟩⟩, fun b1 => no rfl (by simp [opB, primB, between]; omega)⟩⟩, fun c1 => no rfl (by simp [opB, primB, between]; omega)⟩⟩, fun a1 => no rfl (by simp [opB, primB, between]; omega)⟩
      by_cases e : j = i
      · subst e; rw [hk]; simp only [opB, primB, between, Bool.and_eq_true, decide_eq_true_eq]; omega
      · exact hi.2 j (by omega)
    · exact kerB_yes h1 h2 h3 h4 h5 H6 fun j hj => hi.2 j (by omega)
end Go.Proofs.Ytoglbmhkfkghbaa
