/-
  NARROWER THAN 'FOR EVERY INPUT', by the rows' own cells (each row's printed sentence says how): ResolvePrograms: loops · ResolveUnits: loops · ResolveFree: loops · ResolveClosed: loops · ResolveAgain: loops.
  DERIVED. THE GIVEN ROWS OF THIS SEAT. 5 by the template 'for every input the law returns true; each argument reads behind the call as it read before'; 0 by the template 'total and deterministic' (their statements: YtfbfnhbafjmnaaaGreatTotals.lean).
  GIVEN WITH THE SEED: the statements are not yours to turn. If you find one false, say at which input.
  Laid BY PROGRAM, IN A SANDBOX (cutbox-rows.mjs): the forced cells as the released guide's own fill.sh prints them over the translation 70308a4cc499a625… (all of the seat's roots in one cut). By AI agents, Wed Nov 11 2026. No macro, syntax, notation, axiom, sorry.
-/
import Derived.Test.YtfbfnhbafjmnaaaGreatChecked
import GoSem.Claim
import GoSem.ClaimJoined
import GoSem.ClaimMapViews
import Derived.JoinedTies
import Derived.KernelRfl
namespace Go.Proofs.YtfbfnhbafjmnaaaGreat
/- THE CELL 'sum', in the pinned program and in every row, IS THE sha256 OF THE DUMP (.gsa) THAT YtfbfnhbafjmnaaaGreatProg.lean LOADS. Nothing in Lean hashes anything: it is a label: what it is worth is what the hold of that sum in a sandbox is worth. -/
noncomputable def Tryz.pinned : Pinned := { name := "ytfbfnhbafjmnaaagreat", sum := "70308a4cc499a625766a88991b848c566a9401ffe7b4503a7038852cf9f9917a", checked := Tryz.checked }
namespace Rows
def none {H : Type} : Left H := { results := [], args := [] }

/-- 'arraylanglaw14.ResolvePrograms': WHATEVER THE INPUT: true; the input reads as it did. -/
def resolveProgramsSpec : ChangeSpec := { name := "resolvePrograms", fn := fun _ => fun
  | [d] => { results := [.lit (.bool true)], args := [d] }
  | _ => none }
def resolveProgramsRow : OpenClaim := { program := "ytfbfnhbafjmnaaagreat", sum := "70308a4cc499a625766a88991b848c566a9401ffe7b4503a7038852cf9f9917a", func := "arraylang/arraylanglaw14.ResolvePrograms", spec := "resolvePrograms", unfollowed := true, recurses := true, loops := true, apart := false }
def ResolveProgramsSaid : Prop := resolveProgramsRow.holds Tryz.pinned (OpenSpec.ofChange resolveProgramsSpec)

/-- ITS FALSE NEIGHBOUR: 'it returns false'. Refute it at one input. -/
def resolveProgramsWrong : ChangeSpec := { name := "resolvePrograms", fn := fun _ => fun
  | [d] => { results := [.lit (.bool false)], args := [d] }
  | _ => none }
def ResolveProgramsWrongFalsely : Prop := resolveProgramsRow.holds Tryz.pinned (OpenSpec.ofChange resolveProgramsWrong)

/-- 'arraylanglaw14.ResolveUnits': WHATEVER THE INPUT: true; the input reads as it did. -/
def resolveUnitsSpec : ChangeSpec := { name := "resolveUnits", fn := fun _ => fun
  | [d1, d2] => { results := [.lit (.bool true)], args := [d1, d2] }
  | _ => none }
def resolveUnitsRow : OpenClaim := { program := "ytfbfnhbafjmnaaagreat", sum := "70308a4cc499a625766a88991b848c566a9401ffe7b4503a7038852cf9f9917a", func := "arraylang/arraylanglaw14.ResolveUnits", spec := "resolveUnits", unfollowed := true, recurses := true, loops := true, apart := false }
def ResolveUnitsSaid : Prop := resolveUnitsRow.holds Tryz.pinned (OpenSpec.ofChange resolveUnitsSpec)

/-- ITS FALSE NEIGHBOUR: 'it returns false'. Refute it at one input. -/
def resolveUnitsWrong : ChangeSpec := { name := "resolveUnits", fn := fun _ => fun
  | [d1, d2] => { results := [.lit (.bool false)], args := [d1, d2] }
  | _ => none }
def ResolveUnitsWrongFalsely : Prop := resolveUnitsRow.holds Tryz.pinned (OpenSpec.ofChange resolveUnitsWrong)

/-- 'arraylanglaw14.ResolveFree': WHATEVER THE INPUT: true; the input reads as it did. -/
def resolveFreeSpec : ChangeSpec := { name := "resolveFree", fn := fun _ => fun
  | [d] => { results := [.lit (.bool true)], args := [d] }
  | _ => none }
def resolveFreeRow : OpenClaim := { program := "ytfbfnhbafjmnaaagreat", sum := "70308a4cc499a625766a88991b848c566a9401ffe7b4503a7038852cf9f9917a", func := "arraylang/arraylanglaw14.ResolveFree", spec := "resolveFree", unfollowed := true, recurses := true, loops := true, apart := false }
def ResolveFreeSaid : Prop := resolveFreeRow.holds Tryz.pinned (OpenSpec.ofChange resolveFreeSpec)

/-- ITS FALSE NEIGHBOUR: 'it returns false'. Refute it at one input. -/
def resolveFreeWrong : ChangeSpec := { name := "resolveFree", fn := fun _ => fun
  | [d] => { results := [.lit (.bool false)], args := [d] }
  | _ => none }
def ResolveFreeWrongFalsely : Prop := resolveFreeRow.holds Tryz.pinned (OpenSpec.ofChange resolveFreeWrong)

/-- 'arraylanglaw14.ResolveClosed': WHATEVER THE INPUT: true; the input reads as it did. -/
def resolveClosedSpec : ChangeSpec := { name := "resolveClosed", fn := fun _ => fun
  | [d] => { results := [.lit (.bool true)], args := [d] }
  | _ => none }
def resolveClosedRow : OpenClaim := { program := "ytfbfnhbafjmnaaagreat", sum := "70308a4cc499a625766a88991b848c566a9401ffe7b4503a7038852cf9f9917a", func := "arraylang/arraylanglaw14.ResolveClosed", spec := "resolveClosed", unfollowed := true, recurses := true, loops := true, apart := false }
def ResolveClosedSaid : Prop := resolveClosedRow.holds Tryz.pinned (OpenSpec.ofChange resolveClosedSpec)

/-- ITS FALSE NEIGHBOUR: 'it returns false'. Refute it at one input. -/
def resolveClosedWrong : ChangeSpec := { name := "resolveClosed", fn := fun _ => fun
  | [d] => { results := [.lit (.bool false)], args := [d] }
  | _ => none }
def ResolveClosedWrongFalsely : Prop := resolveClosedRow.holds Tryz.pinned (OpenSpec.ofChange resolveClosedWrong)

/-- 'arraylanglaw14.ResolveAgain': WHATEVER THE INPUT: true; the input reads as it did. -/
def resolveAgainSpec : ChangeSpec := { name := "resolveAgain", fn := fun _ => fun
  | [d] => { results := [.lit (.bool true)], args := [d] }
  | _ => none }
def resolveAgainRow : OpenClaim := { program := "ytfbfnhbafjmnaaagreat", sum := "70308a4cc499a625766a88991b848c566a9401ffe7b4503a7038852cf9f9917a", func := "arraylang/arraylanglaw14.ResolveAgain", spec := "resolveAgain", unfollowed := true, recurses := true, loops := true, apart := false }
def ResolveAgainSaid : Prop := resolveAgainRow.holds Tryz.pinned (OpenSpec.ofChange resolveAgainSpec)

/-- ITS FALSE NEIGHBOUR: 'it returns false'. Refute it at one input. -/
def resolveAgainWrong : ChangeSpec := { name := "resolveAgain", fn := fun _ => fun
  | [d] => { results := [.lit (.bool false)], args := [d] }
  | _ => none }
def ResolveAgainWrongFalsely : Prop := resolveAgainRow.holds Tryz.pinned (OpenSpec.ofChange resolveAgainWrong)

/- THE SECOND FORM. 'bulk': how many values and letters a reading holds, each counted each time it is reached (what is shared counts as often as it is met; a slice's spare places count too). A statement '..UptoSaid' is the law's where the arguments, and the package variables that the reading takes, are together of bulk at most 1048576: NARROWER than '..Said'. Prove '..Said' where nothing that the law and all that it calls make is longer than what came in: it says more and counts as full. Else prove '..UptoSaid'. A law counts once. -/
mutual
def uptoBulk {H : Type} : DataW H → Nat
  | .lit (.string bytes) => bytes.length + 1
  | .lit _ => 1
  | .nil => 1
  | .ptr d => uptoBulk d + 1
  | .slice elems spare => uptoBulkAll elems + uptoBulkAll spare + 1
  | .agg parts => uptoBulkAll parts + 1
  | .iface _ d => uptoBulk d + 1
  | .map entries => uptoBulkEntries entries + 1
  | .held _ => 1
def uptoBulkAll {H : Type} : List (DataW H) → Nat
  | [] => 0
  | d :: r => uptoBulk d + uptoBulkAll r
def uptoBulkEntries {H : Type} : List (Lit × DataW H) → Nat
  | [] => 0
  | x :: r => uptoBulkEntry x + uptoBulkEntries r
def uptoBulkEntry {H : Type} : Lit × DataW H → Nat
  | (.string bytes, d) => bytes.length + uptoBulk d + 1
  | (_, d) => uptoBulk d + 1
 end
def uptoSmall : (H : Type) → List (DataW H) → Bool := fun _ ds => decide (uptoBulkAll ds ≤ 1048576)
def OpenSpec.upto (s : _root_.Go.ChangeSpec) : _root_.Go.OpenSpec := { _root_.Go.OpenSpec.ofChange s with cond := some uptoSmall }

/-- 'arraylanglaw14.ResolvePrograms', WHERE WHAT IT READS IS OF BULK AT MOST 1048576: true; the input reads as it did. -/
def resolveProgramsUptoRow : OpenClaim := { program := "ytfbfnhbafjmnaaagreat", sum := "70308a4cc499a625766a88991b848c566a9401ffe7b4503a7038852cf9f9917a", func := "arraylang/arraylanglaw14.ResolvePrograms", spec := "resolvePrograms", unfollowed := true, recurses := true, loops := true, apart := false, narrowed := true }
def ResolveProgramsUptoSaid : Prop := resolveProgramsUptoRow.holds Tryz.pinned (OpenSpec.upto resolveProgramsSpec)

/-- 'arraylanglaw14.ResolveUnits', WHERE WHAT IT READS IS OF BULK AT MOST 1048576: true; the input reads as it did. -/
def resolveUnitsUptoRow : OpenClaim := { program := "ytfbfnhbafjmnaaagreat", sum := "70308a4cc499a625766a88991b848c566a9401ffe7b4503a7038852cf9f9917a", func := "arraylang/arraylanglaw14.ResolveUnits", spec := "resolveUnits", unfollowed := true, recurses := true, loops := true, apart := false, narrowed := true }
def ResolveUnitsUptoSaid : Prop := resolveUnitsUptoRow.holds Tryz.pinned (OpenSpec.upto resolveUnitsSpec)

/-- 'arraylanglaw14.ResolveFree', WHERE WHAT IT READS IS OF BULK AT MOST 1048576: true; the input reads as it did. -/
def resolveFreeUptoRow : OpenClaim := { program := "ytfbfnhbafjmnaaagreat", sum := "70308a4cc499a625766a88991b848c566a9401ffe7b4503a7038852cf9f9917a", func := "arraylang/arraylanglaw14.ResolveFree", spec := "resolveFree", unfollowed := true, recurses := true, loops := true, apart := false, narrowed := true }
def ResolveFreeUptoSaid : Prop := resolveFreeUptoRow.holds Tryz.pinned (OpenSpec.upto resolveFreeSpec)

/-- 'arraylanglaw14.ResolveClosed', WHERE WHAT IT READS IS OF BULK AT MOST 1048576: true; the input reads as it did. -/
def resolveClosedUptoRow : OpenClaim := { program := "ytfbfnhbafjmnaaagreat", sum := "70308a4cc499a625766a88991b848c566a9401ffe7b4503a7038852cf9f9917a", func := "arraylang/arraylanglaw14.ResolveClosed", spec := "resolveClosed", unfollowed := true, recurses := true, loops := true, apart := false, narrowed := true }
def ResolveClosedUptoSaid : Prop := resolveClosedUptoRow.holds Tryz.pinned (OpenSpec.upto resolveClosedSpec)

/-- 'arraylanglaw14.ResolveAgain', WHERE WHAT IT READS IS OF BULK AT MOST 1048576: true; the input reads as it did. -/
def resolveAgainUptoRow : OpenClaim := { program := "ytfbfnhbafjmnaaagreat", sum := "70308a4cc499a625766a88991b848c566a9401ffe7b4503a7038852cf9f9917a", func := "arraylang/arraylanglaw14.ResolveAgain", spec := "resolveAgain", unfollowed := true, recurses := true, loops := true, apart := false, narrowed := true }
def ResolveAgainUptoSaid : Prop := resolveAgainUptoRow.holds Tryz.pinned (OpenSpec.upto resolveAgainSpec)

end Rows
end Go.Proofs.YtfbfnhbafjmnaaaGreat
