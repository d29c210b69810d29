/-
  NARROWER THAN 'FOR EVERY INPUT', by the rows' own cells (each row's printed sentence says how): ImagePuts: loops · ImageBack: loops · ImageChanged: loops.
  DERIVED. THE GIVEN ROWS OF THIS SEAT. 6 by the template 'for every input the law returns true; each argument reads behind the call as it read before'; 0 by the template 'total and deterministic' (their statements: YtoglbmhkfkghbaaTotals.lean).
  GIVEN WITH THE SEED: the statements are not yours to turn. If you find one false, say at which input.
  Laid BY PROGRAM, IN A SANDBOX (cutbox-rows.mjs): the forced cells as the released guide's own fill.sh prints them over the translation 0e5997e6d8ef6ad9… (all of the seat's roots in one cut). By AI agents, Wed Nov 11 2026. No macro, syntax, notation, axiom, sorry.
-/
import Derived.Test.YtoglbmhkfkghbaaChecked
import GoSem.Claim
import GoSem.ClaimJoined
import GoSem.ClaimMapViews
import Derived.JoinedTies
import Derived.KernelRfl
namespace Go.Proofs.Ytoglbmhkfkghbaa
/- THE CELL 'sum', in the pinned program and in every row, IS THE sha256 OF THE DUMP (.gsa) THAT YtoglbmhkfkghbaaProg.lean LOADS. Nothing in Lean hashes anything: it is a label: what it is worth is what the hold of that sum in a sandbox is worth. -/
noncomputable def Try.pinned : Pinned := { name := "ytoglbmhkfkghbaa", sum := "0e5997e6d8ef6ad93688f1adc6a96d51231ceba56cd2caa03283a9bb02a382f5", checked := Try.checked }
namespace Rows
def none {H : Type} : Left H := { results := [], args := [] }

/-- 'arraylanglaw53.ImageSums': WHATEVER THE INPUT: true; the input reads as it did. -/
def imageSumsSpec : ChangeSpec := { name := "imageSums", fn := fun _ => fun
  | [d] => { results := [.lit (.bool true)], args := [d] }
  | _ => none }
def imageSumsRow : OpenClaim := { program := "ytoglbmhkfkghbaa", sum := "0e5997e6d8ef6ad93688f1adc6a96d51231ceba56cd2caa03283a9bb02a382f5", func := "arraylang/arraylanglaw53.ImageSums", spec := "imageSums", inPlace := ["internal/abi.NoEscape", "internal/bytealg.MakeNoZero"], unfollowed := true, recurses := true, apart := false }
def ImageSumsSaid : Prop := imageSumsRow.holds Try.pinned (OpenSpec.ofChange imageSumsSpec)

/-- ITS FALSE NEIGHBOUR: 'it returns false'. Refute it at one input. -/
def imageSumsWrong : ChangeSpec := { name := "imageSums", fn := fun _ => fun
  | [d] => { results := [.lit (.bool false)], args := [d] }
  | _ => none }
def ImageSumsWrongFalsely : Prop := imageSumsRow.holds Try.pinned (OpenSpec.ofChange imageSumsWrong)

/-- 'arraylanglaw53.ImagePuts': WHATEVER THE INPUT: true; the input reads as it did. -/
def imagePutsSpec : ChangeSpec := { name := "imagePuts", fn := fun _ => fun
  | [d] => { results := [.lit (.bool true)], args := [d] }
  | _ => none }
def imagePutsRow : OpenClaim := { program := "ytoglbmhkfkghbaa", sum := "0e5997e6d8ef6ad93688f1adc6a96d51231ceba56cd2caa03283a9bb02a382f5", func := "arraylang/arraylanglaw53.ImagePuts", spec := "imagePuts", inPlace := ["internal/abi.NoEscape", "internal/bytealg.MakeNoZero"], unfollowed := true, recurses := true, loops := true, apart := false }
def ImagePutsSaid : Prop := imagePutsRow.holds Try.pinned (OpenSpec.ofChange imagePutsSpec)

/-- ITS FALSE NEIGHBOUR: 'it returns false'. Refute it at one input. -/
def imagePutsWrong : ChangeSpec := { name := "imagePuts", fn := fun _ => fun
  | [d] => { results := [.lit (.bool false)], args := [d] }
  | _ => none }
def ImagePutsWrongFalsely : Prop := imagePutsRow.holds Try.pinned (OpenSpec.ofChange imagePutsWrong)

/-- 'arraylanglaw53.ImageTakes': WHATEVER THE INPUT: true; the input reads as it did. -/
def imageTakesSpec : ChangeSpec := { name := "imageTakes", fn := fun _ => fun
  | [d] => { results := [.lit (.bool true)], args := [d] }
  | _ => none }
def imageTakesRow : OpenClaim := { program := "ytoglbmhkfkghbaa", sum := "0e5997e6d8ef6ad93688f1adc6a96d51231ceba56cd2caa03283a9bb02a382f5", func := "arraylang/arraylanglaw53.ImageTakes", spec := "imageTakes", inPlace := ["internal/abi.NoEscape", "internal/bytealg.MakeNoZero"], unfollowed := true, recurses := true, apart := false }
def ImageTakesSaid : Prop := imageTakesRow.holds Try.pinned (OpenSpec.ofChange imageTakesSpec)

/-- ITS FALSE NEIGHBOUR: 'it returns false'. Refute it at one input. -/
def imageTakesWrong : ChangeSpec := { name := "imageTakes", fn := fun _ => fun
  | [d] => { results := [.lit (.bool false)], args := [d] }
  | _ => none }
def ImageTakesWrongFalsely : Prop := imageTakesRow.holds Try.pinned (OpenSpec.ofChange imageTakesWrong)

/-- 'arraylanglaw53.ImageBodies': WHATEVER THE INPUT: true; the input reads as it did. -/
def imageBodiesSpec : ChangeSpec := { name := "imageBodies", fn := fun _ => fun
  | [d] => { results := [.lit (.bool true)], args := [d] }
  | _ => none }
def imageBodiesRow : OpenClaim := { program := "ytoglbmhkfkghbaa", sum := "0e5997e6d8ef6ad93688f1adc6a96d51231ceba56cd2caa03283a9bb02a382f5", func := "arraylang/arraylanglaw53.ImageBodies", spec := "imageBodies", inPlace := ["internal/abi.NoEscape", "internal/bytealg.MakeNoZero"], unfollowed := true, recurses := true, apart := false }
def ImageBodiesSaid : Prop := imageBodiesRow.holds Try.pinned (OpenSpec.ofChange imageBodiesSpec)

/-- ITS FALSE NEIGHBOUR: 'it returns false'. Refute it at one input. -/
def imageBodiesWrong : ChangeSpec := { name := "imageBodies", fn := fun _ => fun
  | [d] => { results := [.lit (.bool false)], args := [d] }
  | _ => none }
def ImageBodiesWrongFalsely : Prop := imageBodiesRow.holds Try.pinned (OpenSpec.ofChange imageBodiesWrong)

/-- 'arraylanglaw53.ImageBack': WHATEVER THE INPUT: true; the input reads as it did. -/
def imageBackSpec : ChangeSpec := { name := "imageBack", fn := fun _ => fun
  | [d] => { results := [.lit (.bool true)], args := [d] }
  | _ => none }
def imageBackRow : OpenClaim := { program := "ytoglbmhkfkghbaa", sum := "0e5997e6d8ef6ad93688f1adc6a96d51231ceba56cd2caa03283a9bb02a382f5", func := "arraylang/arraylanglaw53.ImageBack", spec := "imageBack", inPlace := ["internal/abi.NoEscape", "internal/bytealg.MakeNoZero"], unfollowed := true, recurses := true, loops := true, apart := false }
def ImageBackSaid : Prop := imageBackRow.holds Try.pinned (OpenSpec.ofChange imageBackSpec)

/-- ITS FALSE NEIGHBOUR: 'it returns false'. Refute it at one input. -/
def imageBackWrong : ChangeSpec := { name := "imageBack", fn := fun _ => fun
  | [d] => { results := [.lit (.bool false)], args := [d] }
  | _ => none }
def ImageBackWrongFalsely : Prop := imageBackRow.holds Try.pinned (OpenSpec.ofChange imageBackWrong)

/-- 'arraylanglaw53.ImageChanged': WHATEVER THE INPUT: true; the input reads as it did. -/
def imageChangedSpec : ChangeSpec := { name := "imageChanged", fn := fun _ => fun
  | [d1, d2, d3] => { results := [.lit (.bool true)], args := [d1, d2, d3] }
  | _ => none }
def imageChangedRow : OpenClaim := { program := "ytoglbmhkfkghbaa", sum := "0e5997e6d8ef6ad93688f1adc6a96d51231ceba56cd2caa03283a9bb02a382f5", func := "arraylang/arraylanglaw53.ImageChanged", spec := "imageChanged", inPlace := ["internal/abi.NoEscape", "internal/bytealg.MakeNoZero"], unfollowed := true, recurses := true, loops := true, apart := false }
def ImageChangedSaid : Prop := imageChangedRow.holds Try.pinned (OpenSpec.ofChange imageChangedSpec)

/-- ITS FALSE NEIGHBOUR: 'it returns false'. Refute it at one input. -/
def imageChangedWrong : ChangeSpec := { name := "imageChanged", fn := fun _ => fun
  | [d1, d2, d3] => { results := [.lit (.bool false)], args := [d1, d2, d3] }
  | _ => none }
def ImageChangedWrongFalsely : Prop := imageChangedRow.holds Try.pinned (OpenSpec.ofChange imageChangedWrong)

/- THE SECOND FORM. 'bulk': how many values and letters a reading holds, each counted each time it is reached (what is shared counts as often as it is met; a slice's spare places count too). A statement '..UptoSaid' is the law's where the arguments, and the package variables that the reading takes, are together of bulk at most 1048576: NARROWER than '..Said'. Prove '..Said' where nothing that the law and all that it calls make is longer than what came in: it says more and counts as full. Else prove '..UptoSaid'. A law counts once. -/
mutual
def uptoBulk {H : Type} : DataW H → Nat
  | .lit (.string bytes) => bytes.length + 1
  | .lit _ => 1
  | .nil => 1
  | .ptr d => uptoBulk d + 1
  | .slice elems spare => uptoBulkAll elems + uptoBulkAll spare + 1
  | .agg parts => uptoBulkAll parts + 1
  | .iface _ d => uptoBulk d + 1
  | .map entries => uptoBulkEntries entries + 1
  | .held _ => 1
def uptoBulkAll {H : Type} : List (DataW H) → Nat
  | [] => 0
  | d :: r => uptoBulk d + uptoBulkAll r
def uptoBulkEntries {H : Type} : List (Lit × DataW H) → Nat
  | [] => 0
  | x :: r => uptoBulkEntry x + uptoBulkEntries r
def uptoBulkEntry {H : Type} : Lit × DataW H → Nat
  | (.string bytes, d) => bytes.length + uptoBulk d + 1
  | (_, d) => uptoBulk d + 1
 end
def uptoSmall : (H : Type) → List (DataW H) → Bool := fun _ ds => decide (uptoBulkAll ds ≤ 1048576)
def OpenSpec.upto (s : _root_.Go.ChangeSpec) : _root_.Go.OpenSpec := { _root_.Go.OpenSpec.ofChange s with cond := some uptoSmall }

/-- 'arraylanglaw53.ImageSums', WHERE WHAT IT READS IS OF BULK AT MOST 1048576: true; the input reads as it did. -/
def imageSumsUptoRow : OpenClaim := { program := "ytoglbmhkfkghbaa", sum := "0e5997e6d8ef6ad93688f1adc6a96d51231ceba56cd2caa03283a9bb02a382f5", func := "arraylang/arraylanglaw53.ImageSums", spec := "imageSums", inPlace := ["internal/abi.NoEscape", "internal/bytealg.MakeNoZero"], unfollowed := true, recurses := true, apart := false, narrowed := true }
def ImageSumsUptoSaid : Prop := imageSumsUptoRow.holds Try.pinned (OpenSpec.upto imageSumsSpec)

/-- 'arraylanglaw53.ImagePuts', WHERE WHAT IT READS IS OF BULK AT MOST 1048576: true; the input reads as it did. -/
def imagePutsUptoRow : OpenClaim := { program := "ytoglbmhkfkghbaa", sum := "0e5997e6d8ef6ad93688f1adc6a96d51231ceba56cd2caa03283a9bb02a382f5", func := "arraylang/arraylanglaw53.ImagePuts", spec := "imagePuts", inPlace := ["internal/abi.NoEscape", "internal/bytealg.MakeNoZero"], unfollowed := true, recurses := true, loops := true, apart := false, narrowed := true }
def ImagePutsUptoSaid : Prop := imagePutsUptoRow.holds Try.pinned (OpenSpec.upto imagePutsSpec)

/-- 'arraylanglaw53.ImageTakes', WHERE WHAT IT READS IS OF BULK AT MOST 1048576: true; the input reads as it did. -/
def imageTakesUptoRow : OpenClaim := { program := "ytoglbmhkfkghbaa", sum := "0e5997e6d8ef6ad93688f1adc6a96d51231ceba56cd2caa03283a9bb02a382f5", func := "arraylang/arraylanglaw53.ImageTakes", spec := "imageTakes", inPlace := ["internal/abi.NoEscape", "internal/bytealg.MakeNoZero"], unfollowed := true, recurses := true, apart := false, narrowed := true }
def ImageTakesUptoSaid : Prop := imageTakesUptoRow.holds Try.pinned (OpenSpec.upto imageTakesSpec)

/-- 'arraylanglaw53.ImageBodies', WHERE WHAT IT READS IS OF BULK AT MOST 1048576: true; the input reads as it did. -/
def imageBodiesUptoRow : OpenClaim := { program := "ytoglbmhkfkghbaa", sum := "0e5997e6d8ef6ad93688f1adc6a96d51231ceba56cd2caa03283a9bb02a382f5", func := "arraylang/arraylanglaw53.ImageBodies", spec := "imageBodies", inPlace := ["internal/abi.NoEscape", "internal/bytealg.MakeNoZero"], unfollowed := true, recurses := true, apart := false, narrowed := true }
def ImageBodiesUptoSaid : Prop := imageBodiesUptoRow.holds Try.pinned (OpenSpec.upto imageBodiesSpec)

/-- 'arraylanglaw53.ImageBack', WHERE WHAT IT READS IS OF BULK AT MOST 1048576: true; the input reads as it did. -/
def imageBackUptoRow : OpenClaim := { program := "ytoglbmhkfkghbaa", sum := "0e5997e6d8ef6ad93688f1adc6a96d51231ceba56cd2caa03283a9bb02a382f5", func := "arraylang/arraylanglaw53.ImageBack", spec := "imageBack", inPlace := ["internal/abi.NoEscape", "internal/bytealg.MakeNoZero"], unfollowed := true, recurses := true, loops := true, apart := false, narrowed := true }
def ImageBackUptoSaid : Prop := imageBackUptoRow.holds Try.pinned (OpenSpec.upto imageBackSpec)

/-- 'arraylanglaw53.ImageChanged', WHERE WHAT IT READS IS OF BULK AT MOST 1048576: true; the input reads as it did. -/
def imageChangedUptoRow : OpenClaim := { program := "ytoglbmhkfkghbaa", sum := "0e5997e6d8ef6ad93688f1adc6a96d51231ceba56cd2caa03283a9bb02a382f5", func := "arraylang/arraylanglaw53.ImageChanged", spec := "imageChanged", inPlace := ["internal/abi.NoEscape", "internal/bytealg.MakeNoZero"], unfollowed := true, recurses := true, loops := true, apart := false, narrowed := true }
def ImageChangedUptoSaid : Prop := imageChangedUptoRow.holds Try.pinned (OpenSpec.upto imageChangedSpec)

end Rows
end Go.Proofs.Ytoglbmhkfkghbaa
