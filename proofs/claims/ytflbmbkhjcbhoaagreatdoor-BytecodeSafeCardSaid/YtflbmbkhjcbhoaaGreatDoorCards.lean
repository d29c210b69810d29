/-
  DERIVED. GIVEN WITH THE SEED: THE CARDS: each row of YtflbmbkhjcbhoaaGreatDoorRows.lean that lists a variable, with what it lists TIED to the program's text (the seventh form; the later family's looks); each row that meets fmt, with fmt's text TOLD by the authors' own Lean function (tested against real Go, not proved from fmt's source: count such statements apart). THE CARD IS WHAT COUNTS. Prove the row's statement (the work); the ties are given (YtflbmbkhjcbhoaaGreatDoorTie.lean); close each card by the builder's one call (the guide's Derived/Test/ToyasCard.lean, 'card_holds'). Laid BY PROGRAM, IN A SANDBOX (cutbox-door.mjs). By AI agents, Wed Nov 11 2026. No macro, syntax, notation, axiom, sorry.
-/
import Derived.Test.YtflbmbkhjcbhoaaGreatDoorRows
import GoSem.ClaimSeven
namespace Go.Proofs.YtflbmbkhjcbhoaaGreatDoor
namespace Rows

/-- THE TIED CARD OF 'arraylanglaw44.BytecodeRight'. -/
def bytecodeRightCard : Claim7 := { stood := { row := bytecodeRightRow, standIns := [], harness := (true, "3a4c09a7161c4f11871eaf6e2c7989dead4dd6ce33b2d21c6d0481ba57f8526d"), looks := true }, kinds := [], alts := [], laidByText := true, laidKinds := [.data, .data, .data], laidTests := true, laidLooks := .later }
def BytecodeRightCardSaid : Prop := Claim7.holds Tryz.pinned (.plain (OpenSpec.ofChange bytecodeRightSpec)) bytecodeRightCard

/-- THE TIED CARD OF 'arraylanglaw44.BytecodeDepth'. -/
def bytecodeDepthCard : Claim7 := { stood := { row := bytecodeDepthRow, standIns := [], harness := (true, "3a4c09a7161c4f11871eaf6e2c7989dead4dd6ce33b2d21c6d0481ba57f8526d"), looks := true }, kinds := [], alts := [], laidByText := true, laidKinds := [.data, .data, .data], laidTests := true, laidLooks := .later }
def BytecodeDepthCardSaid : Prop := Claim7.holds Tryz.pinned (.plain (OpenSpec.ofChange bytecodeDepthSpec)) bytecodeDepthCard

/-- THE TIED CARD OF 'arraylanglaw44.BytecodeShow'. -/
def bytecodeShowCard : Claim7 := { stood := { row := bytecodeShowRow, standIns := [], harness := (true, "3a4c09a7161c4f11871eaf6e2c7989dead4dd6ce33b2d21c6d0481ba57f8526d"), looks := true }, kinds := [], alts := [], laidByText := true, laidKinds := [.data, .data, .data], laidTests := true, laidLooks := .later }
def BytecodeShowCardSaid : Prop := Claim7.holds Tryz.pinned (.plain (OpenSpec.ofChange bytecodeShowSpec)) bytecodeShowCard

/-- THE TIED CARD OF 'arraylanglaw44.BytecodeSame'. -/
def bytecodeSameCard : Claim7 := { stood := { row := bytecodeSameRow, standIns := [], harness := (true, "3a4c09a7161c4f11871eaf6e2c7989dead4dd6ce33b2d21c6d0481ba57f8526d"), looks := true }, kinds := [], alts := [], laidByText := true, laidKinds := [.data, .data, .data], laidTests := true, laidLooks := .later }
def BytecodeSameCardSaid : Prop := Claim7.holds Tryz.pinned (.plain (OpenSpec.ofChange bytecodeSameSpec)) bytecodeSameCard

/-- THE TIED CARD OF 'arraylanglaw44.BytecodeSafe'. -/
def bytecodeSafeCard : Claim7 := { stood := { row := bytecodeSafeRow, standIns := [], harness := (true, "3a4c09a7161c4f11871eaf6e2c7989dead4dd6ce33b2d21c6d0481ba57f8526d"), looks := true }, kinds := [], alts := [], laidByText := true, laidKinds := [.data, .data, .data], laidTests := true, laidLooks := .later }
def BytecodeSafeCardSaid : Prop := Claim7.holds Tryz.pinned (.plain (OpenSpec.ofChange bytecodeSafeSpec)) bytecodeSafeCard

/-- THE SECOND FORM's CARD OF 'arraylanglaw44.BytecodeRight'. -/
def bytecodeRightUptoCard : Claim7 := { stood := { row := bytecodeRightUptoRow, standIns := [], harness := (true, "3a4c09a7161c4f11871eaf6e2c7989dead4dd6ce33b2d21c6d0481ba57f8526d"), looks := true }, kinds := [], alts := [], laidByText := true, laidKinds := [.data, .data, .data], laidTests := true, laidLooks := .later }
def BytecodeRightUptoCardSaid : Prop := Claim7.holds Tryz.pinned (.plain (OpenSpec.upto bytecodeRightSpec)) bytecodeRightUptoCard

/-- THE SECOND FORM's CARD OF 'arraylanglaw44.BytecodeDepth'. -/
def bytecodeDepthUptoCard : Claim7 := { stood := { row := bytecodeDepthUptoRow, standIns := [], harness := (true, "3a4c09a7161c4f11871eaf6e2c7989dead4dd6ce33b2d21c6d0481ba57f8526d"), looks := true }, kinds := [], alts := [], laidByText := true, laidKinds := [.data, .data, .data], laidTests := true, laidLooks := .later }
def BytecodeDepthUptoCardSaid : Prop := Claim7.holds Tryz.pinned (.plain (OpenSpec.upto bytecodeDepthSpec)) bytecodeDepthUptoCard

/-- THE SECOND FORM's CARD OF 'arraylanglaw44.BytecodeShow'. -/
def bytecodeShowUptoCard : Claim7 := { stood := { row := bytecodeShowUptoRow, standIns := [], harness := (true, "3a4c09a7161c4f11871eaf6e2c7989dead4dd6ce33b2d21c6d0481ba57f8526d"), looks := true }, kinds := [], alts := [], laidByText := true, laidKinds := [.data, .data, .data], laidTests := true, laidLooks := .later }
def BytecodeShowUptoCardSaid : Prop := Claim7.holds Tryz.pinned (.plain (OpenSpec.upto bytecodeShowSpec)) bytecodeShowUptoCard

/-- THE SECOND FORM's CARD OF 'arraylanglaw44.BytecodeSame'. -/
def bytecodeSameUptoCard : Claim7 := { stood := { row := bytecodeSameUptoRow, standIns := [], harness := (true, "3a4c09a7161c4f11871eaf6e2c7989dead4dd6ce33b2d21c6d0481ba57f8526d"), looks := true }, kinds := [], alts := [], laidByText := true, laidKinds := [.data, .data, .data], laidTests := true, laidLooks := .later }
def BytecodeSameUptoCardSaid : Prop := Claim7.holds Tryz.pinned (.plain (OpenSpec.upto bytecodeSameSpec)) bytecodeSameUptoCard

/-- THE SECOND FORM's CARD OF 'arraylanglaw44.BytecodeSafe'. -/
def bytecodeSafeUptoCard : Claim7 := { stood := { row := bytecodeSafeUptoRow, standIns := [], harness := (true, "3a4c09a7161c4f11871eaf6e2c7989dead4dd6ce33b2d21c6d0481ba57f8526d"), looks := true }, kinds := [], alts := [], laidByText := true, laidKinds := [.data, .data, .data], laidTests := true, laidLooks := .later }
def BytecodeSafeUptoCardSaid : Prop := Claim7.holds Tryz.pinned (.plain (OpenSpec.upto bytecodeSafeSpec)) bytecodeSafeUptoCard
end Rows
end Go.Proofs.YtflbmbkhjcbhoaaGreatDoor
