/-
  DERIVED. GIVEN WITH THE SEED: THE CARDS: each row of YtaagdbcaeokjkaaGreatDoorRows.lean that lists a variable, with what it lists TIED to the program's text (the seventh form; the later family's looks); each row that meets fmt, with fmt's text TOLD by the authors' own Lean function (tested against real Go, not proved from fmt's source: count such statements apart). THE CARD IS WHAT COUNTS. Prove the row's statement (the work); the ties are given (YtaagdbcaeokjkaaGreatDoorTie.lean); close each card by the builder's one call (the guide's Derived/Test/ToyasCard.lean, 'card_holds'). Laid BY PROGRAM, IN A SANDBOX (cutbox-door.mjs). By AI agents, Wed Nov 11 2026. No macro, syntax, notation, axiom, sorry.
-/
import Derived.Test.YtaagdbcaeokjkaaGreatDoorRows
import GoSem.ClaimSeven
namespace Go.Proofs.YtaagdbcaeokjkaaGreatDoor
namespace Rows

/-- THE TIED CARD OF 'arraylanglaw13.PrinterPrint'. -/
def printerPrintCard : Claim7 := { stood := { row := printerPrintRow, standIns := [], harness := (true, "3a458913cfd5cc18cd715b6725a5a476176d35ef8cf82085cb2afd0b4a4dcae4"), looks := true }, kinds := [], alts := [], laidByText := true, laidKinds := [.data, .data, .data], laidTests := true, laidLooks := .later }
def PrinterPrintCardSaid : Prop := Claim7.holds Tryz.pinned (.plain (OpenSpec.ofChange printerPrintSpec)) printerPrintCard

/-- THE TIED CARD OF 'arraylanglaw13.PrinterCompact'. -/
def printerCompactCard : Claim7 := { stood := { row := printerCompactRow, standIns := [], harness := (true, "3a458913cfd5cc18cd715b6725a5a476176d35ef8cf82085cb2afd0b4a4dcae4"), looks := true }, kinds := [], alts := [], laidByText := true, laidKinds := [.data, .data, .data], laidTests := true, laidLooks := .later }
def PrinterCompactCardSaid : Prop := Claim7.holds Tryz.pinned (.plain (OpenSpec.ofChange printerCompactSpec)) printerCompactCard

/-- THE TIED CARD OF 'arraylanglaw13.PrinterTokens'. -/
def printerTokensCard : Claim7 := { stood := { row := printerTokensRow, standIns := [], harness := (true, "3a458913cfd5cc18cd715b6725a5a476176d35ef8cf82085cb2afd0b4a4dcae4"), looks := true }, kinds := [], alts := [], laidByText := true, laidKinds := [.data, .data, .data, .data, .sentinel, .sentinel, .pinned, .pinned], laidTests := true, laidLooks := .later }
def PrinterTokensCardSaid : Prop := Claim7.holds Tryz.pinned (.plain (OpenSpec.ofChange printerTokensSpec)) printerTokensCard

/-- THE SECOND FORM's CARD OF 'arraylanglaw13.PrinterPrint'. -/
def printerPrintUptoCard : Claim7 := { stood := { row := printerPrintUptoRow, standIns := [], harness := (true, "3a458913cfd5cc18cd715b6725a5a476176d35ef8cf82085cb2afd0b4a4dcae4"), looks := true }, kinds := [], alts := [], laidByText := true, laidKinds := [.data, .data, .data], laidTests := true, laidLooks := .later }
def PrinterPrintUptoCardSaid : Prop := Claim7.holds Tryz.pinned (.plain (OpenSpec.upto printerPrintSpec)) printerPrintUptoCard

/-- THE SECOND FORM's CARD OF 'arraylanglaw13.PrinterCompact'. -/
def printerCompactUptoCard : Claim7 := { stood := { row := printerCompactUptoRow, standIns := [], harness := (true, "3a458913cfd5cc18cd715b6725a5a476176d35ef8cf82085cb2afd0b4a4dcae4"), looks := true }, kinds := [], alts := [], laidByText := true, laidKinds := [.data, .data, .data], laidTests := true, laidLooks := .later }
def PrinterCompactUptoCardSaid : Prop := Claim7.holds Tryz.pinned (.plain (OpenSpec.upto printerCompactSpec)) printerCompactUptoCard

/-- THE SECOND FORM's CARD OF 'arraylanglaw13.PrinterTokens'. -/
def printerTokensUptoCard : Claim7 := { stood := { row := printerTokensUptoRow, standIns := [], harness := (true, "3a458913cfd5cc18cd715b6725a5a476176d35ef8cf82085cb2afd0b4a4dcae4"), looks := true }, kinds := [], alts := [], laidByText := true, laidKinds := [.data, .data, .data, .data, .sentinel, .sentinel, .pinned, .pinned], laidTests := true, laidLooks := .later }
def PrinterTokensUptoCardSaid : Prop := Claim7.holds Tryz.pinned (.plain (OpenSpec.upto printerTokensSpec)) printerTokensUptoCard
end Rows
end Go.Proofs.YtaagdbcaeokjkaaGreatDoor
