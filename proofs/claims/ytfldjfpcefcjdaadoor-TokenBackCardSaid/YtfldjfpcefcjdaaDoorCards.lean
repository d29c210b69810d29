/-
  DERIVED. GIVEN WITH THE SEED: THE CARDS: each row of YtfldjfpcefcjdaaDoorRows.lean that lists a variable, with what it lists TIED to the program's text (the seventh form; the later family's looks); each row that meets fmt, with fmt's text TOLD by the authors' own Lean function (tested against real Go, not proved from fmt's source: count such statements apart). THE CARD IS WHAT COUNTS. Prove the row's statement (the work); the ties are given (YtfldjfpcefcjdaaDoorTie.lean); close each card by the builder's one call (the guide's Derived/Test/ToyasCard.lean, 'card_holds'). Laid BY PROGRAM, IN A SANDBOX (cutbox-door.mjs). By AI agents, Wed Nov 11 2026. No macro, syntax, notation, axiom, sorry.
-/
import Derived.Test.YtfldjfpcefcjdaaDoorRows
import GoSem.ClaimSeven
namespace Go.Proofs.YtfldjfpcefcjdaaDoor
namespace Rows

/-- THE TIED CARD OF 'arraylanglaw08.TokenShows'. -/
def tokenShowsCard : Claim7 := { stood := { row := tokenShowsRow, standIns := [], harness := (true, "ae8110fb42298b84e980dd26ad8b780b6dd2f500b718cde966ab5311cb18271d"), looks := true }, kinds := [], alts := [], laidByText := true, laidKinds := [.data, .data, .data, .data, .sentinel, .sentinel, .pinned, .pinned], laidTests := true, laidLooks := .later }
def TokenShowsCardSaid : Prop := Claim7.holds Tryd.pinned (.plain (OpenSpec.ofChange tokenShowsSpec)) tokenShowsCard

/-- THE TIED CARD OF 'arraylanglaw08.TokenReserves'. -/
def tokenReservesCard : Claim7 := { stood := { row := tokenReservesRow, standIns := [], harness := (true, "ae8110fb42298b84e980dd26ad8b780b6dd2f500b718cde966ab5311cb18271d"), looks := true }, kinds := [], alts := [], laidByText := true, laidKinds := [.data, .data, .data, .data, .sentinel, .sentinel, .pinned, .pinned], laidTests := true, laidLooks := .later }
def TokenReservesCardSaid : Prop := Claim7.holds Tryd.pinned (.plain (OpenSpec.ofChange tokenReservesSpec)) tokenReservesCard

/-- THE TIED CARD OF 'arraylanglaw08.TokenBack'. -/
def tokenBackCard : Claim7 := { stood := { row := tokenBackRow, standIns := [], harness := (true, "ae8110fb42298b84e980dd26ad8b780b6dd2f500b718cde966ab5311cb18271d"), looks := true }, kinds := [], alts := [], laidByText := true, laidKinds := [.data, .data, .data, .data, .sentinel, .sentinel, .pinned, .pinned], laidTests := true, laidLooks := .later }
def TokenBackCardSaid : Prop := Claim7.holds Tryd.pinned (.plain (OpenSpec.ofChange tokenBackSpec)) tokenBackCard

/-- THE TIED CARD OF 'arraylanglaw08.TokenPlaces'. -/
def tokenPlacesCard : Claim7 := { stood := { row := tokenPlacesRow, standIns := [], harness := (true, "ae8110fb42298b84e980dd26ad8b780b6dd2f500b718cde966ab5311cb18271d"), looks := true }, kinds := [], alts := [], laidByText := true, laidKinds := [.data, .data, .data, .data, .sentinel, .sentinel, .pinned, .pinned], laidTests := true, laidLooks := .later }
def TokenPlacesCardSaid : Prop := Claim7.holds Tryd.pinned (.plain (OpenSpec.ofChange tokenPlacesSpec)) tokenPlacesCard

/-- THE TIED CARD OF 'arraylanglaw08.TokenJoins'. -/
def tokenJoinsCard : Claim7 := { stood := { row := tokenJoinsRow, standIns := [], harness := (true, "ae8110fb42298b84e980dd26ad8b780b6dd2f500b718cde966ab5311cb18271d"), looks := true }, kinds := [], alts := [], laidByText := true, laidKinds := [.data, .data, .data, .data, .sentinel, .sentinel, .pinned, .pinned], laidTests := true, laidLooks := .later }
def TokenJoinsCardSaid : Prop := Claim7.holds Tryd.pinned (.plain (OpenSpec.ofChange tokenJoinsSpec)) tokenJoinsCard

/-- THE SECOND FORM's CARD OF 'arraylanglaw08.TokenShows'. -/
def tokenShowsUptoCard : Claim7 := { stood := { row := tokenShowsUptoRow, standIns := [], harness := (true, "ae8110fb42298b84e980dd26ad8b780b6dd2f500b718cde966ab5311cb18271d"), looks := true }, kinds := [], alts := [], laidByText := true, laidKinds := [.data, .data, .data, .data, .sentinel, .sentinel, .pinned, .pinned], laidTests := true, laidLooks := .later }
def TokenShowsUptoCardSaid : Prop := Claim7.holds Tryd.pinned (.plain (OpenSpec.upto tokenShowsSpec)) tokenShowsUptoCard

/-- THE SECOND FORM's CARD OF 'arraylanglaw08.TokenReserves'. -/
def tokenReservesUptoCard : Claim7 := { stood := { row := tokenReservesUptoRow, standIns := [], harness := (true, "ae8110fb42298b84e980dd26ad8b780b6dd2f500b718cde966ab5311cb18271d"), looks := true }, kinds := [], alts := [], laidByText := true, laidKinds := [.data, .data, .data, .data, .sentinel, .sentinel, .pinned, .pinned], laidTests := true, laidLooks := .later }
def TokenReservesUptoCardSaid : Prop := Claim7.holds Tryd.pinned (.plain (OpenSpec.upto tokenReservesSpec)) tokenReservesUptoCard

/-- THE SECOND FORM's CARD OF 'arraylanglaw08.TokenBack'. -/
def tokenBackUptoCard : Claim7 := { stood := { row := tokenBackUptoRow, standIns := [], harness := (true, "ae8110fb42298b84e980dd26ad8b780b6dd2f500b718cde966ab5311cb18271d"), looks := true }, kinds := [], alts := [], laidByText := true, laidKinds := [.data, .data, .data, .data, .sentinel, .sentinel, .pinned, .pinned], laidTests := true, laidLooks := .later }
def TokenBackUptoCardSaid : Prop := Claim7.holds Tryd.pinned (.plain (OpenSpec.upto tokenBackSpec)) tokenBackUptoCard

/-- THE SECOND FORM's CARD OF 'arraylanglaw08.TokenPlaces'. -/
def tokenPlacesUptoCard : Claim7 := { stood := { row := tokenPlacesUptoRow, standIns := [], harness := (true, "ae8110fb42298b84e980dd26ad8b780b6dd2f500b718cde966ab5311cb18271d"), looks := true }, kinds := [], alts := [], laidByText := true, laidKinds := [.data, .data, .data, .data, .sentinel, .sentinel, .pinned, .pinned], laidTests := true, laidLooks := .later }
def TokenPlacesUptoCardSaid : Prop := Claim7.holds Tryd.pinned (.plain (OpenSpec.upto tokenPlacesSpec)) tokenPlacesUptoCard

/-- THE SECOND FORM's CARD OF 'arraylanglaw08.TokenJoins'. -/
def tokenJoinsUptoCard : Claim7 := { stood := { row := tokenJoinsUptoRow, standIns := [], harness := (true, "ae8110fb42298b84e980dd26ad8b780b6dd2f500b718cde966ab5311cb18271d"), looks := true }, kinds := [], alts := [], laidByText := true, laidKinds := [.data, .data, .data, .data, .sentinel, .sentinel, .pinned, .pinned], laidTests := true, laidLooks := .later }
def TokenJoinsUptoCardSaid : Prop := Claim7.holds Tryd.pinned (.plain (OpenSpec.upto tokenJoinsSpec)) tokenJoinsUptoCard
end Rows
end Go.Proofs.YtfldjfpcefcjdaaDoor
