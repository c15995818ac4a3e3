/-
  DERIVED. GIVEN WITH THE SEED: THE CARDS: each row of YtdhlmflbefnekaaDoorRows.lean that lists a variable, with what it lists TIED to the program's text (the seventh form; the later family's looks); each row that meets fmt, with fmt's text TOLD by the authors' own Lean function (tested against real Go, not proved from fmt's source: count such statements apart). THE CARD IS WHAT COUNTS. Prove the row's statement (the work); the ties are given (YtdhlmflbefnekaaDoorTie.lean); close each card by the builder's one call (the guide's Derived/Test/ToyasCard.lean, 'card_holds'). Laid BY PROGRAM, IN A SANDBOX (cutbox-door.mjs). By AI agents, Wed Nov 11 2026. No macro, syntax, notation, axiom, sorry.
-/
import Derived.Test.YtdhlmflbefnekaaDoorRows
import GoSem.ClaimSeven
namespace Go.Proofs.YtdhlmflbefnekaaDoor
namespace Rows

/-- THE TIED CARD OF 'reveillelaw10.BusTable'. -/
def busTableCard : Claim7 := { stood := { row := busTableRow, standIns := [], harness := (true, "02b8bfbdb2887d5fa000e202ea32817203fab4d15ede51d8d5342911c9f0839b"), looks := false }, kinds := [], alts := [], laidByText := true, laidKinds := [.data], laidTests := true, laidLooks := .later }
def BusTableCardSaid : Prop := Claim7.holds Tryd.pinned (.plain (OpenSpec.ofChange busTableSpec)) busTableCard

/-- THE TIED CARD OF 'reveillelaw10.BusAsks'. -/
def busAsksCard : Claim7 := { stood := { row := busAsksRow, standIns := [], harness := (true, "02b8bfbdb2887d5fa000e202ea32817203fab4d15ede51d8d5342911c9f0839b"), looks := false }, kinds := [], alts := [], laidByText := true, laidKinds := [.data], laidTests := true, laidLooks := .later }
def BusAsksCardSaid : Prop := Claim7.holds Tryd.pinned (.plain (OpenSpec.ofChange busAsksSpec)) busAsksCard

/-- THE TIED CARD OF 'reveillelaw10.BusOrders'. -/
def busOrdersCard : Claim7 := { stood := { row := busOrdersRow, standIns := [], harness := (true, "02b8bfbdb2887d5fa000e202ea32817203fab4d15ede51d8d5342911c9f0839b"), looks := false }, kinds := [], alts := [], laidByText := true, laidKinds := [.data], laidTests := true, laidLooks := .later }
def BusOrdersCardSaid : Prop := Claim7.holds Tryd.pinned (.plain (OpenSpec.ofChange busOrdersSpec)) busOrdersCard

/-- THE TIED CARD OF 'reveillelaw10.BusParts'. -/
def busPartsCard : Claim7 := { stood := { row := busPartsRow, standIns := [], harness := (true, "02b8bfbdb2887d5fa000e202ea32817203fab4d15ede51d8d5342911c9f0839b"), looks := false }, kinds := [], alts := [], laidByText := true, laidKinds := [.data], laidTests := true, laidLooks := .later }
def BusPartsCardSaid : Prop := Claim7.holds Tryd.pinned (.plain (OpenSpec.ofChange busPartsSpec)) busPartsCard

/-- THE TIED CARD OF 'reveillelaw10.BusTurns'. -/
def busTurnsCard : Claim7 := { stood := { row := busTurnsRow, standIns := [], harness := (true, "02b8bfbdb2887d5fa000e202ea32817203fab4d15ede51d8d5342911c9f0839b"), looks := false }, kinds := [], alts := [], laidByText := true, laidKinds := [.data], laidTests := true, laidLooks := .later }
def BusTurnsCardSaid : Prop := Claim7.holds Tryd.pinned (.plain (OpenSpec.ofChange busTurnsSpec)) busTurnsCard

/-- THE TIED CARD OF 'reveillelaw10.BusPlaces'. -/
def busPlacesCard : Claim7 := { stood := { row := busPlacesRow, standIns := [], harness := (true, "02b8bfbdb2887d5fa000e202ea32817203fab4d15ede51d8d5342911c9f0839b"), looks := false }, kinds := [], alts := [], laidByText := true, laidKinds := [.data], laidTests := true, laidLooks := .later }
def BusPlacesCardSaid : Prop := Claim7.holds Tryd.pinned (.plain (OpenSpec.ofChange busPlacesSpec)) busPlacesCard

/-- THE SECOND FORM's CARD OF 'reveillelaw10.BusTable'. -/
def busTableUptoCard : Claim7 := { stood := { row := busTableUptoRow, standIns := [], harness := (true, "02b8bfbdb2887d5fa000e202ea32817203fab4d15ede51d8d5342911c9f0839b"), looks := false }, kinds := [], alts := [], laidByText := true, laidKinds := [.data], laidTests := true, laidLooks := .later }
def BusTableUptoCardSaid : Prop := Claim7.holds Tryd.pinned (.plain (OpenSpec.upto busTableSpec)) busTableUptoCard

/-- THE SECOND FORM's CARD OF 'reveillelaw10.BusAsks'. -/
def busAsksUptoCard : Claim7 := { stood := { row := busAsksUptoRow, standIns := [], harness := (true, "02b8bfbdb2887d5fa000e202ea32817203fab4d15ede51d8d5342911c9f0839b"), looks := false }, kinds := [], alts := [], laidByText := true, laidKinds := [.data], laidTests := true, laidLooks := .later }
def BusAsksUptoCardSaid : Prop := Claim7.holds Tryd.pinned (.plain (OpenSpec.upto busAsksSpec)) busAsksUptoCard

/-- THE SECOND FORM's CARD OF 'reveillelaw10.BusOrders'. -/
def busOrdersUptoCard : Claim7 := { stood := { row := busOrdersUptoRow, standIns := [], harness := (true, "02b8bfbdb2887d5fa000e202ea32817203fab4d15ede51d8d5342911c9f0839b"), looks := false }, kinds := [], alts := [], laidByText := true, laidKinds := [.data], laidTests := true, laidLooks := .later }
def BusOrdersUptoCardSaid : Prop := Claim7.holds Tryd.pinned (.plain (OpenSpec.upto busOrdersSpec)) busOrdersUptoCard

/-- THE SECOND FORM's CARD OF 'reveillelaw10.BusParts'. -/
def busPartsUptoCard : Claim7 := { stood := { row := busPartsUptoRow, standIns := [], harness := (true, "02b8bfbdb2887d5fa000e202ea32817203fab4d15ede51d8d5342911c9f0839b"), looks := false }, kinds := [], alts := [], laidByText := true, laidKinds := [.data], laidTests := true, laidLooks := .later }
def BusPartsUptoCardSaid : Prop := Claim7.holds Tryd.pinned (.plain (OpenSpec.upto busPartsSpec)) busPartsUptoCard

/-- THE SECOND FORM's CARD OF 'reveillelaw10.BusTurns'. -/
def busTurnsUptoCard : Claim7 := { stood := { row := busTurnsUptoRow, standIns := [], harness := (true, "02b8bfbdb2887d5fa000e202ea32817203fab4d15ede51d8d5342911c9f0839b"), looks := false }, kinds := [], alts := [], laidByText := true, laidKinds := [.data], laidTests := true, laidLooks := .later }
def BusTurnsUptoCardSaid : Prop := Claim7.holds Tryd.pinned (.plain (OpenSpec.upto busTurnsSpec)) busTurnsUptoCard

/-- THE SECOND FORM's CARD OF 'reveillelaw10.BusPlaces'. -/
def busPlacesUptoCard : Claim7 := { stood := { row := busPlacesUptoRow, standIns := [], harness := (true, "02b8bfbdb2887d5fa000e202ea32817203fab4d15ede51d8d5342911c9f0839b"), looks := false }, kinds := [], alts := [], laidByText := true, laidKinds := [.data], laidTests := true, laidLooks := .later }
def BusPlacesUptoCardSaid : Prop := Claim7.holds Tryd.pinned (.plain (OpenSpec.upto busPlacesSpec)) busPlacesUptoCard
end Rows
end Go.Proofs.YtdhlmflbefnekaaDoor
