/-
  DERIVED. GIVEN WITH THE SEED: THE CARDS: each row of YtmlabnbbpmmonaaDoorRows.lean that lists a variable, with what it lists TIED to the program's text (the seventh form; the later family's looks); each row that meets fmt, with fmt's text TOLD by the authors' own Lean function (tested against real Go, not proved from fmt's source: count such statements apart). THE CARD IS WHAT COUNTS. Prove the row's statement (the work); the ties are given (YtmlabnbbpmmonaaDoorTie.lean); close each card by the builder's one call (the guide's Derived/Test/ToyasCard.lean, 'card_holds'). Laid BY PROGRAM, IN A SANDBOX (cutbox-door.mjs). By AI agents, Wed Nov 11 2026. No macro, syntax, notation, axiom, sorry.
-/
import Derived.Test.YtmlabnbbpmmonaaDoorRows
import GoSem.ClaimSeven
namespace Go.Proofs.YtmlabnbbpmmonaaDoor
namespace Rows

/-- THE TIED CARD OF 'reveillelaw08.CrystalNames'. -/
def crystalNamesCard : Claim7 := { stood := { row := crystalNamesRow, standIns := [], harness := (true, "569f65e2490eb10df35206651ab8ccb3b4efaa0af4edc02d866b6bd978ac591e"), looks := false }, kinds := [], alts := [], laidByText := true, laidKinds := [.data], laidTests := true, laidLooks := .later }
def CrystalNamesCardSaid : Prop := Claim7.holds Tryd.pinned (.plain (OpenSpec.ofChange crystalNamesSpec)) crystalNamesCard

/-- THE TIED CARD OF 'reveillelaw08.CrystalStands'. -/
def crystalStandsCard : Claim7 := { stood := { row := crystalStandsRow, standIns := [], harness := (true, "569f65e2490eb10df35206651ab8ccb3b4efaa0af4edc02d866b6bd978ac591e"), looks := false }, kinds := [], alts := [], laidByText := true, laidKinds := [.data], laidTests := true, laidLooks := .later }
def CrystalStandsCardSaid : Prop := Claim7.holds Tryd.pinned (.plain (OpenSpec.ofChange crystalStandsSpec)) crystalStandsCard

/-- THE TIED CARD OF 'reveillelaw08.CrystalAsks'. -/
def crystalAsksCard : Claim7 := { stood := { row := crystalAsksRow, standIns := [], harness := (true, "569f65e2490eb10df35206651ab8ccb3b4efaa0af4edc02d866b6bd978ac591e"), looks := false }, kinds := [], alts := [], laidByText := true, laidKinds := [.data], laidTests := true, laidLooks := .later }
def CrystalAsksCardSaid : Prop := Claim7.holds Tryd.pinned (.plain (OpenSpec.ofChange crystalAsksSpec)) crystalAsksCard

/-- THE TIED CARD OF 'reveillelaw08.CrystalLeast'. -/
def crystalLeastCard : Claim7 := { stood := { row := crystalLeastRow, standIns := [], harness := (true, "569f65e2490eb10df35206651ab8ccb3b4efaa0af4edc02d866b6bd978ac591e"), looks := false }, kinds := [], alts := [], laidByText := true, laidKinds := [.data], laidTests := true, laidLooks := .later }
def CrystalLeastCardSaid : Prop := Claim7.holds Tryd.pinned (.plain (OpenSpec.ofChange crystalLeastSpec)) crystalLeastCard

/-- THE TIED CARD OF 'reveillelaw08.CrystalNearest'. -/
def crystalNearestCard : Claim7 := { stood := { row := crystalNearestRow, standIns := [], harness := (true, "569f65e2490eb10df35206651ab8ccb3b4efaa0af4edc02d866b6bd978ac591e"), looks := false }, kinds := [], alts := [], laidByText := true, laidKinds := [.data], laidTests := true, laidLooks := .later }
def CrystalNearestCardSaid : Prop := Claim7.holds Tryd.pinned (.plain (OpenSpec.ofChange crystalNearestSpec)) crystalNearestCard

/-- THE TIED CARD OF 'reveillelaw08.CrystalKeeps'. -/
def crystalKeepsCard : Claim7 := { stood := { row := crystalKeepsRow, standIns := [], harness := (true, "569f65e2490eb10df35206651ab8ccb3b4efaa0af4edc02d866b6bd978ac591e"), looks := false }, kinds := [], alts := [], laidByText := true, laidKinds := [.data], laidTests := true, laidLooks := .later }
def CrystalKeepsCardSaid : Prop := Claim7.holds Tryd.pinned (.plain (OpenSpec.ofChange crystalKeepsSpec)) crystalKeepsCard

/-- THE SECOND FORM's CARD OF 'reveillelaw08.CrystalNames'. -/
def crystalNamesUptoCard : Claim7 := { stood := { row := crystalNamesUptoRow, standIns := [], harness := (true, "569f65e2490eb10df35206651ab8ccb3b4efaa0af4edc02d866b6bd978ac591e"), looks := false }, kinds := [], alts := [], laidByText := true, laidKinds := [.data], laidTests := true, laidLooks := .later }
def CrystalNamesUptoCardSaid : Prop := Claim7.holds Tryd.pinned (.plain (OpenSpec.upto crystalNamesSpec)) crystalNamesUptoCard

/-- THE SECOND FORM's CARD OF 'reveillelaw08.CrystalStands'. -/
def crystalStandsUptoCard : Claim7 := { stood := { row := crystalStandsUptoRow, standIns := [], harness := (true, "569f65e2490eb10df35206651ab8ccb3b4efaa0af4edc02d866b6bd978ac591e"), looks := false }, kinds := [], alts := [], laidByText := true, laidKinds := [.data], laidTests := true, laidLooks := .later }
def CrystalStandsUptoCardSaid : Prop := Claim7.holds Tryd.pinned (.plain (OpenSpec.upto crystalStandsSpec)) crystalStandsUptoCard

/-- THE SECOND FORM's CARD OF 'reveillelaw08.CrystalAsks'. -/
def crystalAsksUptoCard : Claim7 := { stood := { row := crystalAsksUptoRow, standIns := [], harness := (true, "569f65e2490eb10df35206651ab8ccb3b4efaa0af4edc02d866b6bd978ac591e"), looks := false }, kinds := [], alts := [], laidByText := true, laidKinds := [.data], laidTests := true, laidLooks := .later }
def CrystalAsksUptoCardSaid : Prop := Claim7.holds Tryd.pinned (.plain (OpenSpec.upto crystalAsksSpec)) crystalAsksUptoCard

/-- THE SECOND FORM's CARD OF 'reveillelaw08.CrystalLeast'. -/
def crystalLeastUptoCard : Claim7 := { stood := { row := crystalLeastUptoRow, standIns := [], harness := (true, "569f65e2490eb10df35206651ab8ccb3b4efaa0af4edc02d866b6bd978ac591e"), looks := false }, kinds := [], alts := [], laidByText := true, laidKinds := [.data], laidTests := true, laidLooks := .later }
def CrystalLeastUptoCardSaid : Prop := Claim7.holds Tryd.pinned (.plain (OpenSpec.upto crystalLeastSpec)) crystalLeastUptoCard

/-- THE SECOND FORM's CARD OF 'reveillelaw08.CrystalNearest'. -/
def crystalNearestUptoCard : Claim7 := { stood := { row := crystalNearestUptoRow, standIns := [], harness := (true, "569f65e2490eb10df35206651ab8ccb3b4efaa0af4edc02d866b6bd978ac591e"), looks := false }, kinds := [], alts := [], laidByText := true, laidKinds := [.data], laidTests := true, laidLooks := .later }
def CrystalNearestUptoCardSaid : Prop := Claim7.holds Tryd.pinned (.plain (OpenSpec.upto crystalNearestSpec)) crystalNearestUptoCard

/-- THE SECOND FORM's CARD OF 'reveillelaw08.CrystalKeeps'. -/
def crystalKeepsUptoCard : Claim7 := { stood := { row := crystalKeepsUptoRow, standIns := [], harness := (true, "569f65e2490eb10df35206651ab8ccb3b4efaa0af4edc02d866b6bd978ac591e"), looks := false }, kinds := [], alts := [], laidByText := true, laidKinds := [.data], laidTests := true, laidLooks := .later }
def CrystalKeepsUptoCardSaid : Prop := Claim7.holds Tryd.pinned (.plain (OpenSpec.upto crystalKeepsSpec)) crystalKeepsUptoCard
end Rows
end Go.Proofs.YtmlabnbbpmmonaaDoor
