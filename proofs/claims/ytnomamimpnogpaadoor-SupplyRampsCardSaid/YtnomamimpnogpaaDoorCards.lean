/-
  DERIVED. GIVEN WITH THE SEED: THE CARDS: each row of YtnomamimpnogpaaDoorRows.lean that lists a variable, with what it lists TIED to the program's text (the seventh form; the later family's looks); each row that meets fmt, with fmt's text TOLD by the authors' own Lean function (tested against real Go, not proved from fmt's source: count such statements apart). THE CARD IS WHAT COUNTS. Prove the row's statement (the work); the ties are given (YtnomamimpnogpaaDoorTie.lean); close each card by the builder's one call (the guide's Derived/Test/ToyasCard.lean, 'card_holds'). Laid BY PROGRAM, IN A SANDBOX (cutbox-door.mjs). By AI agents, Wed Nov 11 2026. No macro, syntax, notation, axiom, sorry.
-/
import Derived.Test.YtnomamimpnogpaaDoorRows
import GoSem.ClaimSeven
namespace Go.Proofs.YtnomamimpnogpaaDoor
namespace Rows

/-- THE TIED CARD OF 'reveillelaw09.SupplyMeets'. -/
def supplyMeetsCard : Claim7 := { stood := { row := supplyMeetsRow, standIns := [], harness := (true, "55b740d8b03d6b64589922dc3dbf9e344ac81e3914b5e8144580be536a77b394"), looks := false }, kinds := [], alts := [], laidByText := true, laidKinds := [.data], laidTests := true, laidLooks := .later }
def SupplyMeetsCardSaid : Prop := Claim7.holds Tryd.pinned (.plain (OpenSpec.ofChange supplyMeetsSpec)) supplyMeetsCard

/-- THE TIED CARD OF 'reveillelaw09.SupplyFits'. -/
def supplyFitsCard : Claim7 := { stood := { row := supplyFitsRow, standIns := [], harness := (true, "55b740d8b03d6b64589922dc3dbf9e344ac81e3914b5e8144580be536a77b394"), looks := false }, kinds := [], alts := [], laidByText := true, laidKinds := [.data], laidTests := true, laidLooks := .later }
def SupplyFitsCardSaid : Prop := Claim7.holds Tryd.pinned (.plain (OpenSpec.ofChange supplyFitsSpec)) supplyFitsCard

/-- THE TIED CARD OF 'reveillelaw09.SupplyRamps'. -/
def supplyRampsCard : Claim7 := { stood := { row := supplyRampsRow, standIns := [], harness := (true, "55b740d8b03d6b64589922dc3dbf9e344ac81e3914b5e8144580be536a77b394"), looks := false }, kinds := [], alts := [], laidByText := true, laidKinds := [.data], laidTests := true, laidLooks := .later }
def SupplyRampsCardSaid : Prop := Claim7.holds Tryd.pinned (.plain (OpenSpec.ofChange supplyRampsSpec)) supplyRampsCard

/-- THE TIED CARD OF 'reveillelaw09.SupplyNone'. -/
def supplyNoneCard : Claim7 := { stood := { row := supplyNoneRow, standIns := [], harness := (true, "55b740d8b03d6b64589922dc3dbf9e344ac81e3914b5e8144580be536a77b394"), looks := false }, kinds := [], alts := [], laidByText := true, laidKinds := [.data], laidTests := true, laidLooks := .later }
def SupplyNoneCardSaid : Prop := Claim7.holds Tryd.pinned (.plain (OpenSpec.ofChange supplyNoneSpec)) supplyNoneCard

/-- THE TIED CARD OF 'reveillelaw09.SupplyAsks'. -/
def supplyAsksCard : Claim7 := { stood := { row := supplyAsksRow, standIns := [], harness := (true, "55b740d8b03d6b64589922dc3dbf9e344ac81e3914b5e8144580be536a77b394"), looks := false }, kinds := [], alts := [], laidByText := true, laidKinds := [.data], laidTests := true, laidLooks := .later }
def SupplyAsksCardSaid : Prop := Claim7.holds Tryd.pinned (.plain (OpenSpec.ofChange supplyAsksSpec)) supplyAsksCard

/-- THE TIED CARD OF 'reveillelaw09.SupplyCards'. -/
def supplyCardsCard : Claim7 := { stood := { row := supplyCardsRow, standIns := [], harness := (true, "55b740d8b03d6b64589922dc3dbf9e344ac81e3914b5e8144580be536a77b394"), looks := false }, kinds := [], alts := [], laidByText := true, laidKinds := [.data], laidTests := true, laidLooks := .later }
def SupplyCardsCardSaid : Prop := Claim7.holds Tryd.pinned (.plain (OpenSpec.ofChange supplyCardsSpec)) supplyCardsCard

/-- THE TIED CARD OF 'reveillelaw09.SupplyStands'. -/
def supplyStandsCard : Claim7 := { stood := { row := supplyStandsRow, standIns := [], harness := (true, "55b740d8b03d6b64589922dc3dbf9e344ac81e3914b5e8144580be536a77b394"), looks := false }, kinds := [], alts := [], laidByText := true, laidKinds := [.data, .data], laidTests := true, laidLooks := .later }
def SupplyStandsCardSaid : Prop := Claim7.holds Tryd.pinned (.plain (OpenSpec.ofChange supplyStandsSpec)) supplyStandsCard

/-- THE SECOND FORM's CARD OF 'reveillelaw09.SupplyMeets'. -/
def supplyMeetsUptoCard : Claim7 := { stood := { row := supplyMeetsUptoRow, standIns := [], harness := (true, "55b740d8b03d6b64589922dc3dbf9e344ac81e3914b5e8144580be536a77b394"), looks := false }, kinds := [], alts := [], laidByText := true, laidKinds := [.data], laidTests := true, laidLooks := .later }
def SupplyMeetsUptoCardSaid : Prop := Claim7.holds Tryd.pinned (.plain (OpenSpec.upto supplyMeetsSpec)) supplyMeetsUptoCard

/-- THE SECOND FORM's CARD OF 'reveillelaw09.SupplyFits'. -/
def supplyFitsUptoCard : Claim7 := { stood := { row := supplyFitsUptoRow, standIns := [], harness := (true, "55b740d8b03d6b64589922dc3dbf9e344ac81e3914b5e8144580be536a77b394"), looks := false }, kinds := [], alts := [], laidByText := true, laidKinds := [.data], laidTests := true, laidLooks := .later }
def SupplyFitsUptoCardSaid : Prop := Claim7.holds Tryd.pinned (.plain (OpenSpec.upto supplyFitsSpec)) supplyFitsUptoCard

/-- THE SECOND FORM's CARD OF 'reveillelaw09.SupplyRamps'. -/
def supplyRampsUptoCard : Claim7 := { stood := { row := supplyRampsUptoRow, standIns := [], harness := (true, "55b740d8b03d6b64589922dc3dbf9e344ac81e3914b5e8144580be536a77b394"), looks := false }, kinds := [], alts := [], laidByText := true, laidKinds := [.data], laidTests := true, laidLooks := .later }
def SupplyRampsUptoCardSaid : Prop := Claim7.holds Tryd.pinned (.plain (OpenSpec.upto supplyRampsSpec)) supplyRampsUptoCard

/-- THE SECOND FORM's CARD OF 'reveillelaw09.SupplyNone'. -/
def supplyNoneUptoCard : Claim7 := { stood := { row := supplyNoneUptoRow, standIns := [], harness := (true, "55b740d8b03d6b64589922dc3dbf9e344ac81e3914b5e8144580be536a77b394"), looks := false }, kinds := [], alts := [], laidByText := true, laidKinds := [.data], laidTests := true, laidLooks := .later }
def SupplyNoneUptoCardSaid : Prop := Claim7.holds Tryd.pinned (.plain (OpenSpec.upto supplyNoneSpec)) supplyNoneUptoCard

/-- THE SECOND FORM's CARD OF 'reveillelaw09.SupplyAsks'. -/
def supplyAsksUptoCard : Claim7 := { stood := { row := supplyAsksUptoRow, standIns := [], harness := (true, "55b740d8b03d6b64589922dc3dbf9e344ac81e3914b5e8144580be536a77b394"), looks := false }, kinds := [], alts := [], laidByText := true, laidKinds := [.data], laidTests := true, laidLooks := .later }
def SupplyAsksUptoCardSaid : Prop := Claim7.holds Tryd.pinned (.plain (OpenSpec.upto supplyAsksSpec)) supplyAsksUptoCard

/-- THE SECOND FORM's CARD OF 'reveillelaw09.SupplyCards'. -/
def supplyCardsUptoCard : Claim7 := { stood := { row := supplyCardsUptoRow, standIns := [], harness := (true, "55b740d8b03d6b64589922dc3dbf9e344ac81e3914b5e8144580be536a77b394"), looks := false }, kinds := [], alts := [], laidByText := true, laidKinds := [.data], laidTests := true, laidLooks := .later }
def SupplyCardsUptoCardSaid : Prop := Claim7.holds Tryd.pinned (.plain (OpenSpec.upto supplyCardsSpec)) supplyCardsUptoCard

/-- THE SECOND FORM's CARD OF 'reveillelaw09.SupplyStands'. -/
def supplyStandsUptoCard : Claim7 := { stood := { row := supplyStandsUptoRow, standIns := [], harness := (true, "55b740d8b03d6b64589922dc3dbf9e344ac81e3914b5e8144580be536a77b394"), looks := false }, kinds := [], alts := [], laidByText := true, laidKinds := [.data, .data], laidTests := true, laidLooks := .later }
def SupplyStandsUptoCardSaid : Prop := Claim7.holds Tryd.pinned (.plain (OpenSpec.upto supplyStandsSpec)) supplyStandsUptoCard
end Rows
end Go.Proofs.YtnomamimpnogpaaDoor
