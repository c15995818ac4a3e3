/-
  DERIVED. GIVEN WITH THE SEED: THE CARDS: each row of YtlkkkohgeakfaaaDoorRows.lean that lists a variable, with what it lists TIED to the program's text (the seventh form; the later family's looks); each row that meets fmt, with fmt's text TOLD by the authors' own Lean function (tested against real Go, not proved from fmt's source: count such statements apart). THE CARD IS WHAT COUNTS. Prove the row's statement (the work); the ties are given (YtlkkkohgeakfaaaDoorTie.lean); close each card by the builder's one call (the guide's Derived/Test/ToyasCard.lean, 'card_holds'). Laid BY PROGRAM, IN A SANDBOX (cutbox-door.mjs). By AI agents, Wed Nov 11 2026. No macro, syntax, notation, axiom, sorry.
-/
import Derived.Test.YtlkkkohgeakfaaaDoorRows
import GoSem.ClaimSeven
namespace Go.Proofs.YtlkkkohgeakfaaaDoor
namespace Rows

/-- THE TIED CARD OF 'reveillelaw12.RadioStands'. -/
def radioStandsCard : Claim7 := { stood := { row := radioStandsRow, standIns := [], harness := (true, "54c0142797ff8cc910189f3d05f89c0b75fd4cd108bee63dccaf07f3d03c9504"), looks := false }, kinds := [], alts := [], laidByText := true, laidKinds := [.data, .data, .data], laidTests := true, laidLooks := .later }
def RadioStandsCardSaid : Prop := Claim7.holds Tryd.pinned (.plain (OpenSpec.ofChange radioStandsSpec)) radioStandsCard

/-- THE TIED CARD OF 'reveillelaw12.RadioTurns'. -/
def radioTurnsCard : Claim7 := { stood := { row := radioTurnsRow, standIns := [], harness := (true, "54c0142797ff8cc910189f3d05f89c0b75fd4cd108bee63dccaf07f3d03c9504"), looks := false }, kinds := [], alts := [], laidByText := true, laidKinds := [.data], laidTests := true, laidLooks := .later }
def RadioTurnsCardSaid : Prop := Claim7.holds Tryd.pinned (.plain (OpenSpec.ofChange radioTurnsSpec)) radioTurnsCard

/-- THE TIED CARD OF 'reveillelaw12.RadioHops'. -/
def radioHopsCard : Claim7 := { stood := { row := radioHopsRow, standIns := [], harness := (true, "54c0142797ff8cc910189f3d05f89c0b75fd4cd108bee63dccaf07f3d03c9504"), looks := false }, kinds := [], alts := [], laidByText := true, laidKinds := [.data], laidTests := true, laidLooks := .later }
def RadioHopsCardSaid : Prop := Claim7.holds Tryd.pinned (.plain (OpenSpec.ofChange radioHopsSpec)) radioHopsCard

/-- THE TIED CARD OF 'reveillelaw12.RadioAsks'. -/
def radioAsksCard : Claim7 := { stood := { row := radioAsksRow, standIns := [], harness := (true, "54c0142797ff8cc910189f3d05f89c0b75fd4cd108bee63dccaf07f3d03c9504"), looks := false }, kinds := [], alts := [], laidByText := true, laidKinds := [.data], laidTests := true, laidLooks := .later }
def RadioAsksCardSaid : Prop := Claim7.holds Tryd.pinned (.plain (OpenSpec.ofChange radioAsksSpec)) radioAsksCard

/-- THE TIED CARD OF 'reveillelaw12.RadioNone'. -/
def radioNoneCard : Claim7 := { stood := { row := radioNoneRow, standIns := [], harness := (true, "54c0142797ff8cc910189f3d05f89c0b75fd4cd108bee63dccaf07f3d03c9504"), looks := false }, kinds := [], alts := [], laidByText := true, laidKinds := [.data], laidTests := true, laidLooks := .later }
def RadioNoneCardSaid : Prop := Claim7.holds Tryd.pinned (.plain (OpenSpec.ofChange radioNoneSpec)) radioNoneCard

/-- THE TIED CARD OF 'reveillelaw12.RadioCards'. -/
def radioCardsCard : Claim7 := { stood := { row := radioCardsRow, standIns := [], harness := (true, "54c0142797ff8cc910189f3d05f89c0b75fd4cd108bee63dccaf07f3d03c9504"), looks := false }, kinds := [], alts := [], laidByText := true, laidKinds := [.data], laidTests := true, laidLooks := .later }
def RadioCardsCardSaid : Prop := Claim7.holds Tryd.pinned (.plain (OpenSpec.ofChange radioCardsSpec)) radioCardsCard

/-- THE SECOND FORM's CARD OF 'reveillelaw12.RadioStands'. -/
def radioStandsUptoCard : Claim7 := { stood := { row := radioStandsUptoRow, standIns := [], harness := (true, "54c0142797ff8cc910189f3d05f89c0b75fd4cd108bee63dccaf07f3d03c9504"), looks := false }, kinds := [], alts := [], laidByText := true, laidKinds := [.data, .data, .data], laidTests := true, laidLooks := .later }
def RadioStandsUptoCardSaid : Prop := Claim7.holds Tryd.pinned (.plain (OpenSpec.upto radioStandsSpec)) radioStandsUptoCard

/-- THE SECOND FORM's CARD OF 'reveillelaw12.RadioTurns'. -/
def radioTurnsUptoCard : Claim7 := { stood := { row := radioTurnsUptoRow, standIns := [], harness := (true, "54c0142797ff8cc910189f3d05f89c0b75fd4cd108bee63dccaf07f3d03c9504"), looks := false }, kinds := [], alts := [], laidByText := true, laidKinds := [.data], laidTests := true, laidLooks := .later }
def RadioTurnsUptoCardSaid : Prop := Claim7.holds Tryd.pinned (.plain (OpenSpec.upto radioTurnsSpec)) radioTurnsUptoCard

/-- THE SECOND FORM's CARD OF 'reveillelaw12.RadioHops'. -/
def radioHopsUptoCard : Claim7 := { stood := { row := radioHopsUptoRow, standIns := [], harness := (true, "54c0142797ff8cc910189f3d05f89c0b75fd4cd108bee63dccaf07f3d03c9504"), looks := false }, kinds := [], alts := [], laidByText := true, laidKinds := [.data], laidTests := true, laidLooks := .later }
def RadioHopsUptoCardSaid : Prop := Claim7.holds Tryd.pinned (.plain (OpenSpec.upto radioHopsSpec)) radioHopsUptoCard

/-- THE SECOND FORM's CARD OF 'reveillelaw12.RadioAsks'. -/
def radioAsksUptoCard : Claim7 := { stood := { row := radioAsksUptoRow, standIns := [], harness := (true, "54c0142797ff8cc910189f3d05f89c0b75fd4cd108bee63dccaf07f3d03c9504"), looks := false }, kinds := [], alts := [], laidByText := true, laidKinds := [.data], laidTests := true, laidLooks := .later }
def RadioAsksUptoCardSaid : Prop := Claim7.holds Tryd.pinned (.plain (OpenSpec.upto radioAsksSpec)) radioAsksUptoCard

/-- THE SECOND FORM's CARD OF 'reveillelaw12.RadioNone'. -/
def radioNoneUptoCard : Claim7 := { stood := { row := radioNoneUptoRow, standIns := [], harness := (true, "54c0142797ff8cc910189f3d05f89c0b75fd4cd108bee63dccaf07f3d03c9504"), looks := false }, kinds := [], alts := [], laidByText := true, laidKinds := [.data], laidTests := true, laidLooks := .later }
def RadioNoneUptoCardSaid : Prop := Claim7.holds Tryd.pinned (.plain (OpenSpec.upto radioNoneSpec)) radioNoneUptoCard

/-- THE SECOND FORM's CARD OF 'reveillelaw12.RadioCards'. -/
def radioCardsUptoCard : Claim7 := { stood := { row := radioCardsUptoRow, standIns := [], harness := (true, "54c0142797ff8cc910189f3d05f89c0b75fd4cd108bee63dccaf07f3d03c9504"), looks := false }, kinds := [], alts := [], laidByText := true, laidKinds := [.data], laidTests := true, laidLooks := .later }
def RadioCardsUptoCardSaid : Prop := Claim7.holds Tryd.pinned (.plain (OpenSpec.upto radioCardsSpec)) radioCardsUptoCard
end Rows
end Go.Proofs.YtlkkkohgeakfaaaDoor
