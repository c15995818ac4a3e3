/-
  DERIVED. GIVEN WITH THE SEED: THE CARDS: each row of YtlgbmjdlgjdolaaGreatDoorRows.lean that lists a variable, with what it lists TIED to the program's text (the seventh form; the later family's looks); each row that meets fmt, with fmt's text TOLD by the authors' own Lean function (tested against real Go, not proved from fmt's source: count such statements apart). THE CARD IS WHAT COUNTS. Prove the row's statement (the work); the ties are given (YtlgbmjdlgjdolaaGreatDoorTie.lean); close each card by the builder's one call (the guide's Derived/Test/ToyasCard.lean, 'card_holds'). Laid BY PROGRAM, IN A SANDBOX (cutbox-door.mjs). By AI agents, Wed Nov 11 2026. No macro, syntax, notation, axiom, sorry.
-/
import Derived.Test.YtlgbmjdlgjdolaaGreatDoorRows
import GoSem.ClaimSeven
namespace Go.Proofs.YtlgbmjdlgjdolaaGreatDoor
namespace Rows

/-- THE TIED CARD OF 'reveillelaw13.RollBridge'. -/
def rollBridgeCard : Claim7 := { stood := { row := rollBridgeRow, standIns := [], harness := (true, "8a32945ccf33c3e6cf088e649859b3e6674a0f33e362a588603e3da44680f7ff"), looks := false }, kinds := [], alts := [], laidByText := true, laidKinds := [.data, .data, .data, .data, .data], laidTests := true, laidLooks := .later }
def RollBridgeCardSaid : Prop := Claim7.holds Tryz.pinned (.plain (OpenSpec.ofChange rollBridgeSpec)) rollBridgeCard

/-- THE TIED CARD OF 'reveillelaw13.RollWhatever'. -/
def rollWhateverCard : Claim7 := { stood := { row := rollWhateverRow, standIns := [], harness := (true, "8a32945ccf33c3e6cf088e649859b3e6674a0f33e362a588603e3da44680f7ff"), looks := false }, kinds := [], alts := [], laidByText := true, laidKinds := [.data, .data, .data, .data, .data], laidTests := true, laidLooks := .later }
def RollWhateverCardSaid : Prop := Claim7.holds Tryz.pinned (.plain (OpenSpec.ofChange rollWhateverSpec)) rollWhateverCard

/-- THE SECOND FORM's CARD OF 'reveillelaw13.RollBridge'. -/
def rollBridgeUptoCard : Claim7 := { stood := { row := rollBridgeUptoRow, standIns := [], harness := (true, "8a32945ccf33c3e6cf088e649859b3e6674a0f33e362a588603e3da44680f7ff"), looks := false }, kinds := [], alts := [], laidByText := true, laidKinds := [.data, .data, .data, .data, .data], laidTests := true, laidLooks := .later }
def RollBridgeUptoCardSaid : Prop := Claim7.holds Tryz.pinned (.plain (OpenSpec.upto rollBridgeSpec)) rollBridgeUptoCard

/-- THE SECOND FORM's CARD OF 'reveillelaw13.RollWhatever'. -/
def rollWhateverUptoCard : Claim7 := { stood := { row := rollWhateverUptoRow, standIns := [], harness := (true, "8a32945ccf33c3e6cf088e649859b3e6674a0f33e362a588603e3da44680f7ff"), looks := false }, kinds := [], alts := [], laidByText := true, laidKinds := [.data, .data, .data, .data, .data], laidTests := true, laidLooks := .later }
def RollWhateverUptoCardSaid : Prop := Claim7.holds Tryz.pinned (.plain (OpenSpec.upto rollWhateverSpec)) rollWhateverUptoCard
end Rows
end Go.Proofs.YtlgbmjdlgjdolaaGreatDoor
