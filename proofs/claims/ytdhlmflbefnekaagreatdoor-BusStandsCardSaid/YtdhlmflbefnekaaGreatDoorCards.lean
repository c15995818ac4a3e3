/-
  DERIVED. GIVEN WITH THE SEED: THE CARDS: each row of YtdhlmflbefnekaaGreatDoorRows.lean that lists a variable, with what it lists TIED to the program's text (the seventh form; the later family's looks); each row that meets fmt, with fmt's text TOLD by the authors' own Lean function (tested against real Go, not proved from fmt's source: count such statements apart). THE CARD IS WHAT COUNTS. Prove the row's statement (the work); the ties are given (YtdhlmflbefnekaaGreatDoorTie.lean); close each card by the builder's one call (the guide's Derived/Test/ToyasCard.lean, 'card_holds'). Laid BY PROGRAM, IN A SANDBOX (cutbox-door.mjs). By AI agents, Wed Nov 11 2026. No macro, syntax, notation, axiom, sorry.
-/
import Derived.Test.YtdhlmflbefnekaaGreatDoorRows
import GoSem.ClaimSeven
namespace Go.Proofs.YtdhlmflbefnekaaGreatDoor
namespace Rows

/-- THE TIED CARD OF 'reveillelaw10.BusStands'. -/
def busStandsCard : Claim7 := { stood := { row := busStandsRow, standIns := [], harness := (true, "34dc83d24913622fca7161d44a235f55fb96ccb2f18402a75cf55810a4609c0e"), looks := false }, kinds := [], alts := [], laidByText := true, laidKinds := [.data, .data, .data], laidTests := true, laidLooks := .later }
def BusStandsCardSaid : Prop := Claim7.holds Tryz.pinned (.plain (OpenSpec.ofChange busStandsSpec)) busStandsCard

/-- THE SECOND FORM's CARD OF 'reveillelaw10.BusStands'. -/
def busStandsUptoCard : Claim7 := { stood := { row := busStandsUptoRow, standIns := [], harness := (true, "34dc83d24913622fca7161d44a235f55fb96ccb2f18402a75cf55810a4609c0e"), looks := false }, kinds := [], alts := [], laidByText := true, laidKinds := [.data, .data, .data], laidTests := true, laidLooks := .later }
def BusStandsUptoCardSaid : Prop := Claim7.holds Tryz.pinned (.plain (OpenSpec.upto busStandsSpec)) busStandsUptoCard
end Rows
end Go.Proofs.YtdhlmflbefnekaaGreatDoor
