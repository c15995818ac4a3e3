/-
  DERIVED. GIVEN WITH THE SEED: THE CARDS: each row of YtlgbmjdlgjdolaaDoorRows.lean that lists a variable, with what it lists TIED to the program's text (the seventh form; the later family's looks); each row that meets fmt, with fmt's text TOLD by the authors' own Lean function (tested against real Go, not proved from fmt's source: count such statements apart). THE CARD IS WHAT COUNTS. Prove the row's statement (the work); the ties are given (YtlgbmjdlgjdolaaDoorTie.lean); close each card by the builder's one call (the guide's Derived/Test/ToyasCard.lean, 'card_holds'). Laid BY PROGRAM, IN A SANDBOX (cutbox-door.mjs). By AI agents, Wed Nov 11 2026. No macro, syntax, notation, axiom, sorry.
-/
import Derived.Test.YtlgbmjdlgjdolaaDoorRows
import GoSem.ClaimSeven
namespace Go.Proofs.YtlgbmjdlgjdolaaDoor
namespace Rows

/-- THE TIED CARD OF 'reveillelaw13.RollAsks'. -/
def rollAsksCard : Claim7 := { stood := { row := rollAsksRow, standIns := [], harness := (true, "a1e331de76d7606ae56f317b9c91268c06b25eb8e6c883ed89dc68816709b638"), looks := false }, kinds := [], alts := [], laidByText := true, laidKinds := [.data, .data, .data, .data, .data], laidTests := true, laidLooks := .later }
def RollAsksCardSaid : Prop := Claim7.holds Tryd.pinned (.plain (OpenSpec.ofChange rollAsksSpec)) rollAsksCard

/-- THE TIED CARD OF 'reveillelaw13.RollStands'. -/
def rollStandsCard : Claim7 := { stood := { row := rollStandsRow, standIns := [], harness := (true, "a1e331de76d7606ae56f317b9c91268c06b25eb8e6c883ed89dc68816709b638"), looks := false }, kinds := [], alts := [], laidByText := true, laidKinds := [.data, .data, .data, .data, .data], laidTests := true, laidLooks := .later }
def RollStandsCardSaid : Prop := Claim7.holds Tryd.pinned (.plain (OpenSpec.ofChange rollStandsSpec)) rollStandsCard

/-- THE TIED CARD OF 'reveillelaw13.RollPlan'. -/
def rollPlanCard : Claim7 := { stood := { row := rollPlanRow, standIns := [], harness := (true, "a1e331de76d7606ae56f317b9c91268c06b25eb8e6c883ed89dc68816709b638"), looks := false }, kinds := [], alts := [], laidByText := true, laidKinds := [.data, .data, .data, .data, .data], laidTests := true, laidLooks := .later }
def RollPlanCardSaid : Prop := Claim7.holds Tryd.pinned (.plain (OpenSpec.ofChange rollPlanSpec)) rollPlanCard

/-- THE TIED CARD OF 'reveillelaw13.RollKept'. -/
def rollKeptCard : Claim7 := { stood := { row := rollKeptRow, standIns := [], harness := (true, "a1e331de76d7606ae56f317b9c91268c06b25eb8e6c883ed89dc68816709b638"), looks := false }, kinds := [], alts := [], laidByText := true, laidKinds := [.data, .data, .data, .data, .data], laidTests := true, laidLooks := .later }
def RollKeptCardSaid : Prop := Claim7.holds Tryd.pinned (.plain (OpenSpec.ofChange rollKeptSpec)) rollKeptCard

/-- THE TIED CARD OF 'reveillelaw13.RollOthers'. -/
def rollOthersCard : Claim7 := { stood := { row := rollOthersRow, standIns := [], harness := (true, "a1e331de76d7606ae56f317b9c91268c06b25eb8e6c883ed89dc68816709b638"), looks := false }, kinds := [], alts := [], laidByText := true, laidKinds := [.data, .data, .data, .data, .data], laidTests := true, laidLooks := .later }
def RollOthersCardSaid : Prop := Claim7.holds Tryd.pinned (.plain (OpenSpec.ofChange rollOthersSpec)) rollOthersCard

/-- THE SECOND FORM's CARD OF 'reveillelaw13.RollAsks'. -/
def rollAsksUptoCard : Claim7 := { stood := { row := rollAsksUptoRow, standIns := [], harness := (true, "a1e331de76d7606ae56f317b9c91268c06b25eb8e6c883ed89dc68816709b638"), looks := false }, kinds := [], alts := [], laidByText := true, laidKinds := [.data, .data, .data, .data, .data], laidTests := true, laidLooks := .later }
def RollAsksUptoCardSaid : Prop := Claim7.holds Tryd.pinned (.plain (OpenSpec.upto rollAsksSpec)) rollAsksUptoCard

/-- THE SECOND FORM's CARD OF 'reveillelaw13.RollStands'. -/
def rollStandsUptoCard : Claim7 := { stood := { row := rollStandsUptoRow, standIns := [], harness := (true, "a1e331de76d7606ae56f317b9c91268c06b25eb8e6c883ed89dc68816709b638"), looks := false }, kinds := [], alts := [], laidByText := true, laidKinds := [.data, .data, .data, .data, .data], laidTests := true, laidLooks := .later }
def RollStandsUptoCardSaid : Prop := Claim7.holds Tryd.pinned (.plain (OpenSpec.upto rollStandsSpec)) rollStandsUptoCard

/-- THE SECOND FORM's CARD OF 'reveillelaw13.RollPlan'. -/
def rollPlanUptoCard : Claim7 := { stood := { row := rollPlanUptoRow, standIns := [], harness := (true, "a1e331de76d7606ae56f317b9c91268c06b25eb8e6c883ed89dc68816709b638"), looks := false }, kinds := [], alts := [], laidByText := true, laidKinds := [.data, .data, .data, .data, .data], laidTests := true, laidLooks := .later }
def RollPlanUptoCardSaid : Prop := Claim7.holds Tryd.pinned (.plain (OpenSpec.upto rollPlanSpec)) rollPlanUptoCard

/-- THE SECOND FORM's CARD OF 'reveillelaw13.RollKept'. -/
def rollKeptUptoCard : Claim7 := { stood := { row := rollKeptUptoRow, standIns := [], harness := (true, "a1e331de76d7606ae56f317b9c91268c06b25eb8e6c883ed89dc68816709b638"), looks := false }, kinds := [], alts := [], laidByText := true, laidKinds := [.data, .data, .data, .data, .data], laidTests := true, laidLooks := .later }
def RollKeptUptoCardSaid : Prop := Claim7.holds Tryd.pinned (.plain (OpenSpec.upto rollKeptSpec)) rollKeptUptoCard

/-- THE SECOND FORM's CARD OF 'reveillelaw13.RollOthers'. -/
def rollOthersUptoCard : Claim7 := { stood := { row := rollOthersUptoRow, standIns := [], harness := (true, "a1e331de76d7606ae56f317b9c91268c06b25eb8e6c883ed89dc68816709b638"), looks := false }, kinds := [], alts := [], laidByText := true, laidKinds := [.data, .data, .data, .data, .data], laidTests := true, laidLooks := .later }
def RollOthersUptoCardSaid : Prop := Claim7.holds Tryd.pinned (.plain (OpenSpec.upto rollOthersSpec)) rollOthersUptoCard
end Rows
end Go.Proofs.YtlgbmjdlgjdolaaDoor
