/-
  NARROWER THAN 'FOR EVERY INPUT', by the rows' own cells (each row's printed sentence says how): SupplyMeets: laid · SupplyFits: laid · SupplyRamps: laid · SupplyNone: laid · SupplyAsks: laid · SupplyCards: laid · SupplyStands: laid.
  DERIVED. THE GIVEN ROWS OF THIS SEAT. 7 by the template 'for every input the law returns true; each argument reads behind the call as it read before'; 0 by the template 'total and deterministic' (their statements: YtnomamimpnogpaaDoorTotals.lean).
  GIVEN WITH THE SEED: the statements are not yours to turn. If you find one false, say at which input.
  Laid BY PROGRAM, IN A SANDBOX (cutbox-rows.mjs): the forced cells as the released guide's own fill.sh prints them over the translation a30020084119e0ef… (all of the seat's roots in one cut). By AI agents, Wed Nov 11 2026. No macro, syntax, notation, axiom, sorry.
-/
import Derived.Test.YtnomamimpnogpaaDoorChecked
import GoSem.Claim
import GoSem.ClaimJoined
import GoSem.ClaimMapViews
import Derived.JoinedTies
import Derived.KernelRfl
namespace Go.Proofs.YtnomamimpnogpaaDoor
/- THE CELL 'sum', in the pinned program and in every row, IS THE sha256 OF THE DUMP (.gsa) THAT YtnomamimpnogpaaDoorProg.lean LOADS. Nothing in Lean hashes anything: it is a label: what it is worth is what the hold of that sum in a sandbox is worth. -/
noncomputable def Tryd.pinned : Pinned := { name := "ytnomamimpnogpaadoor", sum := "a30020084119e0efa5aaf3e91d4aee807175cf76a2ce1dc2355223c38044c7ad", checked := Tryd.checked }
namespace Rows
def none {H : Type} : Left H := { results := [], args := [] }

/- WHAT THE LISTED PACKAGE-LEVEL VARIABLES READ AS WHEN THE CALL BEGINS. Each datum BY PROGRAM (the guide's laid-datum.mjs) off the statement by which the dump's own 'gosem.cut.vars' lays the variable. In a bare row this is a premise. The card (YtnomamimpnogpaaDoorCards.lean) ties it to the program's text. -/
def laid_reveille_supply_table {H : Type} : DataW H := .agg [.lit (.int .i64 800000), .lit (.int .i64 2312500), .lit (.int .i64 3325000), .lit (.int .i64 4337500), .lit (.int .i64 5350000), .lit (.int .i64 6362500), .lit (.int .i64 7375000), .lit (.int .i64 8387500), .lit (.int .i64 9400000), .lit (.int .i64 10412500), .lit (.int .i64 11425000), .lit (.int .i64 12437500), .lit (.int .i64 13450000), .lit (.int .i64 14462500), .lit (.int .i64 15475000), .lit (.int .i64 16487500), .lit (.int .i64 17500000), .lit (.int .i64 18512500), .lit (.int .i64 19525000), .lit (.int .i64 20537500), .lit (.int .i64 21550000), .lit (.int .i64 22562500), .lit (.int .i64 23575000), .lit (.int .i64 25000000)]
def laid_reveille_crystal_table {H : Type} : DataW H := .agg [.lit (.int .i64 32768), .lit (.int .i64 2000000), .lit (.int .i64 3000000), .lit (.int .i64 4000000), .lit (.int .i64 5000000), .lit (.int .i64 6000000), .lit (.int .i64 7000000), .lit (.int .i64 8000000), .lit (.int .i64 9000000), .lit (.int .i64 10000000), .lit (.int .i64 11000000), .lit (.int .i64 12000000), .lit (.int .i64 13000000), .lit (.int .i64 14000000), .lit (.int .i64 15000000), .lit (.int .i64 16000000), .lit (.int .i64 17000000), .lit (.int .i64 18000000), .lit (.int .i64 19000000), .lit (.int .i64 20000000), .lit (.int .i64 21000000), .lit (.int .i64 22000000), .lit (.int .i64 23000000), .lit (.int .i64 24000000), .lit (.int .i64 25000000), .lit (.int .i64 26000000), .lit (.int .i64 27000000), .lit (.int .i64 28000000), .lit (.int .i64 29000000), .lit (.int .i64 30000000), .lit (.int .i64 31000000), .lit (.int .i64 100000000)]

/-- 'reveillelaw09.SupplyMeets': WHATEVER THE INPUT: true; the input reads as it did. -/
def supplyMeetsSpec : ChangeSpec := { name := "supplyMeets", fn := fun _ => fun
  | [d] => { results := [.lit (.bool true)], args := [d] }
  | _ => none }
def supplyMeetsRow : OpenClaim := { program := "ytnomamimpnogpaadoor", sum := "a30020084119e0efa5aaf3e91d4aee807175cf76a2ce1dc2355223c38044c7ad", func := "reveille/reveillelaw09.SupplyMeets", spec := "supplyMeets", named := ["reveille/supply.table"], plainKeys := false, apart := false, laid := [("reveille/supply.table", laid_reveille_supply_table)] }
def SupplyMeetsSaid : Prop := supplyMeetsRow.holds Tryd.pinned (OpenSpec.ofChange supplyMeetsSpec)

/-- ITS FALSE NEIGHBOUR: 'it returns false'. Refute it at one input. -/
def supplyMeetsWrong : ChangeSpec := { name := "supplyMeets", fn := fun _ => fun
  | [d] => { results := [.lit (.bool false)], args := [d] }
  | _ => none }
def SupplyMeetsWrongFalsely : Prop := supplyMeetsRow.holds Tryd.pinned (OpenSpec.ofChange supplyMeetsWrong)

/-- 'reveillelaw09.SupplyFits': WHATEVER THE INPUT: true; the input reads as it did. -/
def supplyFitsSpec : ChangeSpec := { name := "supplyFits", fn := fun _ => fun
  | [d1, d2, d3] => { results := [.lit (.bool true)], args := [d1, d2, d3] }
  | _ => none }
def supplyFitsRow : OpenClaim := { program := "ytnomamimpnogpaadoor", sum := "a30020084119e0efa5aaf3e91d4aee807175cf76a2ce1dc2355223c38044c7ad", func := "reveille/reveillelaw09.SupplyFits", spec := "supplyFits", named := ["reveille/supply.table"], plainKeys := false, apart := false, laid := [("reveille/supply.table", laid_reveille_supply_table)] }
def SupplyFitsSaid : Prop := supplyFitsRow.holds Tryd.pinned (OpenSpec.ofChange supplyFitsSpec)

/-- ITS FALSE NEIGHBOUR: 'it returns false'. Refute it at one input. -/
def supplyFitsWrong : ChangeSpec := { name := "supplyFits", fn := fun _ => fun
  | [d1, d2, d3] => { results := [.lit (.bool false)], args := [d1, d2, d3] }
  | _ => none }
def SupplyFitsWrongFalsely : Prop := supplyFitsRow.holds Tryd.pinned (OpenSpec.ofChange supplyFitsWrong)

/-- 'reveillelaw09.SupplyRamps': WHATEVER THE INPUT: true; the input reads as it did. -/
def supplyRampsSpec : ChangeSpec := { name := "supplyRamps", fn := fun _ => fun
  | [d] => { results := [.lit (.bool true)], args := [d] }
  | _ => none }
def supplyRampsRow : OpenClaim := { program := "ytnomamimpnogpaadoor", sum := "a30020084119e0efa5aaf3e91d4aee807175cf76a2ce1dc2355223c38044c7ad", func := "reveille/reveillelaw09.SupplyRamps", spec := "supplyRamps", named := ["reveille/supply.table"], plainKeys := false, apart := false, laid := [("reveille/supply.table", laid_reveille_supply_table)] }
def SupplyRampsSaid : Prop := supplyRampsRow.holds Tryd.pinned (OpenSpec.ofChange supplyRampsSpec)

/-- ITS FALSE NEIGHBOUR: 'it returns false'. Refute it at one input. -/
def supplyRampsWrong : ChangeSpec := { name := "supplyRamps", fn := fun _ => fun
  | [d] => { results := [.lit (.bool false)], args := [d] }
  | _ => none }
def SupplyRampsWrongFalsely : Prop := supplyRampsRow.holds Tryd.pinned (OpenSpec.ofChange supplyRampsWrong)

/-- 'reveillelaw09.SupplyNone': WHATEVER THE INPUT: true; the input reads as it did. -/
def supplyNoneSpec : ChangeSpec := { name := "supplyNone", fn := fun _ => fun
  | [] => { results := [.lit (.bool true)], args := [] }
  | _ => none }
def supplyNoneRow : OpenClaim := { program := "ytnomamimpnogpaadoor", sum := "a30020084119e0efa5aaf3e91d4aee807175cf76a2ce1dc2355223c38044c7ad", func := "reveille/reveillelaw09.SupplyNone", spec := "supplyNone", named := ["reveille/supply.table"], plainKeys := false, apart := false, laid := [("reveille/supply.table", laid_reveille_supply_table)] }
def SupplyNoneSaid : Prop := supplyNoneRow.holds Tryd.pinned (OpenSpec.ofChange supplyNoneSpec)

/-- ITS FALSE NEIGHBOUR: 'it returns false'. Refute it at one input. -/
def supplyNoneWrong : ChangeSpec := { name := "supplyNone", fn := fun _ => fun
  | [] => { results := [.lit (.bool false)], args := [] }
  | _ => none }
def SupplyNoneWrongFalsely : Prop := supplyNoneRow.holds Tryd.pinned (OpenSpec.ofChange supplyNoneWrong)

/-- 'reveillelaw09.SupplyAsks': WHATEVER THE INPUT: true; the input reads as it did. -/
def supplyAsksSpec : ChangeSpec := { name := "supplyAsks", fn := fun _ => fun
  | [d] => { results := [.lit (.bool true)], args := [d] }
  | _ => none }
def supplyAsksRow : OpenClaim := { program := "ytnomamimpnogpaadoor", sum := "a30020084119e0efa5aaf3e91d4aee807175cf76a2ce1dc2355223c38044c7ad", func := "reveille/reveillelaw09.SupplyAsks", spec := "supplyAsks", inPlace := ["math.Float64bits", "math.Float64frombits"], named := ["reveille/supply.table"], plainKeys := false, apart := false, laid := [("reveille/supply.table", laid_reveille_supply_table)] }
def SupplyAsksSaid : Prop := supplyAsksRow.holds Tryd.pinned (OpenSpec.ofChange supplyAsksSpec)

/-- ITS FALSE NEIGHBOUR: 'it returns false'. Refute it at one input. -/
def supplyAsksWrong : ChangeSpec := { name := "supplyAsks", fn := fun _ => fun
  | [d] => { results := [.lit (.bool false)], args := [d] }
  | _ => none }
def SupplyAsksWrongFalsely : Prop := supplyAsksRow.holds Tryd.pinned (OpenSpec.ofChange supplyAsksWrong)

/-- 'reveillelaw09.SupplyCards': WHATEVER THE INPUT: true; the input reads as it did. -/
def supplyCardsSpec : ChangeSpec := { name := "supplyCards", fn := fun _ => fun
  | [] => { results := [.lit (.bool true)], args := [] }
  | _ => none }
def supplyCardsRow : OpenClaim := { program := "ytnomamimpnogpaadoor", sum := "a30020084119e0efa5aaf3e91d4aee807175cf76a2ce1dc2355223c38044c7ad", func := "reveille/reveillelaw09.SupplyCards", spec := "supplyCards", inPlace := ["internal/bytealg.IndexByteString", "internal/bytealg.IndexString"], unfollowed := true, recurses := true, named := ["reveille/supply.table", "internal/bytealg.MaxLen"], plainKeys := false, apart := false, laid := [("reveille/supply.table", laid_reveille_supply_table)] }
def SupplyCardsSaid : Prop := supplyCardsRow.holds Tryd.pinned (OpenSpec.ofChange supplyCardsSpec)

/-- ITS FALSE NEIGHBOUR: 'it returns false'. Refute it at one input. -/
def supplyCardsWrong : ChangeSpec := { name := "supplyCards", fn := fun _ => fun
  | [] => { results := [.lit (.bool false)], args := [] }
  | _ => none }
def SupplyCardsWrongFalsely : Prop := supplyCardsRow.holds Tryd.pinned (OpenSpec.ofChange supplyCardsWrong)

/-- 'reveillelaw09.SupplyStands': WHATEVER THE INPUT: true; the input reads as it did. -/
def supplyStandsSpec : ChangeSpec := { name := "supplyStands", fn := fun _ => fun
  | [] => { results := [.lit (.bool true)], args := [] }
  | _ => none }
def supplyStandsRow : OpenClaim := { program := "ytnomamimpnogpaadoor", sum := "a30020084119e0efa5aaf3e91d4aee807175cf76a2ce1dc2355223c38044c7ad", func := "reveille/reveillelaw09.SupplyStands", spec := "supplyStands", inPlace := ["internal/bytealg.IndexByteString", "internal/bytealg.IndexString"], unfollowed := true, recurses := true, named := ["reveille/supply.table", "reveille/crystal.table", "internal/bytealg.MaxLen"], plainKeys := false, apart := false, laid := [("reveille/crystal.table", laid_reveille_crystal_table), ("reveille/supply.table", laid_reveille_supply_table)] }
def SupplyStandsSaid : Prop := supplyStandsRow.holds Tryd.pinned (OpenSpec.ofChange supplyStandsSpec)

/-- ITS FALSE NEIGHBOUR: 'it returns false'. Refute it at one input. -/
def supplyStandsWrong : ChangeSpec := { name := "supplyStands", fn := fun _ => fun
  | [] => { results := [.lit (.bool false)], args := [] }
  | _ => none }
def SupplyStandsWrongFalsely : Prop := supplyStandsRow.holds Tryd.pinned (OpenSpec.ofChange supplyStandsWrong)

/- THE SECOND FORM. 'bulk': how many values and letters a reading holds, each counted each time it is reached (what is shared counts as often as it is met; a slice's spare places count too). A statement '..UptoSaid' is the law's where the arguments, and the package variables that the reading takes, are together of bulk at most 1048576: NARROWER than '..Said'. Prove '..Said' where nothing that the law and all that it calls make is longer than what came in: it says more and counts as full. Else prove '..UptoSaid'. A law counts once. -/
mutual
def uptoBulk {H : Type} : DataW H → Nat
  | .lit (.string bytes) => bytes.length + 1
  | .lit _ => 1
  | .nil => 1
  | .ptr d => uptoBulk d + 1
  | .slice elems spare => uptoBulkAll elems + uptoBulkAll spare + 1
  | .agg parts => uptoBulkAll parts + 1
  | .iface _ d => uptoBulk d + 1
  | .map entries => uptoBulkEntries entries + 1
  | .held _ => 1
def uptoBulkAll {H : Type} : List (DataW H) → Nat
  | [] => 0
  | d :: r => uptoBulk d + uptoBulkAll r
def uptoBulkEntries {H : Type} : List (Lit × DataW H) → Nat
  | [] => 0
  | x :: r => uptoBulkEntry x + uptoBulkEntries r
def uptoBulkEntry {H : Type} : Lit × DataW H → Nat
  | (.string bytes, d) => bytes.length + uptoBulk d + 1
  | (_, d) => uptoBulk d + 1
 end
def uptoSmall : (H : Type) → List (DataW H) → Bool := fun _ ds => decide (uptoBulkAll ds ≤ 1048576)
def OpenSpec.upto (s : _root_.Go.ChangeSpec) : _root_.Go.OpenSpec := { _root_.Go.OpenSpec.ofChange s with cond := some uptoSmall }

/-- 'reveillelaw09.SupplyMeets', WHERE WHAT IT READS IS OF BULK AT MOST 1048576: true; the input reads as it did. -/
def supplyMeetsUptoRow : OpenClaim := { program := "ytnomamimpnogpaadoor", sum := "a30020084119e0efa5aaf3e91d4aee807175cf76a2ce1dc2355223c38044c7ad", func := "reveille/reveillelaw09.SupplyMeets", spec := "supplyMeets", named := ["reveille/supply.table"], plainKeys := false, apart := false, laid := [("reveille/supply.table", laid_reveille_supply_table)], narrowed := true }
def SupplyMeetsUptoSaid : Prop := supplyMeetsUptoRow.holds Tryd.pinned (OpenSpec.upto supplyMeetsSpec)

/-- 'reveillelaw09.SupplyFits', WHERE WHAT IT READS IS OF BULK AT MOST 1048576: true; the input reads as it did. -/
def supplyFitsUptoRow : OpenClaim := { program := "ytnomamimpnogpaadoor", sum := "a30020084119e0efa5aaf3e91d4aee807175cf76a2ce1dc2355223c38044c7ad", func := "reveille/reveillelaw09.SupplyFits", spec := "supplyFits", named := ["reveille/supply.table"], plainKeys := false, apart := false, laid := [("reveille/supply.table", laid_reveille_supply_table)], narrowed := true }
def SupplyFitsUptoSaid : Prop := supplyFitsUptoRow.holds Tryd.pinned (OpenSpec.upto supplyFitsSpec)

/-- 'reveillelaw09.SupplyRamps', WHERE WHAT IT READS IS OF BULK AT MOST 1048576: true; the input reads as it did. -/
def supplyRampsUptoRow : OpenClaim := { program := "ytnomamimpnogpaadoor", sum := "a30020084119e0efa5aaf3e91d4aee807175cf76a2ce1dc2355223c38044c7ad", func := "reveille/reveillelaw09.SupplyRamps", spec := "supplyRamps", named := ["reveille/supply.table"], plainKeys := false, apart := false, laid := [("reveille/supply.table", laid_reveille_supply_table)], narrowed := true }
def SupplyRampsUptoSaid : Prop := supplyRampsUptoRow.holds Tryd.pinned (OpenSpec.upto supplyRampsSpec)

/-- 'reveillelaw09.SupplyNone', WHERE WHAT IT READS IS OF BULK AT MOST 1048576: true; the input reads as it did. -/
def supplyNoneUptoRow : OpenClaim := { program := "ytnomamimpnogpaadoor", sum := "a30020084119e0efa5aaf3e91d4aee807175cf76a2ce1dc2355223c38044c7ad", func := "reveille/reveillelaw09.SupplyNone", spec := "supplyNone", named := ["reveille/supply.table"], plainKeys := false, apart := false, laid := [("reveille/supply.table", laid_reveille_supply_table)], narrowed := true }
def SupplyNoneUptoSaid : Prop := supplyNoneUptoRow.holds Tryd.pinned (OpenSpec.upto supplyNoneSpec)

/-- 'reveillelaw09.SupplyAsks', WHERE WHAT IT READS IS OF BULK AT MOST 1048576: true; the input reads as it did. -/
def supplyAsksUptoRow : OpenClaim := { program := "ytnomamimpnogpaadoor", sum := "a30020084119e0efa5aaf3e91d4aee807175cf76a2ce1dc2355223c38044c7ad", func := "reveille/reveillelaw09.SupplyAsks", spec := "supplyAsks", inPlace := ["math.Float64bits", "math.Float64frombits"], named := ["reveille/supply.table"], plainKeys := false, apart := false, laid := [("reveille/supply.table", laid_reveille_supply_table)], narrowed := true }
def SupplyAsksUptoSaid : Prop := supplyAsksUptoRow.holds Tryd.pinned (OpenSpec.upto supplyAsksSpec)

/-- 'reveillelaw09.SupplyCards', WHERE WHAT IT READS IS OF BULK AT MOST 1048576: true; the input reads as it did. -/
def supplyCardsUptoRow : OpenClaim := { program := "ytnomamimpnogpaadoor", sum := "a30020084119e0efa5aaf3e91d4aee807175cf76a2ce1dc2355223c38044c7ad", func := "reveille/reveillelaw09.SupplyCards", spec := "supplyCards", inPlace := ["internal/bytealg.IndexByteString", "internal/bytealg.IndexString"], unfollowed := true, recurses := true, named := ["reveille/supply.table", "internal/bytealg.MaxLen"], plainKeys := false, apart := false, laid := [("reveille/supply.table", laid_reveille_supply_table)], narrowed := true }
def SupplyCardsUptoSaid : Prop := supplyCardsUptoRow.holds Tryd.pinned (OpenSpec.upto supplyCardsSpec)

/-- 'reveillelaw09.SupplyStands', WHERE WHAT IT READS IS OF BULK AT MOST 1048576: true; the input reads as it did. -/
def supplyStandsUptoRow : OpenClaim := { program := "ytnomamimpnogpaadoor", sum := "a30020084119e0efa5aaf3e91d4aee807175cf76a2ce1dc2355223c38044c7ad", func := "reveille/reveillelaw09.SupplyStands", spec := "supplyStands", inPlace := ["internal/bytealg.IndexByteString", "internal/bytealg.IndexString"], unfollowed := true, recurses := true, named := ["reveille/supply.table", "reveille/crystal.table", "internal/bytealg.MaxLen"], plainKeys := false, apart := false, laid := [("reveille/crystal.table", laid_reveille_crystal_table), ("reveille/supply.table", laid_reveille_supply_table)], narrowed := true }
def SupplyStandsUptoSaid : Prop := supplyStandsUptoRow.holds Tryd.pinned (OpenSpec.upto supplyStandsSpec)

end Rows
end Go.Proofs.YtnomamimpnogpaaDoor
