/-
  NARROWER THAN 'FOR EVERY INPUT', by the rows' own cells (each row's printed sentence says how): BusTable: laid · BusAsks: laid · BusOrders: laid · BusParts: laid · BusTurns: laid · BusPlaces: laid.
  DERIVED. THE GIVEN ROWS OF THIS SEAT. 6 by the template 'for every input the law returns true; each argument reads behind the call as it read before'; 0 by the template 'total and deterministic' (their statements: YtdhlmflbefnekaaDoorTotals.lean).
  GIVEN WITH THE SEED: the statements are not yours to turn. If you find one false, say at which input.
  Laid BY PROGRAM, IN A SANDBOX (cutbox-rows.mjs): the forced cells as the released guide's own fill.sh prints them over the translation 074d9df1797f5746… (all of the seat's roots in one cut). By AI agents, Wed Nov 11 2026. No macro, syntax, notation, axiom, sorry.
-/
import Derived.Test.YtdhlmflbefnekaaDoorChecked
import GoSem.Claim
import GoSem.ClaimJoined
import GoSem.ClaimMapViews
import Derived.JoinedTies
import Derived.KernelRfl
namespace Go.Proofs.YtdhlmflbefnekaaDoor
/- THE CELL 'sum', in the pinned program and in every row, IS THE sha256 OF THE DUMP (.gsa) THAT YtdhlmflbefnekaaDoorProg.lean LOADS. Nothing in Lean hashes anything: it is a label: what it is worth is what the hold of that sum in a sandbox is worth. -/
noncomputable def Tryd.pinned : Pinned := { name := "ytdhlmflbefnekaadoor", sum := "074d9df1797f57462118cd48610e5fa81633f84e0c3b4293f012669d0323fd0b", checked := Tryd.checked }
namespace Rows
def none {H : Type} : Left H := { results := [], args := [] }

/- WHAT THE LISTED PACKAGE-LEVEL VARIABLES READ AS WHEN THE CALL BEGINS. Each datum BY PROGRAM (the guide's laid-datum.mjs) off the statement by which the dump's own 'gosem.cut.vars' lays the variable. In a bare row this is a premise. The card (YtdhlmflbefnekaaDoorCards.lean) ties it to the program's text. -/
def laid_reveille_bus_table {H : Type} : DataW H := .agg [.lit (.int .i64 271672320), .lit (.int .i64 279750992), .lit (.int .i64 284866528), .lit (.int .i64 289982064), .lit (.int .i64 295097600), .lit (.int .i64 300213136), .lit (.int .i64 305328672), .lit (.int .i64 310444208), .lit (.int .i64 315559744), .lit (.int .i64 320675280), .lit (.int .i64 325790816), .lit (.int .i64 330906352), .lit (.int .i64 336021888), .lit (.int .i64 341137424), .lit (.int .i64 346252960), .lit (.int .i64 351368496), .lit (.int .i64 356484032), .lit (.int .i64 361599568), .lit (.int .i64 366715104), .lit (.int .i64 411830640)]

/-- 'reveillelaw10.BusTable': WHATEVER THE INPUT: true; the input reads as it did. -/
def busTableSpec : ChangeSpec := { name := "busTable", fn := fun _ => fun
  | [] => { results := [.lit (.bool true)], args := [] }
  | _ => none }
def busTableRow : OpenClaim := { program := "ytdhlmflbefnekaadoor", sum := "074d9df1797f57462118cd48610e5fa81633f84e0c3b4293f012669d0323fd0b", func := "reveille/reveillelaw10.BusTable", spec := "busTable", named := ["reveille/bus.table"], apart := false, laid := [("reveille/bus.table", laid_reveille_bus_table)] }
def BusTableSaid : Prop := busTableRow.holds Tryd.pinned (OpenSpec.ofChange busTableSpec)

/-- ITS FALSE NEIGHBOUR: 'it returns false'. Refute it at one input. -/
def busTableWrong : ChangeSpec := { name := "busTable", fn := fun _ => fun
  | [] => { results := [.lit (.bool false)], args := [] }
  | _ => none }
def BusTableWrongFalsely : Prop := busTableRow.holds Tryd.pinned (OpenSpec.ofChange busTableWrong)

/-- 'reveillelaw10.BusAsks': WHATEVER THE INPUT: true; the input reads as it did. -/
def busAsksSpec : ChangeSpec := { name := "busAsks", fn := fun _ => fun
  | [d1, d2, d3, d4] => { results := [.lit (.bool true)], args := [d1, d2, d3, d4] }
  | _ => none }
def busAsksRow : OpenClaim := { program := "ytdhlmflbefnekaadoor", sum := "074d9df1797f57462118cd48610e5fa81633f84e0c3b4293f012669d0323fd0b", func := "reveille/reveillelaw10.BusAsks", spec := "busAsks", named := ["reveille/bus.table"], apart := false, laid := [("reveille/bus.table", laid_reveille_bus_table)] }
def BusAsksSaid : Prop := busAsksRow.holds Tryd.pinned (OpenSpec.ofChange busAsksSpec)

/-- ITS FALSE NEIGHBOUR: 'it returns false'. Refute it at one input. -/
def busAsksWrong : ChangeSpec := { name := "busAsks", fn := fun _ => fun
  | [d1, d2, d3, d4] => { results := [.lit (.bool false)], args := [d1, d2, d3, d4] }
  | _ => none }
def BusAsksWrongFalsely : Prop := busAsksRow.holds Tryd.pinned (OpenSpec.ofChange busAsksWrong)

/-- 'reveillelaw10.BusOrders': WHATEVER THE INPUT: true; the input reads as it did. -/
def busOrdersSpec : ChangeSpec := { name := "busOrders", fn := fun _ => fun
  | [d1, d2] => { results := [.lit (.bool true)], args := [d1, d2] }
  | _ => none }
def busOrdersRow : OpenClaim := { program := "ytdhlmflbefnekaadoor", sum := "074d9df1797f57462118cd48610e5fa81633f84e0c3b4293f012669d0323fd0b", func := "reveille/reveillelaw10.BusOrders", spec := "busOrders", unfollowed := true, recurses := true, named := ["reveille/bus.table"], apart := false, laid := [("reveille/bus.table", laid_reveille_bus_table)] }
def BusOrdersSaid : Prop := busOrdersRow.holds Tryd.pinned (OpenSpec.ofChange busOrdersSpec)

/-- ITS FALSE NEIGHBOUR: 'it returns false'. Refute it at one input. -/
def busOrdersWrong : ChangeSpec := { name := "busOrders", fn := fun _ => fun
  | [d1, d2] => { results := [.lit (.bool false)], args := [d1, d2] }
  | _ => none }
def BusOrdersWrongFalsely : Prop := busOrdersRow.holds Tryd.pinned (OpenSpec.ofChange busOrdersWrong)

/-- 'reveillelaw10.BusParts': WHATEVER THE INPUT: true; the input reads as it did. -/
def busPartsSpec : ChangeSpec := { name := "busParts", fn := fun _ => fun
  | [d1, d2] => { results := [.lit (.bool true)], args := [d1, d2] }
  | _ => none }
def busPartsRow : OpenClaim := { program := "ytdhlmflbefnekaadoor", sum := "074d9df1797f57462118cd48610e5fa81633f84e0c3b4293f012669d0323fd0b", func := "reveille/reveillelaw10.BusParts", spec := "busParts", unfollowed := true, recurses := true, named := ["math/bits.divideError", "math/bits.overflowError", "reveille/bus.table"], apart := false, laid := [("reveille/bus.table", laid_reveille_bus_table)] }
def BusPartsSaid : Prop := busPartsRow.holds Tryd.pinned (OpenSpec.ofChange busPartsSpec)

/-- ITS FALSE NEIGHBOUR: 'it returns false'. Refute it at one input. -/
def busPartsWrong : ChangeSpec := { name := "busParts", fn := fun _ => fun
  | [d1, d2] => { results := [.lit (.bool false)], args := [d1, d2] }
  | _ => none }
def BusPartsWrongFalsely : Prop := busPartsRow.holds Tryd.pinned (OpenSpec.ofChange busPartsWrong)

/-- 'reveillelaw10.BusTurns': WHATEVER THE INPUT: true; the input reads as it did. -/
def busTurnsSpec : ChangeSpec := { name := "busTurns", fn := fun _ => fun
  | [d] => { results := [.lit (.bool true)], args := [d] }
  | _ => none }
def busTurnsRow : OpenClaim := { program := "ytdhlmflbefnekaadoor", sum := "074d9df1797f57462118cd48610e5fa81633f84e0c3b4293f012669d0323fd0b", func := "reveille/reveillelaw10.BusTurns", spec := "busTurns", unfollowed := true, recurses := true, named := ["math/bits.divideError", "math/bits.overflowError", "reveille/bus.table"], apart := false, laid := [("reveille/bus.table", laid_reveille_bus_table)] }
def BusTurnsSaid : Prop := busTurnsRow.holds Tryd.pinned (OpenSpec.ofChange busTurnsSpec)

/-- ITS FALSE NEIGHBOUR: 'it returns false'. Refute it at one input. -/
def busTurnsWrong : ChangeSpec := { name := "busTurns", fn := fun _ => fun
  | [d] => { results := [.lit (.bool false)], args := [d] }
  | _ => none }
def BusTurnsWrongFalsely : Prop := busTurnsRow.holds Tryd.pinned (OpenSpec.ofChange busTurnsWrong)

/-- 'reveillelaw10.BusPlaces': WHATEVER THE INPUT: true; the input reads as it did. -/
def busPlacesSpec : ChangeSpec := { name := "busPlaces", fn := fun _ => fun
  | [d1, d2, d3] => { results := [.lit (.bool true)], args := [d1, d2, d3] }
  | _ => none }
def busPlacesRow : OpenClaim := { program := "ytdhlmflbefnekaadoor", sum := "074d9df1797f57462118cd48610e5fa81633f84e0c3b4293f012669d0323fd0b", func := "reveille/reveillelaw10.BusPlaces", spec := "busPlaces", unfollowed := true, recurses := true, named := ["math/bits.divideError", "math/bits.overflowError", "reveille/bus.table"], apart := false, laid := [("reveille/bus.table", laid_reveille_bus_table)] }
def BusPlacesSaid : Prop := busPlacesRow.holds Tryd.pinned (OpenSpec.ofChange busPlacesSpec)

/-- ITS FALSE NEIGHBOUR: 'it returns false'. Refute it at one input. -/
def busPlacesWrong : ChangeSpec := { name := "busPlaces", fn := fun _ => fun
  | [d1, d2, d3] => { results := [.lit (.bool false)], args := [d1, d2, d3] }
  | _ => none }
def BusPlacesWrongFalsely : Prop := busPlacesRow.holds Tryd.pinned (OpenSpec.ofChange busPlacesWrong)

/- THE SECOND FORM. 'bulk': how many values and letters a reading holds, each counted each time it is reached (what is shared counts as often as it is met; a slice's spare places count too). A statement '..UptoSaid' is the law's where the arguments, and the package variables that the reading takes, are together of bulk at most 1048576: NARROWER than '..Said'. Prove '..Said' where nothing that the law and all that it calls make is longer than what came in: it says more and counts as full. Else prove '..UptoSaid'. A law counts once. -/
mutual
def uptoBulk {H : Type} : DataW H → Nat
  | .lit (.string bytes) => bytes.length + 1
  | .lit _ => 1
  | .nil => 1
  | .ptr d => uptoBulk d + 1
  | .slice elems spare => uptoBulkAll elems + uptoBulkAll spare + 1
  | .agg parts => uptoBulkAll parts + 1
  | .iface _ d => uptoBulk d + 1
  | .map entries => uptoBulkEntries entries + 1
  | .held _ => 1
def uptoBulkAll {H : Type} : List (DataW H) → Nat
  | [] => 0
  | d :: r => uptoBulk d + uptoBulkAll r
def uptoBulkEntries {H : Type} : List (Lit × DataW H) → Nat
  | [] => 0
  | x :: r => uptoBulkEntry x + uptoBulkEntries r
def uptoBulkEntry {H : Type} : Lit × DataW H → Nat
  | (.string bytes, d) => bytes.length + uptoBulk d + 1
  | (_, d) => uptoBulk d + 1
 end
def uptoSmall : (H : Type) → List (DataW H) → Bool := fun _ ds => decide (uptoBulkAll ds ≤ 1048576)
def OpenSpec.upto (s : _root_.Go.ChangeSpec) : _root_.Go.OpenSpec := { _root_.Go.OpenSpec.ofChange s with cond := some uptoSmall }

/-- 'reveillelaw10.BusTable', WHERE WHAT IT READS IS OF BULK AT MOST 1048576: true; the input reads as it did. -/
def busTableUptoRow : OpenClaim := { program := "ytdhlmflbefnekaadoor", sum := "074d9df1797f57462118cd48610e5fa81633f84e0c3b4293f012669d0323fd0b", func := "reveille/reveillelaw10.BusTable", spec := "busTable", named := ["reveille/bus.table"], apart := false, laid := [("reveille/bus.table", laid_reveille_bus_table)], narrowed := true }
def BusTableUptoSaid : Prop := busTableUptoRow.holds Tryd.pinned (OpenSpec.upto busTableSpec)

/-- 'reveillelaw10.BusAsks', WHERE WHAT IT READS IS OF BULK AT MOST 1048576: true; the input reads as it did. -/
def busAsksUptoRow : OpenClaim := { program := "ytdhlmflbefnekaadoor", sum := "074d9df1797f57462118cd48610e5fa81633f84e0c3b4293f012669d0323fd0b", func := "reveille/reveillelaw10.BusAsks", spec := "busAsks", named := ["reveille/bus.table"], apart := false, laid := [("reveille/bus.table", laid_reveille_bus_table)], narrowed := true }
def BusAsksUptoSaid : Prop := busAsksUptoRow.holds Tryd.pinned (OpenSpec.upto busAsksSpec)

/-- 'reveillelaw10.BusOrders', WHERE WHAT IT READS IS OF BULK AT MOST 1048576: true; the input reads as it did. -/
def busOrdersUptoRow : OpenClaim := { program := "ytdhlmflbefnekaadoor", sum := "074d9df1797f57462118cd48610e5fa81633f84e0c3b4293f012669d0323fd0b", func := "reveille/reveillelaw10.BusOrders", spec := "busOrders", unfollowed := true, recurses := true, named := ["reveille/bus.table"], apart := false, laid := [("reveille/bus.table", laid_reveille_bus_table)], narrowed := true }
def BusOrdersUptoSaid : Prop := busOrdersUptoRow.holds Tryd.pinned (OpenSpec.upto busOrdersSpec)

/-- 'reveillelaw10.BusParts', WHERE WHAT IT READS IS OF BULK AT MOST 1048576: true; the input reads as it did. -/
def busPartsUptoRow : OpenClaim := { program := "ytdhlmflbefnekaadoor", sum := "074d9df1797f57462118cd48610e5fa81633f84e0c3b4293f012669d0323fd0b", func := "reveille/reveillelaw10.BusParts", spec := "busParts", unfollowed := true, recurses := true, named := ["math/bits.divideError", "math/bits.overflowError", "reveille/bus.table"], apart := false, laid := [("reveille/bus.table", laid_reveille_bus_table)], narrowed := true }
def BusPartsUptoSaid : Prop := busPartsUptoRow.holds Tryd.pinned (OpenSpec.upto busPartsSpec)

/-- 'reveillelaw10.BusTurns', WHERE WHAT IT READS IS OF BULK AT MOST 1048576: true; the input reads as it did. -/
def busTurnsUptoRow : OpenClaim := { program := "ytdhlmflbefnekaadoor", sum := "074d9df1797f57462118cd48610e5fa81633f84e0c3b4293f012669d0323fd0b", func := "reveille/reveillelaw10.BusTurns", spec := "busTurns", unfollowed := true, recurses := true, named := ["math/bits.divideError", "math/bits.overflowError", "reveille/bus.table"], apart := false, laid := [("reveille/bus.table", laid_reveille_bus_table)], narrowed := true }
def BusTurnsUptoSaid : Prop := busTurnsUptoRow.holds Tryd.pinned (OpenSpec.upto busTurnsSpec)

/-- 'reveillelaw10.BusPlaces', WHERE WHAT IT READS IS OF BULK AT MOST 1048576: true; the input reads as it did. -/
def busPlacesUptoRow : OpenClaim := { program := "ytdhlmflbefnekaadoor", sum := "074d9df1797f57462118cd48610e5fa81633f84e0c3b4293f012669d0323fd0b", func := "reveille/reveillelaw10.BusPlaces", spec := "busPlaces", unfollowed := true, recurses := true, named := ["math/bits.divideError", "math/bits.overflowError", "reveille/bus.table"], apart := false, laid := [("reveille/bus.table", laid_reveille_bus_table)], narrowed := true }
def BusPlacesUptoSaid : Prop := busPlacesUptoRow.holds Tryd.pinned (OpenSpec.upto busPlacesSpec)

end Rows
end Go.Proofs.YtdhlmflbefnekaaDoor
