/-
  NARROWER THAN 'FOR EVERY INPUT', by the rows' own cells (each row's printed sentence says how): RollAsks: laid · RollStands: laid · RollPlan: laid · RollKept: laid · RollOthers: laid.
  DERIVED. THE GIVEN ROWS OF THIS SEAT. 5 by the template 'for every input the law returns true; each argument reads behind the call as it read before'; 0 by the template 'total and deterministic' (their statements: YtlgbmjdlgjdolaaDoorTotals.lean).
  GIVEN WITH THE SEED: the statements are not yours to turn. If you find one false, say at which input.
  Laid BY PROGRAM, IN A SANDBOX (cutbox-rows.mjs): the forced cells as the released guide's own fill.sh prints them over the translation 71a3dfeb3017d8ee… (all of the seat's roots in one cut). By AI agents, Wed Nov 11 2026. No macro, syntax, notation, axiom, sorry.
-/
import Derived.Test.YtlgbmjdlgjdolaaDoorChecked
import GoSem.Claim
import GoSem.ClaimJoined
import GoSem.ClaimMapViews
import Derived.JoinedTies
import Derived.KernelRfl
namespace Go.Proofs.YtlgbmjdlgjdolaaDoor
/- THE CELL 'sum', in the pinned program and in every row, IS THE sha256 OF THE DUMP (.gsa) THAT YtlgbmjdlgjdolaaDoorProg.lean LOADS. Nothing in Lean hashes anything: it is a label: what it is worth is what the hold of that sum in a sandbox is worth. -/
noncomputable def Tryd.pinned : Pinned := { name := "ytlgbmjdlgjdolaadoor", sum := "71a3dfeb3017d8ee889be9186d63cbcef0b5b719556033c09c31853b4fb43889", checked := Tryd.checked }
namespace Rows
def none {H : Type} : Left H := { results := [], args := [] }

/- WHAT THE LISTED PACKAGE-LEVEL VARIABLES READ AS WHEN THE CALL BEGINS. Each datum BY PROGRAM (the guide's laid-datum.mjs) off the statement by which the dump's own 'gosem.cut.vars' lays the variable. In a bare row this is a premise. The card (YtlgbmjdlgjdolaaDoorCards.lean) ties it to the program's text. -/
def laid_reveille_bus_table {H : Type} : DataW H := .agg [.lit (.int .i64 271672320), .lit (.int .i64 279750992), .lit (.int .i64 284866528), .lit (.int .i64 289982064), .lit (.int .i64 295097600), .lit (.int .i64 300213136), .lit (.int .i64 305328672), .lit (.int .i64 310444208), .lit (.int .i64 315559744), .lit (.int .i64 320675280), .lit (.int .i64 325790816), .lit (.int .i64 330906352), .lit (.int .i64 336021888), .lit (.int .i64 341137424), .lit (.int .i64 346252960), .lit (.int .i64 351368496), .lit (.int .i64 356484032), .lit (.int .i64 361599568), .lit (.int .i64 366715104), .lit (.int .i64 411830640)]
def laid_reveille_crystal_table {H : Type} : DataW H := .agg [.lit (.int .i64 32768), .lit (.int .i64 2000000), .lit (.int .i64 3000000), .lit (.int .i64 4000000), .lit (.int .i64 5000000), .lit (.int .i64 6000000), .lit (.int .i64 7000000), .lit (.int .i64 8000000), .lit (.int .i64 9000000), .lit (.int .i64 10000000), .lit (.int .i64 11000000), .lit (.int .i64 12000000), .lit (.int .i64 13000000), .lit (.int .i64 14000000), .lit (.int .i64 15000000), .lit (.int .i64 16000000), .lit (.int .i64 17000000), .lit (.int .i64 18000000), .lit (.int .i64 19000000), .lit (.int .i64 20000000), .lit (.int .i64 21000000), .lit (.int .i64 22000000), .lit (.int .i64 23000000), .lit (.int .i64 24000000), .lit (.int .i64 25000000), .lit (.int .i64 26000000), .lit (.int .i64 27000000), .lit (.int .i64 28000000), .lit (.int .i64 29000000), .lit (.int .i64 30000000), .lit (.int .i64 31000000), .lit (.int .i64 100000000)]
def laid_reveille_radio_table {H : Type} : DataW H := .agg [.lit (.int .i64 432920000), .lit (.int .i64 444020992), .lit (.int .i64 451206528), .lit (.int .i64 458392064), .lit (.int .i64 465577600), .lit (.int .i64 472763136), .lit (.int .i64 479948672), .lit (.int .i64 487134208), .lit (.int .i64 494319744), .lit (.int .i64 501505280), .lit (.int .i64 508690816), .lit (.int .i64 515876352), .lit (.int .i64 523061888), .lit (.int .i64 530247424), .lit (.int .i64 537432960), .lit (.int .i64 545618496), .lit (.int .i64 518134032), .lit (.int .i64 526269568), .lit (.int .i64 533455104), .lit (.int .i64 580610000)]
def laid_reveille_sensor_table {H : Type} : DataW H := .agg [.lit (.int .i64 625000), .lit (.int .i64 2122500), .lit (.int .i64 3145000), .lit (.int .i64 4167500), .lit (.int .i64 5190000), .lit (.int .i64 6212500), .lit (.int .i64 7235000), .lit (.int .i64 8257500), .lit (.int .i64 9280000), .lit (.int .i64 10302500), .lit (.int .i64 11325000), .lit (.int .i64 12347500), .lit (.int .i64 13370000), .lit (.int .i64 14392500), .lit (.int .i64 15415000), .lit (.int .i64 16937500)]
def laid_reveille_supply_table {H : Type} : DataW H := .agg [.lit (.int .i64 800000), .lit (.int .i64 2312500), .lit (.int .i64 3325000), .lit (.int .i64 4337500), .lit (.int .i64 5350000), .lit (.int .i64 6362500), .lit (.int .i64 7375000), .lit (.int .i64 8387500), .lit (.int .i64 9400000), .lit (.int .i64 10412500), .lit (.int .i64 11425000), .lit (.int .i64 12437500), .lit (.int .i64 13450000), .lit (.int .i64 14462500), .lit (.int .i64 15475000), .lit (.int .i64 16487500), .lit (.int .i64 17500000), .lit (.int .i64 18512500), .lit (.int .i64 19525000), .lit (.int .i64 20537500), .lit (.int .i64 21550000), .lit (.int .i64 22562500), .lit (.int .i64 23575000), .lit (.int .i64 25000000)]

/-- 'reveillelaw13.RollAsks': WHATEVER THE INPUT: true; the input reads as it did. -/
def rollAsksSpec : ChangeSpec := { name := "rollAsks", fn := fun _ => fun
  | [d] => { results := [.lit (.bool true)], args := [d] }
  | _ => none }
def rollAsksRow : OpenClaim := { program := "ytlgbmjdlgjdolaadoor", sum := "71a3dfeb3017d8ee889be9186d63cbcef0b5b719556033c09c31853b4fb43889", func := "reveille/reveillelaw13.RollAsks", spec := "rollAsks", unfollowed := true, recurses := true, named := ["reveille/crystal.table", "reveille/supply.table", "reveille/bus.table", "reveille/sensor.table", "reveille/radio.table"], plainKeys := false, apart := false, laid := [("reveille/bus.table", laid_reveille_bus_table), ("reveille/crystal.table", laid_reveille_crystal_table), ("reveille/radio.table", laid_reveille_radio_table), ("reveille/sensor.table", laid_reveille_sensor_table), ("reveille/supply.table", laid_reveille_supply_table)] }
def RollAsksSaid : Prop := rollAsksRow.holds Tryd.pinned (OpenSpec.ofChange rollAsksSpec)

/-- ITS FALSE NEIGHBOUR: 'it returns false'. Refute it at one input. -/
def rollAsksWrong : ChangeSpec := { name := "rollAsks", fn := fun _ => fun
  | [d] => { results := [.lit (.bool false)], args := [d] }
  | _ => none }
def RollAsksWrongFalsely : Prop := rollAsksRow.holds Tryd.pinned (OpenSpec.ofChange rollAsksWrong)

/-- 'reveillelaw13.RollStands': WHATEVER THE INPUT: true; the input reads as it did. -/
def rollStandsSpec : ChangeSpec := { name := "rollStands", fn := fun _ => fun
  | [] => { results := [.lit (.bool true)], args := [] }
  | _ => none }
def rollStandsRow : OpenClaim := { program := "ytlgbmjdlgjdolaadoor", sum := "71a3dfeb3017d8ee889be9186d63cbcef0b5b719556033c09c31853b4fb43889", func := "reveille/reveillelaw13.RollStands", spec := "rollStands", unfollowed := true, recurses := true, named := ["reveille/crystal.table", "reveille/supply.table", "reveille/bus.table", "reveille/sensor.table", "reveille/radio.table"], plainKeys := false, apart := false, laid := [("reveille/bus.table", laid_reveille_bus_table), ("reveille/crystal.table", laid_reveille_crystal_table), ("reveille/radio.table", laid_reveille_radio_table), ("reveille/sensor.table", laid_reveille_sensor_table), ("reveille/supply.table", laid_reveille_supply_table)] }
def RollStandsSaid : Prop := rollStandsRow.holds Tryd.pinned (OpenSpec.ofChange rollStandsSpec)

/-- ITS FALSE NEIGHBOUR: 'it returns false'. Refute it at one input. -/
def rollStandsWrong : ChangeSpec := { name := "rollStands", fn := fun _ => fun
  | [] => { results := [.lit (.bool false)], args := [] }
  | _ => none }
def RollStandsWrongFalsely : Prop := rollStandsRow.holds Tryd.pinned (OpenSpec.ofChange rollStandsWrong)

/-- 'reveillelaw13.RollPlan': WHATEVER THE INPUT: true; the input reads as it did. -/
def rollPlanSpec : ChangeSpec := { name := "rollPlan", fn := fun _ => fun
  | [] => { results := [.lit (.bool true)], args := [] }
  | _ => none }
def rollPlanRow : OpenClaim := { program := "ytlgbmjdlgjdolaadoor", sum := "71a3dfeb3017d8ee889be9186d63cbcef0b5b719556033c09c31853b4fb43889", func := "reveille/reveillelaw13.RollPlan", spec := "rollPlan", unfollowed := true, recurses := true, named := ["reveille/crystal.table", "reveille/supply.table", "reveille/bus.table", "reveille/sensor.table", "reveille/radio.table"], plainKeys := false, apart := false, laid := [("reveille/bus.table", laid_reveille_bus_table), ("reveille/crystal.table", laid_reveille_crystal_table), ("reveille/radio.table", laid_reveille_radio_table), ("reveille/sensor.table", laid_reveille_sensor_table), ("reveille/supply.table", laid_reveille_supply_table)] }
def RollPlanSaid : Prop := rollPlanRow.holds Tryd.pinned (OpenSpec.ofChange rollPlanSpec)

/-- ITS FALSE NEIGHBOUR: 'it returns false'. Refute it at one input. -/
def rollPlanWrong : ChangeSpec := { name := "rollPlan", fn := fun _ => fun
  | [] => { results := [.lit (.bool false)], args := [] }
  | _ => none }
def RollPlanWrongFalsely : Prop := rollPlanRow.holds Tryd.pinned (OpenSpec.ofChange rollPlanWrong)

/-- 'reveillelaw13.RollKept': WHATEVER THE INPUT: true; the input reads as it did. -/
def rollKeptSpec : ChangeSpec := { name := "rollKept", fn := fun _ => fun
  | [d1, d2] => { results := [.lit (.bool true)], args := [d1, d2] }
  | _ => none }
def rollKeptRow : OpenClaim := { program := "ytlgbmjdlgjdolaadoor", sum := "71a3dfeb3017d8ee889be9186d63cbcef0b5b719556033c09c31853b4fb43889", func := "reveille/reveillelaw13.RollKept", spec := "rollKept", unfollowed := true, recurses := true, named := ["reveille/crystal.table", "reveille/supply.table", "reveille/bus.table", "reveille/sensor.table", "reveille/radio.table"], plainKeys := false, apart := false, laid := [("reveille/bus.table", laid_reveille_bus_table), ("reveille/crystal.table", laid_reveille_crystal_table), ("reveille/radio.table", laid_reveille_radio_table), ("reveille/sensor.table", laid_reveille_sensor_table), ("reveille/supply.table", laid_reveille_supply_table)] }
def RollKeptSaid : Prop := rollKeptRow.holds Tryd.pinned (OpenSpec.ofChange rollKeptSpec)

/-- ITS FALSE NEIGHBOUR: 'it returns false'. Refute it at one input. -/
def rollKeptWrong : ChangeSpec := { name := "rollKept", fn := fun _ => fun
  | [d1, d2] => { results := [.lit (.bool false)], args := [d1, d2] }
  | _ => none }
def RollKeptWrongFalsely : Prop := rollKeptRow.holds Tryd.pinned (OpenSpec.ofChange rollKeptWrong)

/-- 'reveillelaw13.RollOthers': WHATEVER THE INPUT: true; the input reads as it did. -/
def rollOthersSpec : ChangeSpec := { name := "rollOthers", fn := fun _ => fun
  | [d1, d2] => { results := [.lit (.bool true)], args := [d1, d2] }
  | _ => none }
def rollOthersRow : OpenClaim := { program := "ytlgbmjdlgjdolaadoor", sum := "71a3dfeb3017d8ee889be9186d63cbcef0b5b719556033c09c31853b4fb43889", func := "reveille/reveillelaw13.RollOthers", spec := "rollOthers", inPlace := ["internal/bytealg.IndexByteString", "internal/bytealg.IndexString"], unfollowed := true, recurses := true, named := ["reveille/crystal.table", "reveille/supply.table", "reveille/bus.table", "reveille/sensor.table", "reveille/radio.table", "internal/bytealg.MaxLen"], plainKeys := false, apart := false, laid := [("reveille/bus.table", laid_reveille_bus_table), ("reveille/crystal.table", laid_reveille_crystal_table), ("reveille/radio.table", laid_reveille_radio_table), ("reveille/sensor.table", laid_reveille_sensor_table), ("reveille/supply.table", laid_reveille_supply_table)] }
def RollOthersSaid : Prop := rollOthersRow.holds Tryd.pinned (OpenSpec.ofChange rollOthersSpec)

/-- ITS FALSE NEIGHBOUR: 'it returns false'. Refute it at one input. -/
def rollOthersWrong : ChangeSpec := { name := "rollOthers", fn := fun _ => fun
  | [d1, d2] => { results := [.lit (.bool false)], args := [d1, d2] }
  | _ => none }
def RollOthersWrongFalsely : Prop := rollOthersRow.holds Tryd.pinned (OpenSpec.ofChange rollOthersWrong)

/- THE SECOND FORM. 'bulk': how many values and letters a reading holds, each counted each time it is reached (what is shared counts as often as it is met; a slice's spare places count too). A statement '..UptoSaid' is the law's where the arguments, and the package variables that the reading takes, are together of bulk at most 1048576: NARROWER than '..Said'. Prove '..Said' where nothing that the law and all that it calls make is longer than what came in: it says more and counts as full. Else prove '..UptoSaid'. A law counts once. -/
mutual
def uptoBulk {H : Type} : DataW H → Nat
  | .lit (.string bytes) => bytes.length + 1
  | .lit _ => 1
  | .nil => 1
  | .ptr d => uptoBulk d + 1
  | .slice elems spare => uptoBulkAll elems + uptoBulkAll spare + 1
  | .agg parts => uptoBulkAll parts + 1
  | .iface _ d => uptoBulk d + 1
  | .map entries => uptoBulkEntries entries + 1
  | .held _ => 1
def uptoBulkAll {H : Type} : List (DataW H) → Nat
  | [] => 0
  | d :: r => uptoBulk d + uptoBulkAll r
def uptoBulkEntries {H : Type} : List (Lit × DataW H) → Nat
  | [] => 0
  | x :: r => uptoBulkEntry x + uptoBulkEntries r
def uptoBulkEntry {H : Type} : Lit × DataW H → Nat
  | (.string bytes, d) => bytes.length + uptoBulk d + 1
  | (_, d) => uptoBulk d + 1
 end
def uptoSmall : (H : Type) → List (DataW H) → Bool := fun _ ds => decide (uptoBulkAll ds ≤ 1048576)
def OpenSpec.upto (s : _root_.Go.ChangeSpec) : _root_.Go.OpenSpec := { _root_.Go.OpenSpec.ofChange s with cond := some uptoSmall }

/-- 'reveillelaw13.RollAsks', WHERE WHAT IT READS IS OF BULK AT MOST 1048576: true; the input reads as it did. -/
def rollAsksUptoRow : OpenClaim := { program := "ytlgbmjdlgjdolaadoor", sum := "71a3dfeb3017d8ee889be9186d63cbcef0b5b719556033c09c31853b4fb43889", func := "reveille/reveillelaw13.RollAsks", spec := "rollAsks", unfollowed := true, recurses := true, named := ["reveille/crystal.table", "reveille/supply.table", "reveille/bus.table", "reveille/sensor.table", "reveille/radio.table"], plainKeys := false, apart := false, laid := [("reveille/bus.table", laid_reveille_bus_table), ("reveille/crystal.table", laid_reveille_crystal_table), ("reveille/radio.table", laid_reveille_radio_table), ("reveille/sensor.table", laid_reveille_sensor_table), ("reveille/supply.table", laid_reveille_supply_table)], narrowed := true }
def RollAsksUptoSaid : Prop := rollAsksUptoRow.holds Tryd.pinned (OpenSpec.upto rollAsksSpec)

/-- 'reveillelaw13.RollStands', WHERE WHAT IT READS IS OF BULK AT MOST 1048576: true; the input reads as it did. -/
def rollStandsUptoRow : OpenClaim := { program := "ytlgbmjdlgjdolaadoor", sum := "71a3dfeb3017d8ee889be9186d63cbcef0b5b719556033c09c31853b4fb43889", func := "reveille/reveillelaw13.RollStands", spec := "rollStands", unfollowed := true, recurses := true, named := ["reveille/crystal.table", "reveille/supply.table", "reveille/bus.table", "reveille/sensor.table", "reveille/radio.table"], plainKeys := false, apart := false, laid := [("reveille/bus.table", laid_reveille_bus_table), ("reveille/crystal.table", laid_reveille_crystal_table), ("reveille/radio.table", laid_reveille_radio_table), ("reveille/sensor.table", laid_reveille_sensor_table), ("reveille/supply.table", laid_reveille_supply_table)], narrowed := true }
def RollStandsUptoSaid : Prop := rollStandsUptoRow.holds Tryd.pinned (OpenSpec.upto rollStandsSpec)

/-- 'reveillelaw13.RollPlan', WHERE WHAT IT READS IS OF BULK AT MOST 1048576: true; the input reads as it did. -/
def rollPlanUptoRow : OpenClaim := { program := "ytlgbmjdlgjdolaadoor", sum := "71a3dfeb3017d8ee889be9186d63cbcef0b5b719556033c09c31853b4fb43889", func := "reveille/reveillelaw13.RollPlan", spec := "rollPlan", unfollowed := true, recurses := true, named := ["reveille/crystal.table", "reveille/supply.table", "reveille/bus.table", "reveille/sensor.table", "reveille/radio.table"], plainKeys := false, apart := false, laid := [("reveille/bus.table", laid_reveille_bus_table), ("reveille/crystal.table", laid_reveille_crystal_table), ("reveille/radio.table", laid_reveille_radio_table), ("reveille/sensor.table", laid_reveille_sensor_table), ("reveille/supply.table", laid_reveille_supply_table)], narrowed := true }
def RollPlanUptoSaid : Prop := rollPlanUptoRow.holds Tryd.pinned (OpenSpec.upto rollPlanSpec)

/-- 'reveillelaw13.RollKept', WHERE WHAT IT READS IS OF BULK AT MOST 1048576: true; the input reads as it did. -/
def rollKeptUptoRow : OpenClaim := { program := "ytlgbmjdlgjdolaadoor", sum := "71a3dfeb3017d8ee889be9186d63cbcef0b5b719556033c09c31853b4fb43889", func := "reveille/reveillelaw13.RollKept", spec := "rollKept", unfollowed := true, recurses := true, named := ["reveille/crystal.table", "reveille/supply.table", "reveille/bus.table", "reveille/sensor.table", "reveille/radio.table"], plainKeys := false, apart := false, laid := [("reveille/bus.table", laid_reveille_bus_table), ("reveille/crystal.table", laid_reveille_crystal_table), ("reveille/radio.table", laid_reveille_radio_table), ("reveille/sensor.table", laid_reveille_sensor_table), ("reveille/supply.table", laid_reveille_supply_table)], narrowed := true }
def RollKeptUptoSaid : Prop := rollKeptUptoRow.holds Tryd.pinned (OpenSpec.upto rollKeptSpec)

/-- 'reveillelaw13.RollOthers', WHERE WHAT IT READS IS OF BULK AT MOST 1048576: true; the input reads as it did. -/
def rollOthersUptoRow : OpenClaim := { program := "ytlgbmjdlgjdolaadoor", sum := "71a3dfeb3017d8ee889be9186d63cbcef0b5b719556033c09c31853b4fb43889", func := "reveille/reveillelaw13.RollOthers", spec := "rollOthers", inPlace := ["internal/bytealg.IndexByteString", "internal/bytealg.IndexString"], unfollowed := true, recurses := true, named := ["reveille/crystal.table", "reveille/supply.table", "reveille/bus.table", "reveille/sensor.table", "reveille/radio.table", "internal/bytealg.MaxLen"], plainKeys := false, apart := false, laid := [("reveille/bus.table", laid_reveille_bus_table), ("reveille/crystal.table", laid_reveille_crystal_table), ("reveille/radio.table", laid_reveille_radio_table), ("reveille/sensor.table", laid_reveille_sensor_table), ("reveille/supply.table", laid_reveille_supply_table)], narrowed := true }
def RollOthersUptoSaid : Prop := rollOthersUptoRow.holds Tryd.pinned (OpenSpec.upto rollOthersSpec)

end Rows
end Go.Proofs.YtlgbmjdlgjdolaaDoor
