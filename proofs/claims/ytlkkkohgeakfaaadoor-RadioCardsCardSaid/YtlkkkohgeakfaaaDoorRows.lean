/-
  NARROWER THAN 'FOR EVERY INPUT', by the rows' own cells (each row's printed sentence says how): RadioStands: laid · RadioTurns: laid · RadioHops: laid · RadioAsks: laid · RadioNone: laid · RadioCards: laid.
  DERIVED. THE GIVEN ROWS OF THIS SEAT. 6 by the template 'for every input the law returns true; each argument reads behind the call as it read before'; 0 by the template 'total and deterministic' (their statements: YtlkkkohgeakfaaaDoorTotals.lean).
  GIVEN WITH THE SEED: the statements are not yours to turn. If you find one false, say at which input.
  Laid BY PROGRAM, IN A SANDBOX (cutbox-rows.mjs): the forced cells as the released guide's own fill.sh prints them over the translation 99f1ca2d43b0043b… (all of the seat's roots in one cut). By AI agents, Wed Nov 11 2026. No macro, syntax, notation, axiom, sorry.
-/
import Derived.Test.YtlkkkohgeakfaaaDoorChecked
import GoSem.Claim
import GoSem.ClaimJoined
import GoSem.ClaimMapViews
import Derived.JoinedTies
import Derived.KernelRfl
namespace Go.Proofs.YtlkkkohgeakfaaaDoor
/- THE CELL 'sum', in the pinned program and in every row, IS THE sha256 OF THE DUMP (.gsa) THAT YtlkkkohgeakfaaaDoorProg.lean LOADS. Nothing in Lean hashes anything: it is a label: what it is worth is what the hold of that sum in a sandbox is worth. -/
noncomputable def Tryd.pinned : Pinned := { name := "ytlkkkohgeakfaaadoor", sum := "99f1ca2d43b0043bf0a6b641736e84b4eb4d9ed05e9e0814c6b0523e89f4d9b1", checked := Tryd.checked }
namespace Rows
def none {H : Type} : Left H := { results := [], args := [] }

/- WHAT THE LISTED PACKAGE-LEVEL VARIABLES READ AS WHEN THE CALL BEGINS. Each datum BY PROGRAM (the guide's laid-datum.mjs) off the statement by which the dump's own 'gosem.cut.vars' lays the variable. In a bare row this is a premise. The card (YtlkkkohgeakfaaaDoorCards.lean) ties it to the program's text. -/
def laid_reveille_bus_table {H : Type} : DataW H := .agg [.lit (.int .i64 271672320), .lit (.int .i64 279750992), .lit (.int .i64 284866528), .lit (.int .i64 289982064), .lit (.int .i64 295097600), .lit (.int .i64 300213136), .lit (.int .i64 305328672), .lit (.int .i64 310444208), .lit (.int .i64 315559744), .lit (.int .i64 320675280), .lit (.int .i64 325790816), .lit (.int .i64 330906352), .lit (.int .i64 336021888), .lit (.int .i64 341137424), .lit (.int .i64 346252960), .lit (.int .i64 351368496), .lit (.int .i64 356484032), .lit (.int .i64 361599568), .lit (.int .i64 366715104), .lit (.int .i64 411830640)]
def laid_reveille_radio_table {H : Type} : DataW H := .agg [.lit (.int .i64 432920000), .lit (.int .i64 444020992), .lit (.int .i64 451206528), .lit (.int .i64 458392064), .lit (.int .i64 465577600), .lit (.int .i64 472763136), .lit (.int .i64 479948672), .lit (.int .i64 487134208), .lit (.int .i64 494319744), .lit (.int .i64 501505280), .lit (.int .i64 508690816), .lit (.int .i64 515876352), .lit (.int .i64 523061888), .lit (.int .i64 530247424), .lit (.int .i64 537432960), .lit (.int .i64 545618496), .lit (.int .i64 518134032), .lit (.int .i64 526269568), .lit (.int .i64 533455104), .lit (.int .i64 580610000)]
def laid_reveille_sensor_table {H : Type} : DataW H := .agg [.lit (.int .i64 625000), .lit (.int .i64 2122500), .lit (.int .i64 3145000), .lit (.int .i64 4167500), .lit (.int .i64 5190000), .lit (.int .i64 6212500), .lit (.int .i64 7235000), .lit (.int .i64 8257500), .lit (.int .i64 9280000), .lit (.int .i64 10302500), .lit (.int .i64 11325000), .lit (.int .i64 12347500), .lit (.int .i64 13370000), .lit (.int .i64 14392500), .lit (.int .i64 15415000), .lit (.int .i64 16937500)]

/-- 'reveillelaw12.RadioStands': WHATEVER THE INPUT: true; the input reads as it did. -/
def radioStandsSpec : ChangeSpec := { name := "radioStands", fn := fun _ => fun
  | [] => { results := [.lit (.bool true)], args := [] }
  | _ => none }
def radioStandsRow : OpenClaim := { program := "ytlkkkohgeakfaaadoor", sum := "99f1ca2d43b0043bf0a6b641736e84b4eb4d9ed05e9e0814c6b0523e89f4d9b1", func := "reveille/reveillelaw12.RadioStands", spec := "radioStands", named := ["reveille/radio.table", "reveille/bus.table", "reveille/sensor.table"], apart := false, laid := [("reveille/bus.table", laid_reveille_bus_table), ("reveille/radio.table", laid_reveille_radio_table), ("reveille/sensor.table", laid_reveille_sensor_table)] }
def RadioStandsSaid : Prop := radioStandsRow.holds Tryd.pinned (OpenSpec.ofChange radioStandsSpec)

/-- ITS FALSE NEIGHBOUR: 'it returns false'. Refute it at one input. -/
def radioStandsWrong : ChangeSpec := { name := "radioStands", fn := fun _ => fun
  | [] => { results := [.lit (.bool false)], args := [] }
  | _ => none }
def RadioStandsWrongFalsely : Prop := radioStandsRow.holds Tryd.pinned (OpenSpec.ofChange radioStandsWrong)

/-- 'reveillelaw12.RadioTurns': WHATEVER THE INPUT: true; the input reads as it did. -/
def radioTurnsSpec : ChangeSpec := { name := "radioTurns", fn := fun _ => fun
  | [d] => { results := [.lit (.bool true)], args := [d] }
  | _ => none }
def radioTurnsRow : OpenClaim := { program := "ytlkkkohgeakfaaadoor", sum := "99f1ca2d43b0043bf0a6b641736e84b4eb4d9ed05e9e0814c6b0523e89f4d9b1", func := "reveille/reveillelaw12.RadioTurns", spec := "radioTurns", named := ["reveille/radio.table"], apart := false, laid := [("reveille/radio.table", laid_reveille_radio_table)] }
def RadioTurnsSaid : Prop := radioTurnsRow.holds Tryd.pinned (OpenSpec.ofChange radioTurnsSpec)

/-- ITS FALSE NEIGHBOUR: 'it returns false'. Refute it at one input. -/
def radioTurnsWrong : ChangeSpec := { name := "radioTurns", fn := fun _ => fun
  | [d] => { results := [.lit (.bool false)], args := [d] }
  | _ => none }
def RadioTurnsWrongFalsely : Prop := radioTurnsRow.holds Tryd.pinned (OpenSpec.ofChange radioTurnsWrong)

/-- 'reveillelaw12.RadioHops': WHATEVER THE INPUT: true; the input reads as it did. -/
def radioHopsSpec : ChangeSpec := { name := "radioHops", fn := fun _ => fun
  | [d1, d2, d3] => { results := [.lit (.bool true)], args := [d1, d2, d3] }
  | _ => none }
def radioHopsRow : OpenClaim := { program := "ytlkkkohgeakfaaadoor", sum := "99f1ca2d43b0043bf0a6b641736e84b4eb4d9ed05e9e0814c6b0523e89f4d9b1", func := "reveille/reveillelaw12.RadioHops", spec := "radioHops", named := ["reveille/radio.table"], apart := false, laid := [("reveille/radio.table", laid_reveille_radio_table)] }
def RadioHopsSaid : Prop := radioHopsRow.holds Tryd.pinned (OpenSpec.ofChange radioHopsSpec)

/-- ITS FALSE NEIGHBOUR: 'it returns false'. Refute it at one input. -/
def radioHopsWrong : ChangeSpec := { name := "radioHops", fn := fun _ => fun
  | [d1, d2, d3] => { results := [.lit (.bool false)], args := [d1, d2, d3] }
  | _ => none }
def RadioHopsWrongFalsely : Prop := radioHopsRow.holds Tryd.pinned (OpenSpec.ofChange radioHopsWrong)

/-- 'reveillelaw12.RadioAsks': WHATEVER THE INPUT: true; the input reads as it did. -/
def radioAsksSpec : ChangeSpec := { name := "radioAsks", fn := fun _ => fun
  | [d] => { results := [.lit (.bool true)], args := [d] }
  | _ => none }
def radioAsksRow : OpenClaim := { program := "ytlkkkohgeakfaaadoor", sum := "99f1ca2d43b0043bf0a6b641736e84b4eb4d9ed05e9e0814c6b0523e89f4d9b1", func := "reveille/reveillelaw12.RadioAsks", spec := "radioAsks", inPlace := ["math.Float64bits"], unfollowed := true, recurses := true, named := ["reveille/radio.table"], apart := false, laid := [("reveille/radio.table", laid_reveille_radio_table)] }
def RadioAsksSaid : Prop := radioAsksRow.holds Tryd.pinned (OpenSpec.ofChange radioAsksSpec)

/-- ITS FALSE NEIGHBOUR: 'it returns false'. Refute it at one input. -/
def radioAsksWrong : ChangeSpec := { name := "radioAsks", fn := fun _ => fun
  | [d] => { results := [.lit (.bool false)], args := [d] }
  | _ => none }
def RadioAsksWrongFalsely : Prop := radioAsksRow.holds Tryd.pinned (OpenSpec.ofChange radioAsksWrong)

/-- 'reveillelaw12.RadioNone': WHATEVER THE INPUT: true; the input reads as it did. -/
def radioNoneSpec : ChangeSpec := { name := "radioNone", fn := fun _ => fun
  | [] => { results := [.lit (.bool true)], args := [] }
  | _ => none }
def radioNoneRow : OpenClaim := { program := "ytlkkkohgeakfaaadoor", sum := "99f1ca2d43b0043bf0a6b641736e84b4eb4d9ed05e9e0814c6b0523e89f4d9b1", func := "reveille/reveillelaw12.RadioNone", spec := "radioNone", unfollowed := true, recurses := true, named := ["reveille/radio.table"], apart := false, laid := [("reveille/radio.table", laid_reveille_radio_table)] }
def RadioNoneSaid : Prop := radioNoneRow.holds Tryd.pinned (OpenSpec.ofChange radioNoneSpec)

/-- ITS FALSE NEIGHBOUR: 'it returns false'. Refute it at one input. -/
def radioNoneWrong : ChangeSpec := { name := "radioNone", fn := fun _ => fun
  | [] => { results := [.lit (.bool false)], args := [] }
  | _ => none }
def RadioNoneWrongFalsely : Prop := radioNoneRow.holds Tryd.pinned (OpenSpec.ofChange radioNoneWrong)

/-- 'reveillelaw12.RadioCards': WHATEVER THE INPUT: true; the input reads as it did. -/
def radioCardsSpec : ChangeSpec := { name := "radioCards", fn := fun _ => fun
  | [] => { results := [.lit (.bool true)], args := [] }
  | _ => none }
def radioCardsRow : OpenClaim := { program := "ytlkkkohgeakfaaadoor", sum := "99f1ca2d43b0043bf0a6b641736e84b4eb4d9ed05e9e0814c6b0523e89f4d9b1", func := "reveille/reveillelaw12.RadioCards", spec := "radioCards", inPlace := ["internal/bytealg.IndexByteString", "internal/bytealg.IndexString"], unfollowed := true, recurses := true, named := ["reveille/radio.table", "internal/bytealg.MaxLen"], apart := false, laid := [("reveille/radio.table", laid_reveille_radio_table)] }
def RadioCardsSaid : Prop := radioCardsRow.holds Tryd.pinned (OpenSpec.ofChange radioCardsSpec)

/-- ITS FALSE NEIGHBOUR: 'it returns false'. Refute it at one input. -/
def radioCardsWrong : ChangeSpec := { name := "radioCards", fn := fun _ => fun
  | [] => { results := [.lit (.bool false)], args := [] }
  | _ => none }
def RadioCardsWrongFalsely : Prop := radioCardsRow.holds Tryd.pinned (OpenSpec.ofChange radioCardsWrong)

/- THE SECOND FORM. 'bulk': how many values and letters a reading holds, each counted each time it is reached (what is shared counts as often as it is met; a slice's spare places count too). A statement '..UptoSaid' is the law's where the arguments, and the package variables that the reading takes, are together of bulk at most 1048576: NARROWER than '..Said'. Prove '..Said' where nothing that the law and all that it calls make is longer than what came in: it says more and counts as full. Else prove '..UptoSaid'. A law counts once. -/
mutual
def uptoBulk {H : Type} : DataW H → Nat
  | .lit (.string bytes) => bytes.length + 1
  | .lit _ => 1
  | .nil => 1
  | .ptr d => uptoBulk d + 1
  | .slice elems spare => uptoBulkAll elems + uptoBulkAll spare + 1
  | .agg parts => uptoBulkAll parts + 1
  | .iface _ d => uptoBulk d + 1
  | .map entries => uptoBulkEntries entries + 1
  | .held _ => 1
def uptoBulkAll {H : Type} : List (DataW H) → Nat
  | [] => 0
  | d :: r => uptoBulk d + uptoBulkAll r
def uptoBulkEntries {H : Type} : List (Lit × DataW H) → Nat
  | [] => 0
  | x :: r => uptoBulkEntry x + uptoBulkEntries r
def uptoBulkEntry {H : Type} : Lit × DataW H → Nat
  | (.string bytes, d) => bytes.length + uptoBulk d + 1
  | (_, d) => uptoBulk d + 1
 end
def uptoSmall : (H : Type) → List (DataW H) → Bool := fun _ ds => decide (uptoBulkAll ds ≤ 1048576)
def OpenSpec.upto (s : _root_.Go.ChangeSpec) : _root_.Go.OpenSpec := { _root_.Go.OpenSpec.ofChange s with cond := some uptoSmall }

/-- 'reveillelaw12.RadioStands', WHERE WHAT IT READS IS OF BULK AT MOST 1048576: true; the input reads as it did. -/
def radioStandsUptoRow : OpenClaim := { program := "ytlkkkohgeakfaaadoor", sum := "99f1ca2d43b0043bf0a6b641736e84b4eb4d9ed05e9e0814c6b0523e89f4d9b1", func := "reveille/reveillelaw12.RadioStands", spec := "radioStands", named := ["reveille/radio.table", "reveille/bus.table", "reveille/sensor.table"], apart := false, laid := [("reveille/bus.table", laid_reveille_bus_table), ("reveille/radio.table", laid_reveille_radio_table), ("reveille/sensor.table", laid_reveille_sensor_table)], narrowed := true }
def RadioStandsUptoSaid : Prop := radioStandsUptoRow.holds Tryd.pinned (OpenSpec.upto radioStandsSpec)

/-- 'reveillelaw12.RadioTurns', WHERE WHAT IT READS IS OF BULK AT MOST 1048576: true; the input reads as it did. -/
def radioTurnsUptoRow : OpenClaim := { program := "ytlkkkohgeakfaaadoor", sum := "99f1ca2d43b0043bf0a6b641736e84b4eb4d9ed05e9e0814c6b0523e89f4d9b1", func := "reveille/reveillelaw12.RadioTurns", spec := "radioTurns", named := ["reveille/radio.table"], apart := false, laid := [("reveille/radio.table", laid_reveille_radio_table)], narrowed := true }
def RadioTurnsUptoSaid : Prop := radioTurnsUptoRow.holds Tryd.pinned (OpenSpec.upto radioTurnsSpec)

/-- 'reveillelaw12.RadioHops', WHERE WHAT IT READS IS OF BULK AT MOST 1048576: true; the input reads as it did. -/
def radioHopsUptoRow : OpenClaim := { program := "ytlkkkohgeakfaaadoor", sum := "99f1ca2d43b0043bf0a6b641736e84b4eb4d9ed05e9e0814c6b0523e89f4d9b1", func := "reveille/reveillelaw12.RadioHops", spec := "radioHops", named := ["reveille/radio.table"], apart := false, laid := [("reveille/radio.table", laid_reveille_radio_table)], narrowed := true }
def RadioHopsUptoSaid : Prop := radioHopsUptoRow.holds Tryd.pinned (OpenSpec.upto radioHopsSpec)

/-- 'reveillelaw12.RadioAsks', WHERE WHAT IT READS IS OF BULK AT MOST 1048576: true; the input reads as it did. -/
def radioAsksUptoRow : OpenClaim := { program := "ytlkkkohgeakfaaadoor", sum := "99f1ca2d43b0043bf0a6b641736e84b4eb4d9ed05e9e0814c6b0523e89f4d9b1", func := "reveille/reveillelaw12.RadioAsks", spec := "radioAsks", inPlace := ["math.Float64bits"], unfollowed := true, recurses := true, named := ["reveille/radio.table"], apart := false, laid := [("reveille/radio.table", laid_reveille_radio_table)], narrowed := true }
def RadioAsksUptoSaid : Prop := radioAsksUptoRow.holds Tryd.pinned (OpenSpec.upto radioAsksSpec)

/-- 'reveillelaw12.RadioNone', WHERE WHAT IT READS IS OF BULK AT MOST 1048576: true; the input reads as it did. -/
def radioNoneUptoRow : OpenClaim := { program := "ytlkkkohgeakfaaadoor", sum := "99f1ca2d43b0043bf0a6b641736e84b4eb4d9ed05e9e0814c6b0523e89f4d9b1", func := "reveille/reveillelaw12.RadioNone", spec := "radioNone", unfollowed := true, recurses := true, named := ["reveille/radio.table"], apart := false, laid := [("reveille/radio.table", laid_reveille_radio_table)], narrowed := true }
def RadioNoneUptoSaid : Prop := radioNoneUptoRow.holds Tryd.pinned (OpenSpec.upto radioNoneSpec)

/-- 'reveillelaw12.RadioCards', WHERE WHAT IT READS IS OF BULK AT MOST 1048576: true; the input reads as it did. -/
def radioCardsUptoRow : OpenClaim := { program := "ytlkkkohgeakfaaadoor", sum := "99f1ca2d43b0043bf0a6b641736e84b4eb4d9ed05e9e0814c6b0523e89f4d9b1", func := "reveille/reveillelaw12.RadioCards", spec := "radioCards", inPlace := ["internal/bytealg.IndexByteString", "internal/bytealg.IndexString"], unfollowed := true, recurses := true, named := ["reveille/radio.table", "internal/bytealg.MaxLen"], apart := false, laid := [("reveille/radio.table", laid_reveille_radio_table)], narrowed := true }
def RadioCardsUptoSaid : Prop := radioCardsUptoRow.holds Tryd.pinned (OpenSpec.upto radioCardsSpec)

end Rows
end Go.Proofs.YtlkkkohgeakfaaaDoor
