/-
  No cell of these rows narrows 'for every input' (looked for: loops, veiled, ifaces, maps, wideKeys, modest, calm, conditions, laid).
  DERIVED. THE GIVEN ROWS OF THIS SEAT. 6 by the template 'for every input the law returns true; each argument reads behind the call as it read before'; 0 by the template 'total and deterministic' (their statements: YtpafbnmncioppaaTotals.lean).
  GIVEN WITH THE SEED: the statements are not yours to turn. If you find one false, say at which input.
  Laid BY PROGRAM, IN A SANDBOX (cutbox-rows.mjs): the forced cells as the released guide's own fill.sh prints them over the translation 147e7b3a0dfc0046… (all of the seat's roots in one cut). By AI agents, Wed Nov 11 2026. No macro, syntax, notation, axiom, sorry.
-/
import Derived.Test.YtpafbnmncioppaaChecked
import GoSem.Claim
import GoSem.ClaimJoined
import GoSem.ClaimMapViews
import Derived.JoinedTies
import Derived.KernelRfl
namespace Go.Proofs.Ytpafbnmncioppaa
/- THE CELL 'sum', in the pinned program and in every row, IS THE sha256 OF THE DUMP (.gsa) THAT YtpafbnmncioppaaProg.lean LOADS. Nothing in Lean hashes anything: it is a label: what it is worth is what the hold of that sum in a sandbox is worth. -/
noncomputable def Try.pinned : Pinned := { name := "ytpafbnmncioppaa", sum := "147e7b3a0dfc0046b26f6e68a265af39ee281be9d3b8179ddbb12ff5cbdcd37a", checked := Try.checked }
namespace Rows
def none {H : Type} : Left H := { results := [], args := [] }

/-- 'reveillelaw07.CardTables': WHATEVER THE INPUT: true; the input reads as it did. -/
def cardTablesSpec : ChangeSpec := { name := "cardTables", fn := fun _ => fun
  | [d1, d2, d3, d4, d5] => { results := [.lit (.bool true)], args := [d1, d2, d3, d4, d5] }
  | _ => none }
def cardTablesRow : OpenClaim := { program := "ytpafbnmncioppaa", sum := "147e7b3a0dfc0046b26f6e68a265af39ee281be9d3b8179ddbb12ff5cbdcd37a", func := "reveille/reveillelaw07.CardTables", spec := "cardTables", apart := false }
def CardTablesSaid : Prop := cardTablesRow.holds Try.pinned (OpenSpec.ofChange cardTablesSpec)

/-- ITS FALSE NEIGHBOUR: 'it returns false'. Refute it at one input. -/
def cardTablesWrong : ChangeSpec := { name := "cardTables", fn := fun _ => fun
  | [d1, d2, d3, d4, d5] => { results := [.lit (.bool false)], args := [d1, d2, d3, d4, d5] }
  | _ => none }
def CardTablesWrongFalsely : Prop := cardTablesRow.holds Try.pinned (OpenSpec.ofChange cardTablesWrong)

/-- 'reveillelaw07.CardChecks': WHATEVER THE INPUT: true; the input reads as it did. -/
def cardChecksSpec : ChangeSpec := { name := "cardChecks", fn := fun _ => fun
  | [d1, d2, d3, d4] => { results := [.lit (.bool true)], args := [d1, d2, d3, d4] }
  | _ => none }
def cardChecksRow : OpenClaim := { program := "ytpafbnmncioppaa", sum := "147e7b3a0dfc0046b26f6e68a265af39ee281be9d3b8179ddbb12ff5cbdcd37a", func := "reveille/reveillelaw07.CardChecks", spec := "cardChecks", inPlace := ["internal/bytealg.IndexByteString", "internal/bytealg.IndexString"], unfollowed := true, recurses := true, named := ["internal/bytealg.MaxLen"], apart := false }
def CardChecksSaid : Prop := cardChecksRow.holds Try.pinned (OpenSpec.ofChange cardChecksSpec)

/-- ITS FALSE NEIGHBOUR: 'it returns false'. Refute it at one input. -/
def cardChecksWrong : ChangeSpec := { name := "cardChecks", fn := fun _ => fun
  | [d1, d2, d3, d4] => { results := [.lit (.bool false)], args := [d1, d2, d3, d4] }
  | _ => none }
def CardChecksWrongFalsely : Prop := cardChecksRow.holds Try.pinned (OpenSpec.ofChange cardChecksWrong)

/-- 'reveillelaw07.CardLinear': WHATEVER THE INPUT: true; the input reads as it did. -/
def cardLinearSpec : ChangeSpec := { name := "cardLinear", fn := fun _ => fun
  | [d1, d2, d3, d4, d5] => { results := [.lit (.bool true)], args := [d1, d2, d3, d4, d5] }
  | _ => none }
def cardLinearRow : OpenClaim := { program := "ytpafbnmncioppaa", sum := "147e7b3a0dfc0046b26f6e68a265af39ee281be9d3b8179ddbb12ff5cbdcd37a", func := "reveille/reveillelaw07.CardLinear", spec := "cardLinear", inPlace := ["internal/bytealg.IndexByteString", "internal/bytealg.IndexString"], unfollowed := true, recurses := true, named := ["internal/bytealg.MaxLen"], apart := false }
def CardLinearSaid : Prop := cardLinearRow.holds Try.pinned (OpenSpec.ofChange cardLinearSpec)

/-- ITS FALSE NEIGHBOUR: 'it returns false'. Refute it at one input. -/
def cardLinearWrong : ChangeSpec := { name := "cardLinear", fn := fun _ => fun
  | [d1, d2, d3, d4, d5] => { results := [.lit (.bool false)], args := [d1, d2, d3, d4, d5] }
  | _ => none }
def CardLinearWrongFalsely : Prop := cardLinearRow.holds Try.pinned (OpenSpec.ofChange cardLinearWrong)

/-- 'reveillelaw07.CardPlays': WHATEVER THE INPUT: true; the input reads as it did. -/
def cardPlaysSpec : ChangeSpec := { name := "cardPlays", fn := fun _ => fun
  | [d] => { results := [.lit (.bool true)], args := [d] }
  | _ => none }
def cardPlaysRow : OpenClaim := { program := "ytpafbnmncioppaa", sum := "147e7b3a0dfc0046b26f6e68a265af39ee281be9d3b8179ddbb12ff5cbdcd37a", func := "reveille/reveillelaw07.CardPlays", spec := "cardPlays", inPlace := ["internal/bytealg.IndexByteString", "internal/bytealg.IndexString"], unfollowed := true, recurses := true, named := ["internal/bytealg.MaxLen"], apart := false }
def CardPlaysSaid : Prop := cardPlaysRow.holds Try.pinned (OpenSpec.ofChange cardPlaysSpec)

/-- ITS FALSE NEIGHBOUR: 'it returns false'. Refute it at one input. -/
def cardPlaysWrong : ChangeSpec := { name := "cardPlays", fn := fun _ => fun
  | [d] => { results := [.lit (.bool false)], args := [d] }
  | _ => none }
def CardPlaysWrongFalsely : Prop := cardPlaysRow.holds Try.pinned (OpenSpec.ofChange cardPlaysWrong)

/-- 'reveillelaw07.CardNames': WHATEVER THE INPUT: true; the input reads as it did. -/
def cardNamesSpec : ChangeSpec := { name := "cardNames", fn := fun _ => fun
  | [] => { results := [.lit (.bool true)], args := [] }
  | _ => none }
def cardNamesRow : OpenClaim := { program := "ytpafbnmncioppaa", sum := "147e7b3a0dfc0046b26f6e68a265af39ee281be9d3b8179ddbb12ff5cbdcd37a", func := "reveille/reveillelaw07.CardNames", spec := "cardNames", inPlace := ["internal/bytealg.IndexByteString", "internal/bytealg.IndexString"], unfollowed := true, recurses := true, named := ["internal/bytealg.MaxLen"], apart := false }
def CardNamesSaid : Prop := cardNamesRow.holds Try.pinned (OpenSpec.ofChange cardNamesSpec)

/-- ITS FALSE NEIGHBOUR: 'it returns false'. Refute it at one input. -/
def cardNamesWrong : ChangeSpec := { name := "cardNames", fn := fun _ => fun
  | [] => { results := [.lit (.bool false)], args := [] }
  | _ => none }
def CardNamesWrongFalsely : Prop := cardNamesRow.holds Try.pinned (OpenSpec.ofChange cardNamesWrong)

/-- 'reveillelaw07.CardOrder': WHATEVER THE INPUT: true; the input reads as it did. -/
def cardOrderSpec : ChangeSpec := { name := "cardOrder", fn := fun _ => fun
  | [d1, d2, d3] => { results := [.lit (.bool true)], args := [d1, d2, d3] }
  | _ => none }
def cardOrderRow : OpenClaim := { program := "ytpafbnmncioppaa", sum := "147e7b3a0dfc0046b26f6e68a265af39ee281be9d3b8179ddbb12ff5cbdcd37a", func := "reveille/reveillelaw07.CardOrder", spec := "cardOrder", inPlace := ["internal/bytealg.IndexByteString", "internal/bytealg.IndexString"], unfollowed := true, recurses := true, named := ["internal/bytealg.MaxLen"], apart := false }
def CardOrderSaid : Prop := cardOrderRow.holds Try.pinned (OpenSpec.ofChange cardOrderSpec)

/-- ITS FALSE NEIGHBOUR: 'it returns false'. Refute it at one input. -/
def cardOrderWrong : ChangeSpec := { name := "cardOrder", fn := fun _ => fun
  | [d1, d2, d3] => { results := [.lit (.bool false)], args := [d1, d2, d3] }
  | _ => none }
def CardOrderWrongFalsely : Prop := cardOrderRow.holds Try.pinned (OpenSpec.ofChange cardOrderWrong)

/- THE SECOND FORM. 'bulk': how many values and letters a reading holds, each counted each time it is reached (what is shared counts as often as it is met; a slice's spare places count too). A statement '..UptoSaid' is the law's where the arguments, and the package variables that the reading takes, are together of bulk at most 1048576: NARROWER than '..Said'. Prove '..Said' where nothing that the law and all that it calls make is longer than what came in: it says more and counts as full. Else prove '..UptoSaid'. A law counts once. -/
mutual
def uptoBulk {H : Type} : DataW H → Nat
  | .lit (.string bytes) => bytes.length + 1
  | .lit _ => 1
  | .nil => 1
  | .ptr d => uptoBulk d + 1
  | .slice elems spare => uptoBulkAll elems + uptoBulkAll spare + 1
  | .agg parts => uptoBulkAll parts + 1
  | .iface _ d => uptoBulk d + 1
  | .map entries => uptoBulkEntries entries + 1
  | .held _ => 1
def uptoBulkAll {H : Type} : List (DataW H) → Nat
  | [] => 0
  | d :: r => uptoBulk d + uptoBulkAll r
def uptoBulkEntries {H : Type} : List (Lit × DataW H) → Nat
  | [] => 0
  | x :: r => uptoBulkEntry x + uptoBulkEntries r
def uptoBulkEntry {H : Type} : Lit × DataW H → Nat
  | (.string bytes, d) => bytes.length + uptoBulk d + 1
  | (_, d) => uptoBulk d + 1
 end
def uptoSmall : (H : Type) → List (DataW H) → Bool := fun _ ds => decide (uptoBulkAll ds ≤ 1048576)
def OpenSpec.upto (s : _root_.Go.ChangeSpec) : _root_.Go.OpenSpec := { _root_.Go.OpenSpec.ofChange s with cond := some uptoSmall }

/-- 'reveillelaw07.CardTables', WHERE WHAT IT READS IS OF BULK AT MOST 1048576: true; the input reads as it did. -/
def cardTablesUptoRow : OpenClaim := { program := "ytpafbnmncioppaa", sum := "147e7b3a0dfc0046b26f6e68a265af39ee281be9d3b8179ddbb12ff5cbdcd37a", func := "reveille/reveillelaw07.CardTables", spec := "cardTables", apart := false, narrowed := true }
def CardTablesUptoSaid : Prop := cardTablesUptoRow.holds Try.pinned (OpenSpec.upto cardTablesSpec)

/-- 'reveillelaw07.CardChecks', WHERE WHAT IT READS IS OF BULK AT MOST 1048576: true; the input reads as it did. -/
def cardChecksUptoRow : OpenClaim := { program := "ytpafbnmncioppaa", sum := "147e7b3a0dfc0046b26f6e68a265af39ee281be9d3b8179ddbb12ff5cbdcd37a", func := "reveille/reveillelaw07.CardChecks", spec := "cardChecks", inPlace := ["internal/bytealg.IndexByteString", "internal/bytealg.IndexString"], unfollowed := true, recurses := true, named := ["internal/bytealg.MaxLen"], apart := false, narrowed := true }
def CardChecksUptoSaid : Prop := cardChecksUptoRow.holds Try.pinned (OpenSpec.upto cardChecksSpec)

/-- 'reveillelaw07.CardLinear', WHERE WHAT IT READS IS OF BULK AT MOST 1048576: true; the input reads as it did. -/
def cardLinearUptoRow : OpenClaim := { program := "ytpafbnmncioppaa", sum := "147e7b3a0dfc0046b26f6e68a265af39ee281be9d3b8179ddbb12ff5cbdcd37a", func := "reveille/reveillelaw07.CardLinear", spec := "cardLinear", inPlace := ["internal/bytealg.IndexByteString", "internal/bytealg.IndexString"], unfollowed := true, recurses := true, named := ["internal/bytealg.MaxLen"], apart := false, narrowed := true }
def CardLinearUptoSaid : Prop := cardLinearUptoRow.holds Try.pinned (OpenSpec.upto cardLinearSpec)

/-- 'reveillelaw07.CardPlays', WHERE WHAT IT READS IS OF BULK AT MOST 1048576: true; the input reads as it did. -/
def cardPlaysUptoRow : OpenClaim := { program := "ytpafbnmncioppaa", sum := "147e7b3a0dfc0046b26f6e68a265af39ee281be9d3b8179ddbb12ff5cbdcd37a", func := "reveille/reveillelaw07.CardPlays", spec := "cardPlays", inPlace := ["internal/bytealg.IndexByteString", "internal/bytealg.IndexString"], unfollowed := true, recurses := true, named := ["internal/bytealg.MaxLen"], apart := false, narrowed := true }
def CardPlaysUptoSaid : Prop := cardPlaysUptoRow.holds Try.pinned (OpenSpec.upto cardPlaysSpec)

/-- 'reveillelaw07.CardNames', WHERE WHAT IT READS IS OF BULK AT MOST 1048576: true; the input reads as it did. -/
def cardNamesUptoRow : OpenClaim := { program := "ytpafbnmncioppaa", sum := "147e7b3a0dfc0046b26f6e68a265af39ee281be9d3b8179ddbb12ff5cbdcd37a", func := "reveille/reveillelaw07.CardNames", spec := "cardNames", inPlace := ["internal/bytealg.IndexByteString", "internal/bytealg.IndexString"], unfollowed := true, recurses := true, named := ["internal/bytealg.MaxLen"], apart := false, narrowed := true }
def CardNamesUptoSaid : Prop := cardNamesUptoRow.holds Try.pinned (OpenSpec.upto cardNamesSpec)

/-- 'reveillelaw07.CardOrder', WHERE WHAT IT READS IS OF BULK AT MOST 1048576: true; the input reads as it did. -/
def cardOrderUptoRow : OpenClaim := { program := "ytpafbnmncioppaa", sum := "147e7b3a0dfc0046b26f6e68a265af39ee281be9d3b8179ddbb12ff5cbdcd37a", func := "reveille/reveillelaw07.CardOrder", spec := "cardOrder", inPlace := ["internal/bytealg.IndexByteString", "internal/bytealg.IndexString"], unfollowed := true, recurses := true, named := ["internal/bytealg.MaxLen"], apart := false, narrowed := true }
def CardOrderUptoSaid : Prop := cardOrderUptoRow.holds Try.pinned (OpenSpec.upto cardOrderSpec)

end Rows
end Go.Proofs.Ytpafbnmncioppaa
