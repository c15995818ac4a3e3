/-
  No cell of these rows narrows 'for every input' (looked for: loops, veiled, ifaces, maps, wideKeys, modest, calm, conditions, laid).
  DERIVED. THE GIVEN ROWS OF THIS SEAT. 6 by the template 'for every input the law returns true; each argument reads behind the call as it read before'; 0 by the template 'total and deterministic' (their statements: YtnkababhgloclaaTotals.lean).
  GIVEN WITH THE SEED: the statements are not yours to turn. If you find one false, say at which input.
  Laid BY PROGRAM, IN A SANDBOX (cutbox-rows.mjs): the forced cells as the released guide's own fill.sh prints them over the translation c54515b475e582ad… (all of the seat's roots in one cut). By AI agents, Wed Nov 11 2026. No macro, syntax, notation, axiom, sorry.
-/
import Derived.Test.YtnkababhgloclaaChecked
import GoSem.Claim
import GoSem.ClaimJoined
import GoSem.ClaimMapViews
import Derived.JoinedTies
import Derived.KernelRfl
namespace Go.Proofs.Ytnkababhgloclaa
/- THE CELL 'sum', in the pinned program and in every row, IS THE sha256 OF THE DUMP (.gsa) THAT YtnkababhgloclaaProg.lean LOADS. Nothing in Lean hashes anything: it is a label: what it is worth is what the hold of that sum in a sandbox is worth. -/
noncomputable def Try.pinned : Pinned := { name := "ytnkababhgloclaa", sum := "c54515b475e582ad018fd5efffba8d0e4eb6ffd0e5186a9f4ea1e6b85849d9bb", checked := Try.checked }
namespace Rows
def none {H : Type} : Left H := { results := [], args := [] }

/-- 'reveillelaw22.ProbeBags': WHATEVER THE INPUT: true; the input reads as it did. -/
def probeBagsSpec : ChangeSpec := { name := "probeBags", fn := fun _ => fun
  | [d] => { results := [.lit (.bool true)], args := [d] }
  | _ => none }
def probeBagsRow : OpenClaim := { program := "ytnkababhgloclaa", sum := "c54515b475e582ad018fd5efffba8d0e4eb6ffd0e5186a9f4ea1e6b85849d9bb", func := "reveille/reveillelaw22.ProbeBags", spec := "probeBags", unfollowed := true, recurses := true, apart := false }
def ProbeBagsSaid : Prop := probeBagsRow.holds Try.pinned (OpenSpec.ofChange probeBagsSpec)

/-- ITS FALSE NEIGHBOUR: 'it returns false'. Refute it at one input. -/
def probeBagsWrong : ChangeSpec := { name := "probeBags", fn := fun _ => fun
  | [d] => { results := [.lit (.bool false)], args := [d] }
  | _ => none }
def ProbeBagsWrongFalsely : Prop := probeBagsRow.holds Try.pinned (OpenSpec.ofChange probeBagsWrong)

/-- 'reveillelaw22.ProbeRuns': WHATEVER THE INPUT: true; the input reads as it did. -/
def probeRunsSpec : ChangeSpec := { name := "probeRuns", fn := fun _ => fun
  | [d1, d2, d3] => { results := [.lit (.bool true)], args := [d1, d2, d3] }
  | _ => none }
def probeRunsRow : OpenClaim := { program := "ytnkababhgloclaa", sum := "c54515b475e582ad018fd5efffba8d0e4eb6ffd0e5186a9f4ea1e6b85849d9bb", func := "reveille/reveillelaw22.ProbeRuns", spec := "probeRuns", inPlace := ["internal/bytealg.IndexByteString", "internal/bytealg.IndexString"], unfollowed := true, recurses := true, named := ["internal/bytealg.MaxLen"], apart := false }
def ProbeRunsSaid : Prop := probeRunsRow.holds Try.pinned (OpenSpec.ofChange probeRunsSpec)

/-- ITS FALSE NEIGHBOUR: 'it returns false'. Refute it at one input. -/
def probeRunsWrong : ChangeSpec := { name := "probeRuns", fn := fun _ => fun
  | [d1, d2, d3] => { results := [.lit (.bool false)], args := [d1, d2, d3] }
  | _ => none }
def ProbeRunsWrongFalsely : Prop := probeRunsRow.holds Try.pinned (OpenSpec.ofChange probeRunsWrong)

/-- 'reveillelaw22.ProbeNames': WHATEVER THE INPUT: true; the input reads as it did. -/
def probeNamesSpec : ChangeSpec := { name := "probeNames", fn := fun _ => fun
  | [] => { results := [.lit (.bool true)], args := [] }
  | _ => none }
def probeNamesRow : OpenClaim := { program := "ytnkababhgloclaa", sum := "c54515b475e582ad018fd5efffba8d0e4eb6ffd0e5186a9f4ea1e6b85849d9bb", func := "reveille/reveillelaw22.ProbeNames", spec := "probeNames", inPlace := ["internal/bytealg.IndexByteString", "internal/bytealg.IndexString"], unfollowed := true, recurses := true, named := ["internal/bytealg.MaxLen"], apart := false }
def ProbeNamesSaid : Prop := probeNamesRow.holds Try.pinned (OpenSpec.ofChange probeNamesSpec)

/-- ITS FALSE NEIGHBOUR: 'it returns false'. Refute it at one input. -/
def probeNamesWrong : ChangeSpec := { name := "probeNames", fn := fun _ => fun
  | [] => { results := [.lit (.bool false)], args := [] }
  | _ => none }
def ProbeNamesWrongFalsely : Prop := probeNamesRow.holds Try.pinned (OpenSpec.ofChange probeNamesWrong)

/-- 'reveillelaw22.ProbeGives': WHATEVER THE INPUT: true; the input reads as it did. -/
def probeGivesSpec : ChangeSpec := { name := "probeGives", fn := fun _ => fun
  | [d1, d2] => { results := [.lit (.bool true)], args := [d1, d2] }
  | _ => none }
def probeGivesRow : OpenClaim := { program := "ytnkababhgloclaa", sum := "c54515b475e582ad018fd5efffba8d0e4eb6ffd0e5186a9f4ea1e6b85849d9bb", func := "reveille/reveillelaw22.ProbeGives", spec := "probeGives", inPlace := ["internal/bytealg.IndexByteString", "internal/bytealg.IndexString"], unfollowed := true, recurses := true, named := ["internal/bytealg.MaxLen"], apart := false }
def ProbeGivesSaid : Prop := probeGivesRow.holds Try.pinned (OpenSpec.ofChange probeGivesSpec)

/-- ITS FALSE NEIGHBOUR: 'it returns false'. Refute it at one input. -/
def probeGivesWrong : ChangeSpec := { name := "probeGives", fn := fun _ => fun
  | [d1, d2] => { results := [.lit (.bool false)], args := [d1, d2] }
  | _ => none }
def ProbeGivesWrongFalsely : Prop := probeGivesRow.holds Try.pinned (OpenSpec.ofChange probeGivesWrong)

/-- 'reveillelaw22.ProbeGroups': WHATEVER THE INPUT: true; the input reads as it did. -/
def probeGroupsSpec : ChangeSpec := { name := "probeGroups", fn := fun _ => fun
  | [d1, d2] => { results := [.lit (.bool true)], args := [d1, d2] }
  | _ => none }
def probeGroupsRow : OpenClaim := { program := "ytnkababhgloclaa", sum := "c54515b475e582ad018fd5efffba8d0e4eb6ffd0e5186a9f4ea1e6b85849d9bb", func := "reveille/reveillelaw22.ProbeGroups", spec := "probeGroups", inPlace := ["internal/bytealg.IndexByteString", "internal/bytealg.IndexString"], unfollowed := true, recurses := true, named := ["internal/bytealg.MaxLen"], apart := false }
def ProbeGroupsSaid : Prop := probeGroupsRow.holds Try.pinned (OpenSpec.ofChange probeGroupsSpec)

/-- ITS FALSE NEIGHBOUR: 'it returns false'. Refute it at one input. -/
def probeGroupsWrong : ChangeSpec := { name := "probeGroups", fn := fun _ => fun
  | [d1, d2] => { results := [.lit (.bool false)], args := [d1, d2] }
  | _ => none }
def ProbeGroupsWrongFalsely : Prop := probeGroupsRow.holds Try.pinned (OpenSpec.ofChange probeGroupsWrong)

/-- 'reveillelaw22.ProbeReverse': WHATEVER THE INPUT: true; the input reads as it did. -/
def probeReverseSpec : ChangeSpec := { name := "probeReverse", fn := fun _ => fun
  | [d] => { results := [.lit (.bool true)], args := [d] }
  | _ => none }
def probeReverseRow : OpenClaim := { program := "ytnkababhgloclaa", sum := "c54515b475e582ad018fd5efffba8d0e4eb6ffd0e5186a9f4ea1e6b85849d9bb", func := "reveille/reveillelaw22.ProbeReverse", spec := "probeReverse", inPlace := ["internal/bytealg.IndexByteString", "internal/bytealg.IndexString"], unfollowed := true, recurses := true, named := ["internal/bytealg.MaxLen"], apart := false }
def ProbeReverseSaid : Prop := probeReverseRow.holds Try.pinned (OpenSpec.ofChange probeReverseSpec)

/-- ITS FALSE NEIGHBOUR: 'it returns false'. Refute it at one input. -/
def probeReverseWrong : ChangeSpec := { name := "probeReverse", fn := fun _ => fun
  | [d] => { results := [.lit (.bool false)], args := [d] }
  | _ => none }
def ProbeReverseWrongFalsely : Prop := probeReverseRow.holds Try.pinned (OpenSpec.ofChange probeReverseWrong)

/- THE SECOND FORM. 'bulk': how many values and letters a reading holds, each counted each time it is reached (what is shared counts as often as it is met; a slice's spare places count too). A statement '..UptoSaid' is the law's where the arguments, and the package variables that the reading takes, are together of bulk at most 1048576: NARROWER than '..Said'. Prove '..Said' where nothing that the law and all that it calls make is longer than what came in: it says more and counts as full. Else prove '..UptoSaid'. A law counts once. -/
mutual
def uptoBulk {H : Type} : DataW H → Nat
  | .lit (.string bytes) => bytes.length + 1
  | .lit _ => 1
  | .nil => 1
  | .ptr d => uptoBulk d + 1
  | .slice elems spare => uptoBulkAll elems + uptoBulkAll spare + 1
  | .agg parts => uptoBulkAll parts + 1
  | .iface _ d => uptoBulk d + 1
  | .map entries => uptoBulkEntries entries + 1
  | .held _ => 1
def uptoBulkAll {H : Type} : List (DataW H) → Nat
  | [] => 0
  | d :: r => uptoBulk d + uptoBulkAll r
def uptoBulkEntries {H : Type} : List (Lit × DataW H) → Nat
  | [] => 0
  | x :: r => uptoBulkEntry x + uptoBulkEntries r
def uptoBulkEntry {H : Type} : Lit × DataW H → Nat
  | (.string bytes, d) => bytes.length + uptoBulk d + 1
  | (_, d) => uptoBulk d + 1
 end
def uptoSmall : (H : Type) → List (DataW H) → Bool := fun _ ds => decide (uptoBulkAll ds ≤ 1048576)
def OpenSpec.upto (s : _root_.Go.ChangeSpec) : _root_.Go.OpenSpec := { _root_.Go.OpenSpec.ofChange s with cond := some uptoSmall }

/-- 'reveillelaw22.ProbeBags', WHERE WHAT IT READS IS OF BULK AT MOST 1048576: true; the input reads as it did. -/
def probeBagsUptoRow : OpenClaim := { program := "ytnkababhgloclaa", sum := "c54515b475e582ad018fd5efffba8d0e4eb6ffd0e5186a9f4ea1e6b85849d9bb", func := "reveille/reveillelaw22.ProbeBags", spec := "probeBags", unfollowed := true, recurses := true, apart := false, narrowed := true }
def ProbeBagsUptoSaid : Prop := probeBagsUptoRow.holds Try.pinned (OpenSpec.upto probeBagsSpec)

/-- 'reveillelaw22.ProbeRuns', WHERE WHAT IT READS IS OF BULK AT MOST 1048576: true; the input reads as it did. -/
def probeRunsUptoRow : OpenClaim := { program := "ytnkababhgloclaa", sum := "c54515b475e582ad018fd5efffba8d0e4eb6ffd0e5186a9f4ea1e6b85849d9bb", func := "reveille/reveillelaw22.ProbeRuns", spec := "probeRuns", inPlace := ["internal/bytealg.IndexByteString", "internal/bytealg.IndexString"], unfollowed := true, recurses := true, named := ["internal/bytealg.MaxLen"], apart := false, narrowed := true }
def ProbeRunsUptoSaid : Prop := probeRunsUptoRow.holds Try.pinned (OpenSpec.upto probeRunsSpec)

/-- 'reveillelaw22.ProbeNames', WHERE WHAT IT READS IS OF BULK AT MOST 1048576: true; the input reads as it did. -/
def probeNamesUptoRow : OpenClaim := { program := "ytnkababhgloclaa", sum := "c54515b475e582ad018fd5efffba8d0e4eb6ffd0e5186a9f4ea1e6b85849d9bb", func := "reveille/reveillelaw22.ProbeNames", spec := "probeNames", inPlace := ["internal/bytealg.IndexByteString", "internal/bytealg.IndexString"], unfollowed := true, recurses := true, named := ["internal/bytealg.MaxLen"], apart := false, narrowed := true }
def ProbeNamesUptoSaid : Prop := probeNamesUptoRow.holds Try.pinned (OpenSpec.upto probeNamesSpec)

/-- 'reveillelaw22.ProbeGives', WHERE WHAT IT READS IS OF BULK AT MOST 1048576: true; the input reads as it did. -/
def probeGivesUptoRow : OpenClaim := { program := "ytnkababhgloclaa", sum := "c54515b475e582ad018fd5efffba8d0e4eb6ffd0e5186a9f4ea1e6b85849d9bb", func := "reveille/reveillelaw22.ProbeGives", spec := "probeGives", inPlace := ["internal/bytealg.IndexByteString", "internal/bytealg.IndexString"], unfollowed := true, recurses := true, named := ["internal/bytealg.MaxLen"], apart := false, narrowed := true }
def ProbeGivesUptoSaid : Prop := probeGivesUptoRow.holds Try.pinned (OpenSpec.upto probeGivesSpec)

/-- 'reveillelaw22.ProbeGroups', WHERE WHAT IT READS IS OF BULK AT MOST 1048576: true; the input reads as it did. -/
def probeGroupsUptoRow : OpenClaim := { program := "ytnkababhgloclaa", sum := "c54515b475e582ad018fd5efffba8d0e4eb6ffd0e5186a9f4ea1e6b85849d9bb", func := "reveille/reveillelaw22.ProbeGroups", spec := "probeGroups", inPlace := ["internal/bytealg.IndexByteString", "internal/bytealg.IndexString"], unfollowed := true, recurses := true, named := ["internal/bytealg.MaxLen"], apart := false, narrowed := true }
def ProbeGroupsUptoSaid : Prop := probeGroupsUptoRow.holds Try.pinned (OpenSpec.upto probeGroupsSpec)

/-- 'reveillelaw22.ProbeReverse', WHERE WHAT IT READS IS OF BULK AT MOST 1048576: true; the input reads as it did. -/
def probeReverseUptoRow : OpenClaim := { program := "ytnkababhgloclaa", sum := "c54515b475e582ad018fd5efffba8d0e4eb6ffd0e5186a9f4ea1e6b85849d9bb", func := "reveille/reveillelaw22.ProbeReverse", spec := "probeReverse", inPlace := ["internal/bytealg.IndexByteString", "internal/bytealg.IndexString"], unfollowed := true, recurses := true, named := ["internal/bytealg.MaxLen"], apart := false, narrowed := true }
def ProbeReverseUptoSaid : Prop := probeReverseUptoRow.holds Try.pinned (OpenSpec.upto probeReverseSpec)

end Rows
end Go.Proofs.Ytnkababhgloclaa
