/-
  No cell of these rows narrows 'for every input' (looked for: loops, veiled, ifaces, maps, wideKeys, modest, calm, conditions, laid).
  DERIVED. THE GIVEN ROWS OF THIS SEAT. 4 by the template 'for every input the law returns true; each argument reads behind the call as it read before'; 0 by the template 'total and deterministic' (their statements: YtnelncafocgfhaaTotals.lean).
  GIVEN WITH THE SEED: the statements are not yours to turn. If you find one false, say at which input.
  Laid BY PROGRAM, IN A SANDBOX (cutbox-rows.mjs): the forced cells as the released guide's own fill.sh prints them over the translation 1a37eff96bd2b1ca… (all of the seat's roots in one cut). By AI agents, Wed Nov 11 2026. No macro, syntax, notation, axiom, sorry.
-/
import Derived.Test.YtnelncafocgfhaaChecked
import GoSem.Claim
import GoSem.ClaimJoined
import GoSem.ClaimMapViews
import Derived.JoinedTies
import Derived.KernelRfl
namespace Go.Proofs.Ytnelncafocgfhaa
/- THE CELL 'sum', in the pinned program and in every row, IS THE sha256 OF THE DUMP (.gsa) THAT YtnelncafocgfhaaProg.lean LOADS. Nothing in Lean hashes anything: it is a label: what it is worth is what the hold of that sum in a sandbox is worth. -/
noncomputable def Try.pinned : Pinned := { name := "ytnelncafocgfhaa", sum := "1a37eff96bd2b1ca9df98e6f2deb1c2c7b2608c049cd6a9707109bdf5234e8c5", checked := Try.checked }
namespace Rows
def none {H : Type} : Left H := { results := [], args := [] }

/-- 'reveillelaw06.StartFalls': WHATEVER THE INPUT: true; the input reads as it did. -/
def startFallsSpec : ChangeSpec := { name := "startFalls", fn := fun _ => fun
  | [d] => { results := [.lit (.bool true)], args := [d] }
  | _ => none }
def startFallsRow : OpenClaim := { program := "ytnelncafocgfhaa", sum := "1a37eff96bd2b1ca9df98e6f2deb1c2c7b2608c049cd6a9707109bdf5234e8c5", func := "reveille/reveillelaw06.StartFalls", spec := "startFalls", inPlace := ["internal/bytealg.IndexByteString", "internal/bytealg.IndexString"], unfollowed := true, recurses := true, named := ["internal/bytealg.MaxLen"], plainKeys := false, apart := false }
def StartFallsSaid : Prop := startFallsRow.holds Try.pinned (OpenSpec.ofChange startFallsSpec)

/-- ITS FALSE NEIGHBOUR: 'it returns false'. Refute it at one input. -/
def startFallsWrong : ChangeSpec := { name := "startFalls", fn := fun _ => fun
  | [d] => { results := [.lit (.bool false)], args := [d] }
  | _ => none }
def StartFallsWrongFalsely : Prop := startFallsRow.holds Try.pinned (OpenSpec.ofChange startFallsWrong)

/-- 'reveillelaw06.StartNone': WHATEVER THE INPUT: true; the input reads as it did. -/
def startNoneSpec : ChangeSpec := { name := "startNone", fn := fun _ => fun
  | [] => { results := [.lit (.bool true)], args := [] }
  | _ => none }
def startNoneRow : OpenClaim := { program := "ytnelncafocgfhaa", sum := "1a37eff96bd2b1ca9df98e6f2deb1c2c7b2608c049cd6a9707109bdf5234e8c5", func := "reveille/reveillelaw06.StartNone", spec := "startNone", inPlace := ["internal/bytealg.IndexByteString", "internal/bytealg.IndexString"], unfollowed := true, recurses := true, named := ["internal/bytealg.MaxLen"], plainKeys := false, apart := false }
def StartNoneSaid : Prop := startNoneRow.holds Try.pinned (OpenSpec.ofChange startNoneSpec)

/-- ITS FALSE NEIGHBOUR: 'it returns false'. Refute it at one input. -/
def startNoneWrong : ChangeSpec := { name := "startNone", fn := fun _ => fun
  | [] => { results := [.lit (.bool false)], args := [] }
  | _ => none }
def StartNoneWrongFalsely : Prop := startNoneRow.holds Try.pinned (OpenSpec.ofChange startNoneWrong)

/-- 'reveillelaw06.StartUnseen': WHATEVER THE INPUT: true; the input reads as it did. -/
def startUnseenSpec : ChangeSpec := { name := "startUnseen", fn := fun _ => fun
  | [d1, d2] => { results := [.lit (.bool true)], args := [d1, d2] }
  | _ => none }
def startUnseenRow : OpenClaim := { program := "ytnelncafocgfhaa", sum := "1a37eff96bd2b1ca9df98e6f2deb1c2c7b2608c049cd6a9707109bdf5234e8c5", func := "reveille/reveillelaw06.StartUnseen", spec := "startUnseen", inPlace := ["internal/bytealg.IndexByteString", "internal/bytealg.IndexString"], unfollowed := true, recurses := true, named := ["internal/bytealg.MaxLen"], plainKeys := false, apart := false }
def StartUnseenSaid : Prop := startUnseenRow.holds Try.pinned (OpenSpec.ofChange startUnseenSpec)

/-- ITS FALSE NEIGHBOUR: 'it returns false'. Refute it at one input. -/
def startUnseenWrong : ChangeSpec := { name := "startUnseen", fn := fun _ => fun
  | [d1, d2] => { results := [.lit (.bool false)], args := [d1, d2] }
  | _ => none }
def StartUnseenWrongFalsely : Prop := startUnseenRow.holds Try.pinned (OpenSpec.ofChange startUnseenWrong)

/-- 'reveillelaw06.StartStands': WHATEVER THE INPUT: true; the input reads as it did. -/
def startStandsSpec : ChangeSpec := { name := "startStands", fn := fun _ => fun
  | [d] => { results := [.lit (.bool true)], args := [d] }
  | _ => none }
def startStandsRow : OpenClaim := { program := "ytnelncafocgfhaa", sum := "1a37eff96bd2b1ca9df98e6f2deb1c2c7b2608c049cd6a9707109bdf5234e8c5", func := "reveille/reveillelaw06.StartStands", spec := "startStands", inPlace := ["internal/bytealg.IndexByteString", "internal/bytealg.IndexString"], unfollowed := true, recurses := true, named := ["internal/bytealg.MaxLen"], plainKeys := false, apart := false }
def StartStandsSaid : Prop := startStandsRow.holds Try.pinned (OpenSpec.ofChange startStandsSpec)

/-- ITS FALSE NEIGHBOUR: 'it returns false'. Refute it at one input. -/
def startStandsWrong : ChangeSpec := { name := "startStands", fn := fun _ => fun
  | [d] => { results := [.lit (.bool false)], args := [d] }
  | _ => none }
def StartStandsWrongFalsely : Prop := startStandsRow.holds Try.pinned (OpenSpec.ofChange startStandsWrong)

/- THE SECOND FORM. 'bulk': how many values and letters a reading holds, each counted each time it is reached (what is shared counts as often as it is met; a slice's spare places count too). A statement '..UptoSaid' is the law's where the arguments, and the package variables that the reading takes, are together of bulk at most 1048576: NARROWER than '..Said'. Prove '..Said' where nothing that the law and all that it calls make is longer than what came in: it says more and counts as full. Else prove '..UptoSaid'. A law counts once. -/
mutual
def uptoBulk {H : Type} : DataW H → Nat
  | .lit (.string bytes) => bytes.length + 1
  | .lit _ => 1
  | .nil => 1
  | .ptr d => uptoBulk d + 1
  | .slice elems spare => uptoBulkAll elems + uptoBulkAll spare + 1
  | .agg parts => uptoBulkAll parts + 1
  | .iface _ d => uptoBulk d + 1
  | .map entries => uptoBulkEntries entries + 1
  | .held _ => 1
def uptoBulkAll {H : Type} : List (DataW H) → Nat
  | [] => 0
  | d :: r => uptoBulk d + uptoBulkAll r
def uptoBulkEntries {H : Type} : List (Lit × DataW H) → Nat
  | [] => 0
  | x :: r => uptoBulkEntry x + uptoBulkEntries r
def uptoBulkEntry {H : Type} : Lit × DataW H → Nat
  | (.string bytes, d) => bytes.length + uptoBulk d + 1
  | (_, d) => uptoBulk d + 1
 end
def uptoSmall : (H : Type) → List (DataW H) → Bool := fun _ ds => decide (uptoBulkAll ds ≤ 1048576)
def OpenSpec.upto (s : _root_.Go.ChangeSpec) : _root_.Go.OpenSpec := { _root_.Go.OpenSpec.ofChange s with cond := some uptoSmall }

/-- 'reveillelaw06.StartFalls', WHERE WHAT IT READS IS OF BULK AT MOST 1048576: true; the input reads as it did. -/
def startFallsUptoRow : OpenClaim := { program := "ytnelncafocgfhaa", sum := "1a37eff96bd2b1ca9df98e6f2deb1c2c7b2608c049cd6a9707109bdf5234e8c5", func := "reveille/reveillelaw06.StartFalls", spec := "startFalls", inPlace := ["internal/bytealg.IndexByteString", "internal/bytealg.IndexString"], unfollowed := true, recurses := true, named := ["internal/bytealg.MaxLen"], plainKeys := false, apart := false, narrowed := true }
def StartFallsUptoSaid : Prop := startFallsUptoRow.holds Try.pinned (OpenSpec.upto startFallsSpec)

/-- 'reveillelaw06.StartNone', WHERE WHAT IT READS IS OF BULK AT MOST 1048576: true; the input reads as it did. -/
def startNoneUptoRow : OpenClaim := { program := "ytnelncafocgfhaa", sum := "1a37eff96bd2b1ca9df98e6f2deb1c2c7b2608c049cd6a9707109bdf5234e8c5", func := "reveille/reveillelaw06.StartNone", spec := "startNone", inPlace := ["internal/bytealg.IndexByteString", "internal/bytealg.IndexString"], unfollowed := true, recurses := true, named := ["internal/bytealg.MaxLen"], plainKeys := false, apart := false, narrowed := true }
def StartNoneUptoSaid : Prop := startNoneUptoRow.holds Try.pinned (OpenSpec.upto startNoneSpec)

/-- 'reveillelaw06.StartUnseen', WHERE WHAT IT READS IS OF BULK AT MOST 1048576: true; the input reads as it did. -/
def startUnseenUptoRow : OpenClaim := { program := "ytnelncafocgfhaa", sum := "1a37eff96bd2b1ca9df98e6f2deb1c2c7b2608c049cd6a9707109bdf5234e8c5", func := "reveille/reveillelaw06.StartUnseen", spec := "startUnseen", inPlace := ["internal/bytealg.IndexByteString", "internal/bytealg.IndexString"], unfollowed := true, recurses := true, named := ["internal/bytealg.MaxLen"], plainKeys := false, apart := false, narrowed := true }
def StartUnseenUptoSaid : Prop := startUnseenUptoRow.holds Try.pinned (OpenSpec.upto startUnseenSpec)

/-- 'reveillelaw06.StartStands', WHERE WHAT IT READS IS OF BULK AT MOST 1048576: true; the input reads as it did. -/
def startStandsUptoRow : OpenClaim := { program := "ytnelncafocgfhaa", sum := "1a37eff96bd2b1ca9df98e6f2deb1c2c7b2608c049cd6a9707109bdf5234e8c5", func := "reveille/reveillelaw06.StartStands", spec := "startStands", inPlace := ["internal/bytealg.IndexByteString", "internal/bytealg.IndexString"], unfollowed := true, recurses := true, named := ["internal/bytealg.MaxLen"], plainKeys := false, apart := false, narrowed := true }
def StartStandsUptoSaid : Prop := startStandsUptoRow.holds Try.pinned (OpenSpec.upto startStandsSpec)

end Rows
end Go.Proofs.Ytnelncafocgfhaa
