/-
  NARROWER THAN 'FOR EVERY INPUT', by the rows' own cells (each row's printed sentence says how): CrystalNames: laid · CrystalStands: laid · CrystalAsks: laid · CrystalLeast: laid · CrystalNearest: laid · CrystalKeeps: laid.
  DERIVED. THE GIVEN ROWS OF THIS SEAT. 6 by the template 'for every input the law returns true; each argument reads behind the call as it read before'; 0 by the template 'total and deterministic' (their statements: YtmlabnbbpmmonaaDoorTotals.lean).
  GIVEN WITH THE SEED: the statements are not yours to turn. If you find one false, say at which input.
  Laid BY PROGRAM, IN A SANDBOX (cutbox-rows.mjs): the forced cells as the released guide's own fill.sh prints them over the translation 5dafdc05cd7e0a1c… (all of the seat's roots in one cut). By AI agents, Wed Nov 11 2026. No macro, syntax, notation, axiom, sorry.
-/
import Derived.Test.YtmlabnbbpmmonaaDoorChecked
import GoSem.Claim
import GoSem.ClaimJoined
import GoSem.ClaimMapViews
import Derived.JoinedTies
import Derived.KernelRfl
namespace Go.Proofs.YtmlabnbbpmmonaaDoor
/- THE CELL 'sum', in the pinned program and in every row, IS THE sha256 OF THE DUMP (.gsa) THAT YtmlabnbbpmmonaaDoorProg.lean LOADS. Nothing in Lean hashes anything: it is a label: what it is worth is what the hold of that sum in a sandbox is worth. -/
noncomputable def Tryd.pinned : Pinned := { name := "ytmlabnbbpmmonaadoor", sum := "5dafdc05cd7e0a1ce71a74d12971ec0aad8735e9c53635c650428c9cd37f8eaf", checked := Tryd.checked }
namespace Rows
def none {H : Type} : Left H := { results := [], args := [] }

/- WHAT THE LISTED PACKAGE-LEVEL VARIABLES READ AS WHEN THE CALL BEGINS. Each datum BY PROGRAM (the guide's laid-datum.mjs) off the statement by which the dump's own 'gosem.cut.vars' lays the variable. In a bare row this is a premise. The card (YtmlabnbbpmmonaaDoorCards.lean) ties it to the program's text. -/
def laid_reveille_crystal_table {H : Type} : DataW H := .agg [.lit (.int .i64 32768), .lit (.int .i64 2000000), .lit (.int .i64 3000000), .lit (.int .i64 4000000), .lit (.int .i64 5000000), .lit (.int .i64 6000000), .lit (.int .i64 7000000), .lit (.int .i64 8000000), .lit (.int .i64 9000000), .lit (.int .i64 10000000), .lit (.int .i64 11000000), .lit (.int .i64 12000000), .lit (.int .i64 13000000), .lit (.int .i64 14000000), .lit (.int .i64 15000000), .lit (.int .i64 16000000), .lit (.int .i64 17000000), .lit (.int .i64 18000000), .lit (.int .i64 19000000), .lit (.int .i64 20000000), .lit (.int .i64 21000000), .lit (.int .i64 22000000), .lit (.int .i64 23000000), .lit (.int .i64 24000000), .lit (.int .i64 25000000), .lit (.int .i64 26000000), .lit (.int .i64 27000000), .lit (.int .i64 28000000), .lit (.int .i64 29000000), .lit (.int .i64 30000000), .lit (.int .i64 31000000), .lit (.int .i64 100000000)]

/-- 'reveillelaw08.CrystalNames': WHATEVER THE INPUT: true; the input reads as it did. -/
def crystalNamesSpec : ChangeSpec := { name := "crystalNames", fn := fun _ => fun
  | [] => { results := [.lit (.bool true)], args := [] }
  | _ => none }
def crystalNamesRow : OpenClaim := { program := "ytmlabnbbpmmonaadoor", sum := "5dafdc05cd7e0a1ce71a74d12971ec0aad8735e9c53635c650428c9cd37f8eaf", func := "reveille/reveillelaw08.CrystalNames", spec := "crystalNames", named := ["reveille/crystal.table"], apart := false, laid := [("reveille/crystal.table", laid_reveille_crystal_table)] }
def CrystalNamesSaid : Prop := crystalNamesRow.holds Tryd.pinned (OpenSpec.ofChange crystalNamesSpec)

/-- ITS FALSE NEIGHBOUR: 'it returns false'. Refute it at one input. -/
def crystalNamesWrong : ChangeSpec := { name := "crystalNames", fn := fun _ => fun
  | [] => { results := [.lit (.bool false)], args := [] }
  | _ => none }
def CrystalNamesWrongFalsely : Prop := crystalNamesRow.holds Tryd.pinned (OpenSpec.ofChange crystalNamesWrong)

/-- 'reveillelaw08.CrystalStands': WHATEVER THE INPUT: true; the input reads as it did. -/
def crystalStandsSpec : ChangeSpec := { name := "crystalStands", fn := fun _ => fun
  | [] => { results := [.lit (.bool true)], args := [] }
  | _ => none }
def crystalStandsRow : OpenClaim := { program := "ytmlabnbbpmmonaadoor", sum := "5dafdc05cd7e0a1ce71a74d12971ec0aad8735e9c53635c650428c9cd37f8eaf", func := "reveille/reveillelaw08.CrystalStands", spec := "crystalStands", unfollowed := true, recurses := true, named := ["reveille/crystal.table"], apart := false, laid := [("reveille/crystal.table", laid_reveille_crystal_table)] }
def CrystalStandsSaid : Prop := crystalStandsRow.holds Tryd.pinned (OpenSpec.ofChange crystalStandsSpec)

/-- ITS FALSE NEIGHBOUR: 'it returns false'. Refute it at one input. -/
def crystalStandsWrong : ChangeSpec := { name := "crystalStands", fn := fun _ => fun
  | [] => { results := [.lit (.bool false)], args := [] }
  | _ => none }
def CrystalStandsWrongFalsely : Prop := crystalStandsRow.holds Tryd.pinned (OpenSpec.ofChange crystalStandsWrong)

/-- 'reveillelaw08.CrystalAsks': WHATEVER THE INPUT: true; the input reads as it did. -/
def crystalAsksSpec : ChangeSpec := { name := "crystalAsks", fn := fun _ => fun
  | [d1, d2] => { results := [.lit (.bool true)], args := [d1, d2] }
  | _ => none }
def crystalAsksRow : OpenClaim := { program := "ytmlabnbbpmmonaadoor", sum := "5dafdc05cd7e0a1ce71a74d12971ec0aad8735e9c53635c650428c9cd37f8eaf", func := "reveille/reveillelaw08.CrystalAsks", spec := "crystalAsks", inPlace := ["math.Float64bits"], unfollowed := true, recurses := true, named := ["reveille/crystal.table"], apart := false, laid := [("reveille/crystal.table", laid_reveille_crystal_table)] }
def CrystalAsksSaid : Prop := crystalAsksRow.holds Tryd.pinned (OpenSpec.ofChange crystalAsksSpec)

/-- ITS FALSE NEIGHBOUR: 'it returns false'. Refute it at one input. -/
def crystalAsksWrong : ChangeSpec := { name := "crystalAsks", fn := fun _ => fun
  | [d1, d2] => { results := [.lit (.bool false)], args := [d1, d2] }
  | _ => none }
def CrystalAsksWrongFalsely : Prop := crystalAsksRow.holds Tryd.pinned (OpenSpec.ofChange crystalAsksWrong)

/-- 'reveillelaw08.CrystalLeast': WHATEVER THE INPUT: true; the input reads as it did. -/
def crystalLeastSpec : ChangeSpec := { name := "crystalLeast", fn := fun _ => fun
  | [d1, d2, d3, d4] => { results := [.lit (.bool true)], args := [d1, d2, d3, d4] }
  | _ => none }
def crystalLeastRow : OpenClaim := { program := "ytmlabnbbpmmonaadoor", sum := "5dafdc05cd7e0a1ce71a74d12971ec0aad8735e9c53635c650428c9cd37f8eaf", func := "reveille/reveillelaw08.CrystalLeast", spec := "crystalLeast", named := ["reveille/crystal.table"], apart := false, laid := [("reveille/crystal.table", laid_reveille_crystal_table)] }
def CrystalLeastSaid : Prop := crystalLeastRow.holds Tryd.pinned (OpenSpec.ofChange crystalLeastSpec)

/-- ITS FALSE NEIGHBOUR: 'it returns false'. Refute it at one input. -/
def crystalLeastWrong : ChangeSpec := { name := "crystalLeast", fn := fun _ => fun
  | [d1, d2, d3, d4] => { results := [.lit (.bool false)], args := [d1, d2, d3, d4] }
  | _ => none }
def CrystalLeastWrongFalsely : Prop := crystalLeastRow.holds Tryd.pinned (OpenSpec.ofChange crystalLeastWrong)

/-- 'reveillelaw08.CrystalNearest': WHATEVER THE INPUT: true; the input reads as it did. -/
def crystalNearestSpec : ChangeSpec := { name := "crystalNearest", fn := fun _ => fun
  | [d] => { results := [.lit (.bool true)], args := [d] }
  | _ => none }
def crystalNearestRow : OpenClaim := { program := "ytmlabnbbpmmonaadoor", sum := "5dafdc05cd7e0a1ce71a74d12971ec0aad8735e9c53635c650428c9cd37f8eaf", func := "reveille/reveillelaw08.CrystalNearest", spec := "crystalNearest", unfollowed := true, recurses := true, named := ["reveille/crystal.table"], apart := false, laid := [("reveille/crystal.table", laid_reveille_crystal_table)] }
def CrystalNearestSaid : Prop := crystalNearestRow.holds Tryd.pinned (OpenSpec.ofChange crystalNearestSpec)

/-- ITS FALSE NEIGHBOUR: 'it returns false'. Refute it at one input. -/
def crystalNearestWrong : ChangeSpec := { name := "crystalNearest", fn := fun _ => fun
  | [d] => { results := [.lit (.bool false)], args := [d] }
  | _ => none }
def CrystalNearestWrongFalsely : Prop := crystalNearestRow.holds Tryd.pinned (OpenSpec.ofChange crystalNearestWrong)

/-- 'reveillelaw08.CrystalKeeps': WHATEVER THE INPUT: true; the input reads as it did. -/
def crystalKeepsSpec : ChangeSpec := { name := "crystalKeeps", fn := fun _ => fun
  | [d] => { results := [.lit (.bool true)], args := [d] }
  | _ => none }
def crystalKeepsRow : OpenClaim := { program := "ytmlabnbbpmmonaadoor", sum := "5dafdc05cd7e0a1ce71a74d12971ec0aad8735e9c53635c650428c9cd37f8eaf", func := "reveille/reveillelaw08.CrystalKeeps", spec := "crystalKeeps", unfollowed := true, recurses := true, named := ["reveille/crystal.table"], apart := false, laid := [("reveille/crystal.table", laid_reveille_crystal_table)] }
def CrystalKeepsSaid : Prop := crystalKeepsRow.holds Tryd.pinned (OpenSpec.ofChange crystalKeepsSpec)

/-- ITS FALSE NEIGHBOUR: 'it returns false'. Refute it at one input. -/
def crystalKeepsWrong : ChangeSpec := { name := "crystalKeeps", fn := fun _ => fun
  | [d] => { results := [.lit (.bool false)], args := [d] }
  | _ => none }
def CrystalKeepsWrongFalsely : Prop := crystalKeepsRow.holds Tryd.pinned (OpenSpec.ofChange crystalKeepsWrong)

/- THE SECOND FORM. 'bulk': how many values and letters a reading holds, each counted each time it is reached (what is shared counts as often as it is met; a slice's spare places count too). A statement '..UptoSaid' is the law's where the arguments, and the package variables that the reading takes, are together of bulk at most 1048576: NARROWER than '..Said'. Prove '..Said' where nothing that the law and all that it calls make is longer than what came in: it says more and counts as full. Else prove '..UptoSaid'. A law counts once. -/
mutual
def uptoBulk {H : Type} : DataW H → Nat
  | .lit (.string bytes) => bytes.length + 1
  | .lit _ => 1
  | .nil => 1
  | .ptr d => uptoBulk d + 1
  | .slice elems spare => uptoBulkAll elems + uptoBulkAll spare + 1
  | .agg parts => uptoBulkAll parts + 1
  | .iface _ d => uptoBulk d + 1
  | .map entries => uptoBulkEntries entries + 1
  | .held _ => 1
def uptoBulkAll {H : Type} : List (DataW H) → Nat
  | [] => 0
  | d :: r => uptoBulk d + uptoBulkAll r
def uptoBulkEntries {H : Type} : List (Lit × DataW H) → Nat
  | [] => 0
  | x :: r => uptoBulkEntry x + uptoBulkEntries r
def uptoBulkEntry {H : Type} : Lit × DataW H → Nat
  | (.string bytes, d) => bytes.length + uptoBulk d + 1
  | (_, d) => uptoBulk d + 1
 end
def uptoSmall : (H : Type) → List (DataW H) → Bool := fun _ ds => decide (uptoBulkAll ds ≤ 1048576)
def OpenSpec.upto (s : _root_.Go.ChangeSpec) : _root_.Go.OpenSpec := { _root_.Go.OpenSpec.ofChange s with cond := some uptoSmall }

/-- 'reveillelaw08.CrystalNames', WHERE WHAT IT READS IS OF BULK AT MOST 1048576: true; the input reads as it did. -/
def crystalNamesUptoRow : OpenClaim := { program := "ytmlabnbbpmmonaadoor", sum := "5dafdc05cd7e0a1ce71a74d12971ec0aad8735e9c53635c650428c9cd37f8eaf", func := "reveille/reveillelaw08.CrystalNames", spec := "crystalNames", named := ["reveille/crystal.table"], apart := false, laid := [("reveille/crystal.table", laid_reveille_crystal_table)], narrowed := true }
def CrystalNamesUptoSaid : Prop := crystalNamesUptoRow.holds Tryd.pinned (OpenSpec.upto crystalNamesSpec)

/-- 'reveillelaw08.CrystalStands', WHERE WHAT IT READS IS OF BULK AT MOST 1048576: true; the input reads as it did. -/
def crystalStandsUptoRow : OpenClaim := { program := "ytmlabnbbpmmonaadoor", sum := "5dafdc05cd7e0a1ce71a74d12971ec0aad8735e9c53635c650428c9cd37f8eaf", func := "reveille/reveillelaw08.CrystalStands", spec := "crystalStands", unfollowed := true, recurses := true, named := ["reveille/crystal.table"], apart := false, laid := [("reveille/crystal.table", laid_reveille_crystal_table)], narrowed := true }
def CrystalStandsUptoSaid : Prop := crystalStandsUptoRow.holds Tryd.pinned (OpenSpec.upto crystalStandsSpec)

/-- 'reveillelaw08.CrystalAsks', WHERE WHAT IT READS IS OF BULK AT MOST 1048576: true; the input reads as it did. -/
def crystalAsksUptoRow : OpenClaim := { program := "ytmlabnbbpmmonaadoor", sum := "5dafdc05cd7e0a1ce71a74d12971ec0aad8735e9c53635c650428c9cd37f8eaf", func := "reveille/reveillelaw08.CrystalAsks", spec := "crystalAsks", inPlace := ["math.Float64bits"], unfollowed := true, recurses := true, named := ["reveille/crystal.table"], apart := false, laid := [("reveille/crystal.table", laid_reveille_crystal_table)], narrowed := true }
def CrystalAsksUptoSaid : Prop := crystalAsksUptoRow.holds Tryd.pinned (OpenSpec.upto crystalAsksSpec)

/-- 'reveillelaw08.CrystalLeast', WHERE WHAT IT READS IS OF BULK AT MOST 1048576: true; the input reads as it did. -/
def crystalLeastUptoRow : OpenClaim := { program := "ytmlabnbbpmmonaadoor", sum := "5dafdc05cd7e0a1ce71a74d12971ec0aad8735e9c53635c650428c9cd37f8eaf", func := "reveille/reveillelaw08.CrystalLeast", spec := "crystalLeast", named := ["reveille/crystal.table"], apart := false, laid := [("reveille/crystal.table", laid_reveille_crystal_table)], narrowed := true }
def CrystalLeastUptoSaid : Prop := crystalLeastUptoRow.holds Tryd.pinned (OpenSpec.upto crystalLeastSpec)

/-- 'reveillelaw08.CrystalNearest', WHERE WHAT IT READS IS OF BULK AT MOST 1048576: true; the input reads as it did. -/
def crystalNearestUptoRow : OpenClaim := { program := "ytmlabnbbpmmonaadoor", sum := "5dafdc05cd7e0a1ce71a74d12971ec0aad8735e9c53635c650428c9cd37f8eaf", func := "reveille/reveillelaw08.CrystalNearest", spec := "crystalNearest", unfollowed := true, recurses := true, named := ["reveille/crystal.table"], apart := false, laid := [("reveille/crystal.table", laid_reveille_crystal_table)], narrowed := true }
def CrystalNearestUptoSaid : Prop := crystalNearestUptoRow.holds Tryd.pinned (OpenSpec.upto crystalNearestSpec)

/-- 'reveillelaw08.CrystalKeeps', WHERE WHAT IT READS IS OF BULK AT MOST 1048576: true; the input reads as it did. -/
def crystalKeepsUptoRow : OpenClaim := { program := "ytmlabnbbpmmonaadoor", sum := "5dafdc05cd7e0a1ce71a74d12971ec0aad8735e9c53635c650428c9cd37f8eaf", func := "reveille/reveillelaw08.CrystalKeeps", spec := "crystalKeeps", unfollowed := true, recurses := true, named := ["reveille/crystal.table"], apart := false, laid := [("reveille/crystal.table", laid_reveille_crystal_table)], narrowed := true }
def CrystalKeepsUptoSaid : Prop := crystalKeepsUptoRow.holds Tryd.pinned (OpenSpec.upto crystalKeepsSpec)

end Rows
end Go.Proofs.YtmlabnbbpmmonaaDoor
