/- Cards in memory of their own: the document's Twin, Twins. -/
import Derived.Test.YtlgbmjdlgjdolaaFamS
namespace Go.Proofs.Ytlgbmjdlgjdolaa
open Go.RowKit Go.ChangeShapes
theorem infoS : (Try.prog.info? 9).map (fun i => (i.zero, i.size, i.bytes)) = some (some (.string .empty), 1, 16) := by kernel_rfl
theorem infoC : (Try.prog.info? 34).map (fun i => (i.zero, i.size, i.bytes)) = some (some (.agg #[.string .empty, .string .empty, .int .u8 0, .slice none 0 0, .int .i8 0, .string .empty, .int .i16 0]), 7, 96) := by kernel_rfl
def Twinned (c : Cd) (w : World) (e : Ending) (w' : World) : Prop := ∃ g cap, e = .returned (.agg (c.cells (.slice (some ⟨g, 0, none⟩) c.comp.length cap)).toArray) ∧ w'.ownsRow w.heap.size 9 1 (.slice (some ⟨g, 0, none⟩) c.comp.length cap) c.comp.length (sc c.comp) ∧ Below w.heap.size w w'
/-- The cards and their texts lie in memory of their own. -/
def Own (w : World) (B : Nat) (v : Value) (l : List (Cd × Value)) : Prop := w.ownsRow B 34 7 v l.length (ccells l) ∧ FamS w B 9 (l.map fun r => (r.2, r.1.comp))
def Twinsd (cs : List Cd) (w : World) (e : Ending) (w' : World) : Prop := ∃ vo l, e = .returned vo ∧ l.map (·.1) = cs ∧ Own w' w.heap.size vo l ∧ Below w.heap.size w w'
end Go.Proofs.Ytlgbmjdlgjdolaa
