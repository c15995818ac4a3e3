/- Small words used everywhere. -/
import Derived.WalkKit
namespace Go.Proofs.YtlkkkohgeakfaaaDoor
open Go.RowKit
theorem ret_int {k : IntKind} {a b : Int} (h : a = b) : Ending.returned (.int k a) = .returned (.int k b) := by rw [h]
/-- The i-th number (0 behind the end); opaque to simp. -/
def nth (zs : List Int) (i : Nat) : Int := zs.getD i 0
theorem nth_mem {zs : List Int} {i : Nat} (h : i < zs.length) : nth zs i ∈ zs := by simp [nth, List.getD, h]
theorem nth_eq {zs : List Int} {i : Nat} (h : i < zs.length) : nth zs i = zs[i] := by simp [nth, List.getD, h]
end Go.Proofs.YtlkkkohgeakfaaaDoor
