/- Small words used everywhere. -/
import Derived.WalkKit
import Derived.Deep.QuietTactic
namespace Go.Proofs.Ytnkababhgloclaa
open Go.RowKit
theorem ret_int {k : IntKind} {a b : Int} (h : a = b) : Ending.returned (.int k a) = .returned (.int k b) := by rw [h]
/-- The i-th number (0 behind the end); opaque to simp. -/
def nth (zs : List Int) (i : Nat) : Int := zs.getD i 0
theorem nth_mem {zs : List Int} {i : Nat} (h : i < zs.length) : nth zs i ∈ zs := by simp [nth, List.getD, h]
theorem nth_eq {zs : List Int} {i : Nat} (h : i < zs.length) : nth zs i = zs[i] := by simp [nth, List.getD, h]
/-- A call that leaves the world alone, met in a region behind a draw: the draws are one sum. -/
theorem quiet_at {P : Program} {f : FuncId} {args : Array Value} {w : World} {a n : Nat} {v : Value}
    (h : Calls P f args (w.drewN (a + n)) fun e w' => e = .returned v ∧ w' = w.drewN (a + n)) :
    Calls P f args (w.drewN (a + n)) fun e w'' => e = .returned v ∧ ∃ m, w'' = w.drewN (a + m) :=
  h.mono fun _ _ ⟨he, hm⟩ => ⟨he, n, hm⟩
end Go.Proofs.Ytnkababhgloclaa
