/- ints: two lists of numbers; bits. -/
import Derived.Test.YtlkkkohgeakfaaaDoorTables
import Derived.Test.YtlkkkohgeakfaaaDoorOpenLib
import Derived.WalkKit
import Derived.WalkLawsBesides
import Derived.WalkSpells
import Derived.Outline
import Derived.LoopTactic
import Derived.Below
import Derived.Deep.QuietTactic
import Derived.BigQuiet
import Derived.Handy
namespace Go.Proofs.YtlkkkohgeakfaaaDoor
open Go.RowKit
set_option maxHeartbeats 1000000 in
theorem ints_eq (v u : Value) (zs : List Int) (w : World) (hv : Ints .i64 w v zs) (hu : Ints .i64 w u zs) :
    Calls Tryd.prog 18 #[v, u] w fun e w' => e = .returned (.bool true) ∧ ∃ n, w' = w.drewN n := by
  obtain ⟨a, cap, rfl, hm, _, hc⟩ := hv
  obtain ⟨a', cap', rfl, _, _, hc'⟩ := hu
  have HC := Lib.hid hc
  have HC' := Lib.hid hc'
  clear hc hc'
  unfold maxLen at hm
  go_enter Tryd.func18, Tryd.ntmps18
  go_wp2_with fail
  go_loopw [5] (fun i wr => ∃ k n : Nat, k ≤ zs.length ∧ i = .int .i64 k ∧ wr = w.drewN n) (fun i _ => zs.length - (intOf i).toNat)
  case atStart => exact ⟨0, 0, by omega, rfl, rfl⟩
  case round =>
    obtain ⟨k, n, hk, rfl, rfl⟩ := hrel
    by_cases hlt : k < zs.length
    · obtain ⟨b, off, hp, g⟩ := HC.out k hlt
      obtain ⟨b', off', hp', g'⟩ := HC'.out k hlt
      subst hp hp'
      go_wp2_with fail
      go_quiet (fail)
      go_wp2_with fail
      go_roundw
      case rel => exact ⟨k + 1, _, by omega, by go_num, rfl⟩
      case measure => simp [intOf]; omega
    · obtain rfl : k = zs.length := by omega
      go_wp2_with fail
      go_ret
      exact ⟨rfl, _, rfl⟩
theorem f64b (b : Nat) (w : World) : (callFunc 37 #[.float .f64 b]).run Tryd.prog w = .ok (.value (.int .u64 b)) w := by kernel_rfl
theorem bits_eq (x : Nat) (w : World) :
    Calls Tryd.prog 25 #[.float .f64 x, .float .f64 x] w fun e w' => e = .returned (.bool true) ∧ w = w' := by
  have hb := fun w => f64b x w
  go_enter Tryd.func25, Tryd.ntmps25
  go_wp2_with fail
  go_ret
  exact ⟨rfl, rfl⟩
end Go.Proofs.YtlkkkohgeakfaaaDoor
