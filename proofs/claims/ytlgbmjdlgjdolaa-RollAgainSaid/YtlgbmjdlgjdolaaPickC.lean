/- pick: a place below 22. -/
import Derived.Test.YtlgbmjdlgjdolaaChecked
import Derived.Test.YtlgbmjdlgjdolaaBase
import Derived.Lib.Hide
import Derived.Outline
import Derived.WalkLawsBesides
import Derived.WalkSpells
namespace Go.Proofs.Ytlgbmjdlgjdolaa
open Go.RowKit
theorem pick_in (z : Int) (n : Nat) (hn : 0 < n) : ∃ (r : Int) (J : Nat), z.tmod (n : Int) = r ∧ J < n ∧ (¬ r < 0 → r = (J : Int)) ∧ (r < 0 → r + (n : Int) = (J : Int)) ∧ -(n : Int) < r := by
  have h1 := Int.lt_tmod_of_pos z (b := (n : Int)) (by omega)
  have h2 := Int.tmod_lt_of_pos z (b := (n : Int)) (by omega)
  by_cases h : z.tmod (n : Int) < 0
  · exact ⟨_, (z.tmod (n : Int) + n).toNat, rfl, by omega, fun h' => absurd h h', fun _ => by omega, h1⟩
  · exact ⟨_, (z.tmod (n : Int)).toNat, rfl, by omega, fun _ => by omega, fun h' => absurd h' h, h1⟩
def Picked (w : World) (e : Ending) (w' : World) : Prop := (∃ P : Nat, P < 22 ∧ e = .returned (.int .i64 P)) ∧ w' = w
set_option maxHeartbeats 1000000 in
theorem pick_any (z : Int) (w : World) : Calls Try.prog 17 #[.int .i64 z, .int .i64 22] w (Picked w) := by
  obtain ⟨r, J, e1, hJ, h3, h4, h5⟩ := pick_in z 22 (by omega)
  have e1 : z.tmod 22 = r := e1
  by_cases hneg : r < 0
  · have e4 : r + 22 = (J : Int) := h4 hneg
    have hr : r < 22 := by omega
    have h5 : -22 < r := h5
    clear h3 h4
    go_enter Try.func17, Try.ntmps17
    go_wp2_with fail
    go_ret
    exact ⟨⟨J, hJ, rfl⟩, rfl⟩
  · have e4 : r = (J : Int) := h3 hneg
    have hJ2 : (J : Int) < 22 := by omega
    have hJ3 : ¬ (J : Int) < 0 := by omega
    clear h3 h4 h5 hneg
    rw [e4] at e1
    clear e4
    go_enter Try.func17, Try.ntmps17
    go_wp2_with fail
    go_ret
    exact ⟨⟨J, hJ, rfl⟩, rfl⟩
end Go.Proofs.Ytlgbmjdlgjdolaa
