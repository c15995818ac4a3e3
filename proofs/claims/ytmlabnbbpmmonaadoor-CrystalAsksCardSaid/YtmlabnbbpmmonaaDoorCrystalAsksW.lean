/- The walk of CrystalAsks. -/
import Derived.Test.YtmlabnbbpmmonaaDoorCrystalA
import Derived.OpenShut
namespace Go.Proofs.YtmlabnbbpmmonaaDoor
open Go.RowKit Go.ChangeShapes

theorem nears (v : Int) (W : World) (hT : Tab W) (hv : v ≤ 9223372036854775807) : ∃ n h : Int,
    Calls Tryd.prog 13 #[.int .i64 v] W (fun e w' => e = .returned (.tuple #[.int .i64 n, .int .i64 h]) ∧ Below W.heap.size W w') ∧
    ∀ w, Calls Tryd.prog 16 #[.int .i64 v] w (fun e w' => e = .returned (.tuple #[.int .i64 n, .int .i64 h]) ∧ w = w') := by
  by_cases h : v < 0
  · exact ⟨0, 1, near_arg v W h, fun w => refNear_arg v w h⟩
  · exact ⟨_, 0, near_ok v W hT hT.pos (by omega) hv, fun w => refNear_ok v w (by omega) hv⟩

set_option maxHeartbeats 1000000 in
theorem crystalAsks_walk (i v : Int) (W : World) (wfi : (Lit.int .i64 i).wf = true) (wf : (Lit.int .i64 v).wf = true) (_ : W.ShapedOpen Tryd.prog) (hT : Tab W) :
    Calls Tryd.prog 5 #[.int .i64 i, .int .i64 v] W fun e w' => e = .returned (.bool true) ∧ Below W.heap.size W w' := by
  have fb := fun b w => f64b b w
  obtain ⟨n, h, hN, hR⟩ := nears v W hT (bounds_i64 wf).2
  have HN := Lib.hid hN
  have HR := Lib.hid hR
  clear hN hR wf wfi
  by_cases ho : i < 0 ∨ 31 < i
  · have HO := Lib.hid ho
    clear ho
    go_enter Tryd.func5, Tryd.ntmps5
    go_wp2_with fail
    refine (rate_out i W (by have := HO.out; omega)).mono ?_
    rintro e w' ⟨rfl, rfl⟩
    go_wp2_with fail
    refine (period_out i W (by have := HO.out; omega)).mono ?_
    rintro e w' ⟨rfl, rfl⟩
    go_wp2_with fail
    refine (refPeriod_out i W HO.out).mono ?_
    rintro e w' ⟨rfl, rfl⟩
    go_wp2_with fail
    refine HN.out.mono ?_
    rintro e w' ⟨rfl, hb⟩
    have HB := Lib.hid hb
    clear hb
    go_wp2_with fail
    refine (HR.out _).mono ?_
    rintro e w' ⟨rfl, rfl⟩
    go_wp2_with fail
    go_ret
    exact ⟨rfl, HB.out⟩
  · obtain ⟨k, rfl⟩ := Int.eq_ofNat_of_zero_le (show 0 ≤ i by omega)
    have hk : k < 32 := by omega
    clear ho
    have hc := Lib.hid (hT.at k hk)
    go_enter Tryd.func5, Tryd.ntmps5
    go_wp2_with fail
    refine (rate_in k W hk hc.out).mono ?_
    rintro e w' ⟨rfl, rfl⟩
    go_wp2_with fail
    refine (period_in k W hk hc.out).mono ?_
    rintro e w' ⟨rfl, rfl⟩
    go_wp2_with fail
    refine (refPeriod_in k W hk).mono ?_
    rintro e w' ⟨rfl, rfl⟩
    go_wp2_with fail
    refine HN.out.mono ?_
    rintro e w' ⟨rfl, hb⟩
    have HB := Lib.hid hb
    clear hb
    go_wp2_with fail
    refine (HR.out _).mono ?_
    rintro e w' ⟨rfl, rfl⟩
    go_wp2_with fail
    refine (refEntry k _ hk).mono ?_
    rintro e w1 ⟨rfl, rfl⟩
    go_wp2_with fail
    go_ret
    exact ⟨rfl, HB.out⟩
end Go.Proofs.YtmlabnbbpmmonaaDoor
