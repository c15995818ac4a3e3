/- Contracts: the law's awake, and the document's own functions of chapter 8. -/
import Derived.Test.YtmlabnbbpmmonaaDoorCrystalC
namespace Go.Proofs.YtmlabnbbpmmonaaDoor
open Go.RowKit

theorem awake_any (w : World) (hT : Tab w) : Calls Tryd.prog 18 #[] w fun e w' => e = .returned (.bool true) ∧ w = w' := by
  have t0 : tab 0 = 32768 := rfl
  have t1 : tab 31 = 100000000 := rfl
  have c0 := rate_in 0 w (by omega) (hT.at 0 (by omega))
  have c1 := rate_in 31 w (by omega) (hT.at 31 (by omega))
  rw [t0] at c0
  rw [t1] at c1
  have C0 := Lib.hid c0
  have C1 := Lib.hid c1
  clear c0 c1 t0 t1
  go_enter Tryd.func18, Tryd.ntmps18
  go_wp2_with fail
  refine C0.out.mono ?_
  rintro e w' ⟨rfl, rfl⟩
  go_wp2_with fail
  refine C1.out.mono ?_
  rintro e w' ⟨rfl, rfl⟩
  go_wp2_with fail
  refine (divider_ok 100 30 w (by omega) (by omega) (by omega) (by omega) (by decide)).mono ?_
  rintro e w' ⟨rfl, rfl⟩
  go_wp2_with fail
  go_ret
  exact ⟨rfl, rfl⟩


theorem f64b (b : Nat) (w : World) : (callFunc 17 #[.float .f64 b]).run Tryd.prog w = .ok (.value (.int .u64 b)) w := by kernel_rfl

theorem tab_mid : ∀ k, k < 32 → k ≠ 0 → k ≠ 31 → tab k = 1000000 + 1000000 * (k : Int) := by decide +kernel
theorem refEntry (k : Nat) (w : World) (hk : k < 32) : Calls Tryd.prog 15 #[.int .i64 k] w fun e w' => e = .returned (.int .i64 (tab k)) ∧ w = w' := by
  by_cases h0 : k = 0
  · subst h0
    show Calls Tryd.prog 15 #[.int .i64 0] w fun e w' => e = .returned (.int .i64 32768) ∧ w = w'
    go_enter Tryd.func15, Tryd.ntmps15
    go_wp2
    go_ret
    exact ⟨rfl, rfl⟩
  by_cases h1 : k = 31
  · subst h1
    show Calls Tryd.prog 15 #[.int .i64 31] w fun e w' => e = .returned (.int .i64 100000000) ∧ w = w'
    go_enter Tryd.func15, Tryd.ntmps15
    go_wp2
    go_ret
    exact ⟨rfl, rfl⟩
  have hm := Lib.hid (tab_mid k hk h0 h1)
  have e0 : ((k : Int) == 0) = false := by simp; omega
  have e1 : ((k : Int) == 31) = false := by simp; omega
  clear h0 h1
  go_enter Tryd.func15, Tryd.ntmps15
  go_wp2
  go_ret
  exact ⟨by rw [hm.out]; rfl, rfl⟩

theorem refPeriod_out (i : Int) (w : World) (hk : i < 0 ∨ 31 < i) : Calls Tryd.prog 14 #[.int .i64 i] w fun e w' => e = .returned (.tuple #[.float .f64 0, .int .i64 1]) ∧ w = w' := by
  by_cases h : i < 0
  · clear hk
    go_enter Tryd.func14, Tryd.ntmps14
    go_wp2
    go_ret2
    exact ⟨rfl, rfl⟩
  · have h' : 31 < i := by omega
    clear hk
    go_enter Tryd.func14, Tryd.ntmps14
    go_wp2
    go_ret2
    exact ⟨rfl, rfl⟩
theorem refPeriod_in (k : Nat) (w : World) (hk : k < 32) : Calls Tryd.prog 14 #[.int .i64 k] w fun e w' => e = .returned (.tuple #[.float .f64 (per k), .int .i64 0]) ∧ w = w' := by
  have hq := fun w => run_float_arith (P := Tryd.prog) w .quo 25 .f64 _ _ _ (per_eq k hk)
  go_enter Tryd.func14, Tryd.ntmps14
  go_wp2_with (go_at_call 15; refine (refEntry _ _ hk).mono ?_; rintro e w' ⟨rfl, rfl⟩)
  go_ret2
  exact ⟨rfl, rfl⟩

theorem refAway (a b : Int) (w : World) (h0 : 0 ≤ a) (h1 : 0 ≤ b) (h2 : a ≤ 9223372036854775807) (h3 : b ≤ 9223372036854775807) :
    Calls Tryd.prog 21 #[.int .i64 a, .int .i64 b] w fun e w' => e = .returned (.int .i64 (max (b - a) (a - b))) ∧ w = w' := by
  by_cases h : a < b
  · go_enter Tryd.func21, Tryd.ntmps21
    go_wp2
    go_ret
    exact ⟨ret_int (by omega), rfl⟩
  · go_enter Tryd.func21, Tryd.ntmps21
    go_wp2
    go_ret
    exact ⟨ret_int (by omega), rfl⟩

theorem refNear_arg (v : Int) (w : World) (hv : v < 0) :
    Calls Tryd.prog 16 #[.int .i64 v] w fun e w' => e = .returned (.tuple #[.int .i64 0, .int .i64 1]) ∧ w = w' := by
  go_enter Tryd.func16, Tryd.ntmps16
  go_wp2
  go_ret2
  exact ⟨rfl, rfl⟩
set_option maxHeartbeats 1000000 in
theorem refNear_ok (v : Int) (w : World) (hv0 : 0 ≤ v) (hv1 : v ≤ 9223372036854775807) :
    Calls Tryd.prog 16 #[.int .i64 v] w fun e w' => e = .returned (.tuple #[.int .i64 (nearTo v 32), .int .i64 0]) ∧ w = w' := by
  have a1 : ¬ v < 0 := by omega
  go_enter Tryd.func16, Tryd.ntmps16
  go_wp2
  go_loop [4, 5] (fun at' i => ∃ k : Nat, 1 ≤ k ∧ k ≤ 32 ∧ i = .int .i64 k ∧ at' = .int .i64 (nearTo v k)) (fun _ i => 32 - (intOf i).toNat)
  case atStart => exact ⟨1, by omega, by omega, rfl, by simp [nearTo]⟩
  case round =>
    obtain ⟨k, hk1, hk, rfl, rfl⟩ := hrel
    by_cases hlt : k < 32
    · have hn := nearTo_lt v k hk
      obtain ⟨p0, p1⟩ := tab_bd k hlt
      obtain ⟨q0, q1⟩ := tab_bd _ hn
      go_wp2_with fail
      refine (refEntry k _ hlt).mono ?_
      rintro e w1 ⟨rfl, rfl⟩
      go_wp2_with fail
      refine (refAway _ v _ p0 hv0 (by omega) hv1).mono ?_
      rintro e w1 ⟨rfl, rfl⟩
      go_wp2_with fail
      refine (refEntry _ _ hn).mono ?_
      rintro e w1 ⟨rfl, rfl⟩
      go_wp2_with fail
      refine (refAway _ v _ q0 hv0 (by omega) hv1).mono ?_
      rintro e w1 ⟨rfl, rfl⟩
      by_cases hc : max (v - tab k) (tab k - v) < max (v - tab (nearTo v k)) (tab (nearTo v k) - v)
      · have HS : Hid (nearTo v (k + 1) = k) := by unfold Hid; simp only [nearTo]; rw [if_pos hc]
        go_wp2
        go_round
        case rel => exact ⟨k + 1, by omega, by omega, by go_num, by rw [HS.out]⟩
        case measure => simp [intOf]; omega
      · have HS : Hid (nearTo v (k + 1) = nearTo v k) := by unfold Hid; simp only [nearTo]; rw [if_neg hc]
        go_wp2
        go_round
        case rel => exact ⟨k + 1, by omega, by omega, by go_num, by rw [HS.out]⟩
        case measure => simp [intOf]; omega
    · obtain rfl : k = 32 := by omega
      go_wp2
      go_ret2
      exact ⟨rfl, rfl⟩
end Go.Proofs.YtmlabnbbpmmonaaDoor
