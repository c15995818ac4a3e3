/- The document's Ramp. -/
import Derived.Test.YtnomamimpnogpaaDoorRampC
namespace Go.Proofs.YtnomamimpnogpaaDoor
open Go.RowKit
theorem isInf_yes (s : Nat) (w : World) (h : FloatKind.f64.format.order s 9218868437227405311 = some .gt) :
    Calls Tryd.prog 45 #[.float .f64 s, .int .i64 1] w fun e w' => e = .returned (.bool true) ∧ w = w' := by
  go_enter Tryd.func45, Tryd.ntmps45
  go_wp2_with fail
  go_ret
  exact ⟨rfl, rfl⟩
theorem isInf_no (s : Nat) (w : World) (h : FloatKind.f64.format.order s 9218868437227405311 = some .lt ∨ FloatKind.f64.format.order s 9218868437227405311 = some .eq) :
    Calls Tryd.prog 45 #[.float .f64 s, .int .i64 1] w fun e w' => e = .returned (.bool false) ∧ w = w' := by
  rcases h with h | h
  · go_enter Tryd.func45, Tryd.ntmps45
    go_wp2_with fail
    go_ret
    exact ⟨rfl, rfl⟩
  · go_enter Tryd.func45, Tryd.ntmps45
    go_wp2_with fail
    go_ret
    exact ⟨rfl, rfl⟩
theorem refRamp_ok (a b s : Nat) (w : World) (ha : a < 24) (hb : b < 24) (hs : okS s) :
    Calls Tryd.prog 25 #[.int .i64 a, .int .i64 b, .float .f64 s] w fun e w' => e = .returned (.tuple #[.float .f64 (rampV a b s), .int .i64 0]) ∧ w = w' := by
  obtain ⟨s1, s2⟩ := hs
  have S2 := Lib.hid s2
  have hq := fun w => run_float_arith (P := Tryd.prog) w .quo 43 .f64 _ _ _ (ramp_eq a b s ha hb s1)
  obtain ⟨b1, b2⟩ := supply_bd a ha
  obtain ⟨b3, b4⟩ := supply_bd b hb
  have HA := Lib.hid ha
  have HB := Lib.hid hb
  clear ha hb s2
  unfold dist at hq
  rcases Int.lt_trichotomy (nth supplyL a) (nth supplyL b) with hab | hab | hab
  · rw [if_pos hab] at hq
    have hd : ¬ nth supplyL b - nth supplyL a < 0 := by omega
    go_enter Tryd.func25, Tryd.ntmps25
    go_wp2_with fail
    refine (there_in a _ HA.out).mono ?_
    rintro e w' ⟨rfl, rfl⟩
    go_wp2_with fail
    refine (there_in b _ HB.out).mono ?_
    rintro e w' ⟨rfl, rfl⟩
    go_wp2_with fail
    refine (isInf_no s _ S2.out).mono ?_
    rintro e w' ⟨rfl, rfl⟩
    go_wp2_with fail
    refine (entry_at b _ HB.out).mono ?_
    rintro e w' ⟨rfl, rfl⟩
    go_wp2_with fail
    refine (entry_at a _ HA.out).mono ?_
    rintro e w' ⟨rfl, rfl⟩
    go_wp2_with fail
    go_ret2
    exact ⟨rfl, rfl⟩
  · rw [hab, if_neg (by omega), Int.sub_self] at hq
    go_enter Tryd.func25, Tryd.ntmps25
    go_wp2_with fail
    refine (there_in a _ HA.out).mono ?_
    rintro e w' ⟨rfl, rfl⟩
    go_wp2_with fail
    refine (there_in b _ HB.out).mono ?_
    rintro e w' ⟨rfl, rfl⟩
    go_wp2_with fail
    refine (isInf_no s _ S2.out).mono ?_
    rintro e w' ⟨rfl, rfl⟩
    go_wp2_with fail
    refine (entry_at b _ HB.out).mono ?_
    rintro e w' ⟨rfl, rfl⟩
    go_wp2_with fail
    refine (entry_at a _ HA.out).mono ?_
    rintro e w' ⟨rfl, rfl⟩
    go_wp2_with fail
    go_ret2
    exact ⟨rfl, rfl⟩
  · have hba : ¬ nth supplyL a < nth supplyL b := by omega
    rw [if_neg hba] at hq
    have hd : nth supplyL b - nth supplyL a < 0 := by omega
    have hn : -(nth supplyL b - nth supplyL a) = nth supplyL a - nth supplyL b := by omega
    clear hba
    go_enter Tryd.func25, Tryd.ntmps25
    go_wp2_with fail
    refine (there_in a _ HA.out).mono ?_
    rintro e w' ⟨rfl, rfl⟩
    go_wp2_with fail
    refine (there_in b _ HB.out).mono ?_
    rintro e w' ⟨rfl, rfl⟩
    go_wp2_with fail
    refine (isInf_no s _ S2.out).mono ?_
    rintro e w' ⟨rfl, rfl⟩
    go_wp2_with fail
    refine (entry_at b _ HB.out).mono ?_
    rintro e w' ⟨rfl, rfl⟩
    go_wp2_with fail
    refine (entry_at a _ HA.out).mono ?_
    rintro e w' ⟨rfl, rfl⟩
    go_wp2_with fail
    go_ret2
    exact ⟨rfl, rfl⟩
theorem refRamp_bad (a b s : Nat) (w : World) (ha : a < 24) (hb : b < 24) (hs : ¬ okS s) :
    Calls Tryd.prog 25 #[.int .i64 a, .int .i64 b, .float .f64 s] w fun e w' => e = .returned (.tuple #[.float .f64 0, .int .i64 1]) ∧ w = w' := by
  have HA := Lib.hid ha
  have HB := Lib.hid hb
  rcases notOk hs with s1 | ⟨s1, s2⟩
  · have d1 : (FloatKind.f64.format.order s 0 == some .gt) = false := by simpa using s1
    clear ha hb hs
    go_enter Tryd.func25, Tryd.ntmps25
    go_wp2_with fail
    refine (there_in a _ HA.out).mono ?_
    rintro e w' ⟨rfl, rfl⟩
    go_wp2_with fail
    refine (there_in b _ HB.out).mono ?_
    rintro e w' ⟨rfl, rfl⟩
    go_wp2_with fail
    go_ret2
    exact ⟨rfl, rfl⟩
  · have S2 := Lib.hid s2
    clear ha hb hs s2
    go_enter Tryd.func25, Tryd.ntmps25
    go_wp2_with fail
    refine (there_in a _ HA.out).mono ?_
    rintro e w' ⟨rfl, rfl⟩
    go_wp2_with fail
    refine (there_in b _ HB.out).mono ?_
    rintro e w' ⟨rfl, rfl⟩
    go_wp2_with fail
    refine (isInf_yes s _ S2.out).mono ?_
    rintro e w' ⟨rfl, rfl⟩
    go_wp2_with fail
    go_ret2
    exact ⟨rfl, rfl⟩
theorem refRamp_out1 (i j : Int) (s : Nat) (w : World) (hi : i < 0 ∨ 24 ≤ i) :
    Calls Tryd.prog 25 #[.int .i64 i, .int .i64 j, .float .f64 s] w fun e w' => e = .returned (.tuple #[.float .f64 0, .int .i64 1]) ∧ w = w' := by
  have HI := Lib.hid hi
  clear hi
  go_enter Tryd.func25, Tryd.ntmps25
  go_wp2_with fail
  refine (there_out i _ HI.out).mono ?_
  rintro e w' ⟨rfl, rfl⟩
  go_wp2_with fail
  go_ret2
  exact ⟨rfl, rfl⟩
theorem refRamp_out2 (a : Nat) (j : Int) (s : Nat) (w : World) (ha : a < 24) (hj : j < 0 ∨ 24 ≤ j) :
    Calls Tryd.prog 25 #[.int .i64 a, .int .i64 j, .float .f64 s] w fun e w' => e = .returned (.tuple #[.float .f64 0, .int .i64 1]) ∧ w = w' := by
  have HA := Lib.hid ha
  have HJ := Lib.hid hj
  clear ha hj
  go_enter Tryd.func25, Tryd.ntmps25
  go_wp2_with fail
  refine (there_in a _ HA.out).mono ?_
  rintro e w' ⟨rfl, rfl⟩
  go_wp2_with fail
  refine (there_out j _ HJ.out).mono ?_
  rintro e w' ⟨rfl, rfl⟩
  go_wp2_with fail
  go_ret2
  exact ⟨rfl, rfl⟩
end Go.Proofs.YtnomamimpnogpaaDoor
