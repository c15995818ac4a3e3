/- The document's entries, Micro, Volts, First; the program's Volts. -/
import Derived.Test.YtnomamimpnogpaaDoorFirstC
import Derived.Laws.FloatArith
namespace Go.Proofs.YtnomamimpnogpaaDoor
open Go.RowKit
theorem entry_num : ∀ k : Nat, k < 24 → k ≠ 0 → k ≠ 23 → (300000 + 12500 * (k : Int) + (1000000 + 1000000 * (k : Int))) = nth supplyL k := by decide
theorem entry_at (k : Nat) (w : World) (hk : k < 24) :
    Calls Tryd.prog 42 #[.int .i64 k] w fun e w' => e = .returned (.int .i64 (nth supplyL k)) ∧ w = w' := by
  by_cases h0 : k = 0
  · subst h0
    go_enter Tryd.func42, Tryd.ntmps42
    go_wp2_with fail
    go_ret
    exact ⟨rfl, rfl⟩
  · by_cases h1 : k = 23
    · subst h1
      go_enter Tryd.func42, Tryd.ntmps42
      go_wp2_with fail
      go_ret
      exact ⟨rfl, rfl⟩
    · have HE := Lib.hid (entry_num k hk h0 h1)
      have a0 : ¬ (k : Int) = 0 := by omega
      have a1 : ¬ (k : Int) = 23 := by omega
      have H0 := Lib.hid h0
      clear h0 h1
      go_enter Tryd.func42, Tryd.ntmps42
      go_wp2_with fail
      refine (ticks_at k _ hk H0.out).mono ?_
      rintro e w' ⟨rfl, rfl⟩
      go_wp2_with fail
      go_ret
      exact ⟨ret_int HE.out, rfl⟩
theorem there_in (k : Nat) (w : World) (hk : k < 24) : Calls Tryd.prog 41 #[.int .i64 k] w fun e w' => e = .returned (.bool true) ∧ w = w' := by
  have d : decide ((k : Int) < 24) = true := by simp; omega
  go_enter Tryd.func41, Tryd.ntmps41
  go_wp2_with fail
  go_ret
  exact ⟨rfl, rfl⟩
theorem there_out (i : Int) (w : World) (hk : i < 0 ∨ 24 ≤ i) : Calls Tryd.prog 41 #[.int .i64 i] w fun e w' => e = .returned (.bool false) ∧ w = w' := by
  rcases hk with h | h
  · have h' : ¬ 0 ≤ i := by omega
    go_enter Tryd.func41, Tryd.ntmps41
    go_wp2_with fail
    go_ret
    exact ⟨rfl, rfl⟩
  · have h' : 0 ≤ i := by omega
    have d : decide (i < 24) = false := by simp; omega
    go_enter Tryd.func41, Tryd.ntmps41
    go_wp2_with fail
    go_ret
    exact ⟨rfl, rfl⟩
theorem refMicro_in (k : Nat) (w : World) (hk : k < 24) :
    Calls Tryd.prog 21 #[.int .i64 k] w fun e w' => e = .returned (.tuple #[.int .i64 (nth supplyL k), .int .i64 0]) ∧ w = w' := by
  have HK := Lib.hid hk
  clear hk
  go_enter Tryd.func21, Tryd.ntmps21
  go_wp2_with fail
  refine (there_in k _ HK.out).mono ?_
  rintro e w' ⟨rfl, rfl⟩
  go_wp2_with fail
  refine (entry_at k _ HK.out).mono ?_
  rintro e w' ⟨rfl, rfl⟩
  go_wp2_with fail
  go_ret2
  exact ⟨rfl, rfl⟩
theorem refMicro_out (i : Int) (w : World) (hk : i < 0 ∨ 24 ≤ i) :
    Calls Tryd.prog 21 #[.int .i64 i] w fun e w' => e = .returned (.tuple #[.int .i64 0, .int .i64 1]) ∧ w = w' := by
  have HK := Lib.hid hk
  clear hk
  go_enter Tryd.func21, Tryd.ntmps21
  go_wp2_with fail
  refine (there_out i _ HK.out).mono ?_
  rintro e w' ⟨rfl, rfl⟩
  go_wp2_with fail
  go_ret2
  exact ⟨rfl, rfl⟩
theorem refFirst_any (lo hi : Int) (w : World) :
    Calls Tryd.prog 24 #[.int .i64 lo, .int .i64 hi] w fun e w' => e = .returned (.tuple #[.int .i64 (firstV lo hi).1, .int .i64 (firstV lo hi).2]) ∧ w = w' := by
  cases h : mayB (lo, hi) with
  | false =>
    have HV := Lib.hid (firstV_bad lo hi h)
    have HN := Lib.hid h
    clear h
    go_enter Tryd.func24, Tryd.ntmps24
    go_wp2_with fail
    refine (refMay_no lo hi _ HN.out).mono ?_
    rintro e w' ⟨rfl, rfl⟩
    go_wp2_with fail
    go_ret2
    exact ⟨by rw [HV.out]; rfl, rfl⟩
  | true =>
    have HY := Lib.hid h
    clear h
    go_enter Tryd.func24, Tryd.ntmps24
    go_wp2_with fail
    obtain ⟨m1, m2, m3⟩ := (mayB_iff _).1 HY.out
    refine (refMay_yes lo hi _ m1 m2 m3).mono ?_
    rintro e w' ⟨rfl, rfl⟩
    clear m1 m2 m3
    go_wp2_with fail
    go_loop [6] (fun i => ∃ k : Nat, k ≤ 24 ∧ i = .int .i64 k ∧ Hid (∀ j, j < k → inW lo hi j = false)) (fun i => 24 - (intOf i).toNat)
    case atStart => exact ⟨0, by omega, rfl, Lib.hid (fun j hj => by omega)⟩
    case round =>
      obtain ⟨k, hk, rfl, hq⟩ := hrel
      by_cases hlt : k < 24
      · have HL := Lib.hid hlt
        by_cases hin : inW lo hi k = true
        · have HV := Lib.hid (firstV_at lo hi k HY.out hlt hin hq.out)
          have hin' := hin
          simp only [inW, Bool.and_eq_true, decide_eq_true_eq] at hin'
          obtain ⟨i1, i2⟩ := hin'
          clear hin
          go_wp2_with fail
          refine (entry_at k _ HL.out).mono ?_
          rintro e w' ⟨rfl, rfl⟩
          go_wp2_with fail
          refine (entry_at k _ HL.out).mono ?_
          rintro e w' ⟨rfl, rfl⟩
          go_wp2_with fail
          go_ret2
          exact ⟨by rw [HV.out]; rfl, rfl⟩
        · have hn : inW lo hi k = false := by simpa using hin
          have HQ := Lib.hid (inW_next hq.out hn)
          have hn' : ¬ (lo ≤ nth supplyL k ∧ nth supplyL k ≤ hi) := by simpa [inW] using hin
          clear hin hn
          by_cases i1 : lo ≤ nth supplyL k
          · have i2 : ¬ nth supplyL k ≤ hi := fun h => hn' ⟨i1, h⟩
            clear hn'
            go_wp2_with fail
            refine (entry_at k _ HL.out).mono ?_
            rintro e w' ⟨rfl, rfl⟩
            go_wp2_with fail
            refine (entry_at k _ HL.out).mono ?_
            rintro e w' ⟨rfl, rfl⟩
            go_wp2_with fail
            go_round
            case rel => exact ⟨k + 1, by omega, by go_num, HQ.out⟩
            case measure => simp [intOf]; omega
          · clear hn'
            go_wp2_with fail
            refine (entry_at k _ HL.out).mono ?_
            rintro e w' ⟨rfl, rfl⟩
            go_wp2_with fail
            go_round
            case rel => exact ⟨k + 1, by omega, by go_num, HQ.out⟩
            case measure => simp [intOf]; omega
      · obtain rfl : k = 24 := by omega
        have HV := Lib.hid (firstV_none lo hi HY.out hq.out)
        go_wp2_with fail
        go_ret2
        exact ⟨by rw [HV.out]; rfl, rfl⟩
/-- An entry in volts, as bits. -/
def voltsV (k : Nat) : Nat := (floatBits .quo .f64 (floatOfInt .f64 (nth supplyL k)) 4696837146684686336).getD 0
theorem volts_eq : ∀ k, k < 24 → floatBits .quo .f64 (floatOfInt .f64 (nth supplyL k)) 4696837146684686336 = some (voltsV k) := by decide +kernel
theorem volts_in (k : Nat) (w : World) (hk : k < 24) (hT : supplyAt w) :
    Calls Tryd.prog 20 #[.int .i64 k] w fun e w' => e = .returned (.tuple #[.float .f64 (voltsV k), .int .i64 0]) ∧ w = w' := by
  have hq := fun w => run_float_arith (P := Tryd.prog) w .quo 43 .f64 _ _ _ (volts_eq k hk)
  have HK := Lib.hid hk
  have HT := Lib.hid hT
  clear hk hT
  go_enter Tryd.func20, Tryd.ntmps20
  go_wp2_with fail
  refine (supply_in k _ HK.out HT.out).mono ?_
  rintro e w' ⟨rfl, rfl⟩
  go_wp2_with fail
  go_ret2
  exact ⟨rfl, rfl⟩
theorem volts_zero : floatBits .quo .f64 (floatOfInt .f64 0) 4696837146684686336 = some 0 := by decide +kernel
theorem volts_out (i : Int) (w : World) (hk : i < 0 ∨ 24 ≤ i) :
    Calls Tryd.prog 20 #[.int .i64 i] w fun e w' => e = .returned (.tuple #[.float .f64 0, .int .i64 1]) ∧ w = w' := by
  have hq := fun w => run_float_arith (P := Tryd.prog) w .quo 43 .f64 _ _ _ volts_zero
  have HK := Lib.hid hk
  clear hk
  go_enter Tryd.func20, Tryd.ntmps20
  go_wp2_with fail
  refine (supply_out i _ HK.out).mono ?_
  rintro e w' ⟨rfl, rfl⟩
  go_wp2_with fail
  go_ret2
  exact ⟨rfl, rfl⟩
theorem refVolts_in (k : Nat) (w : World) (hk : k < 24) :
    Calls Tryd.prog 22 #[.int .i64 k] w fun e w' => e = .returned (.tuple #[.float .f64 (voltsV k), .int .i64 0]) ∧ w = w' := by
  have hq := fun w => run_float_arith (P := Tryd.prog) w .quo 43 .f64 _ _ _ (volts_eq k hk)
  have HK := Lib.hid hk
  clear hk
  go_enter Tryd.func22, Tryd.ntmps22
  go_wp2_with fail
  refine (there_in k _ HK.out).mono ?_
  rintro e w' ⟨rfl, rfl⟩
  go_wp2_with fail
  refine (entry_at k _ HK.out).mono ?_
  rintro e w' ⟨rfl, rfl⟩
  go_wp2_with fail
  go_ret2
  exact ⟨rfl, rfl⟩
theorem refVolts_out (i : Int) (w : World) (hk : i < 0 ∨ 24 ≤ i) :
    Calls Tryd.prog 22 #[.int .i64 i] w fun e w' => e = .returned (.tuple #[.float .f64 0, .int .i64 1]) ∧ w = w' := by
  have HK := Lib.hid hk
  clear hk
  go_enter Tryd.func22, Tryd.ntmps22
  go_wp2_with fail
  refine (there_out i _ HK.out).mono ?_
  rintro e w' ⟨rfl, rfl⟩
  go_wp2_with fail
  go_ret2
  exact ⟨rfl, rfl⟩
end Go.Proofs.YtnomamimpnogpaaDoor
