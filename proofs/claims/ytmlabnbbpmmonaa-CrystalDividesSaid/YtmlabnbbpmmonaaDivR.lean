/- What the document's own Divider and Chain answer: the same as crystal's. -/
import Derived.Test.YtmlabnbbpmmonaaDivC
import Derived.BigGuardPart
namespace Go.Proofs.Ytmlabnbbpmmonaa
open Go.RowKit

/-- What Divider answers. -/
def divV (f t : Int) : Int × Int :=
  if f < 1 ∨ 1099511627776 < f ∨ t < 1 ∨ 1099511627776 < t then (0, 1)
  else if 65535 < (f + t - 1) / t then (0, 6) else ((f + t - 1) / t, 0)
theorem divider_any (f t : Int) (w : World) :
    Calls Try.prog 9 #[.int .i64 f, .int .i64 t] w fun e w' => e = .returned (.tuple #[.int .i64 (divV f t).1, .int .i64 (divV f t).2]) ∧ w = w' := by
  unfold divV
  by_cases h : f < 1 ∨ 1099511627776 < f ∨ t < 1 ∨ 1099511627776 < t
  · rw [if_pos h]
    exact divider_arg f t w h
  · rw [if_neg h]
    by_cases h2 : 65535 < (f + t - 1) / t
    · rw [if_pos h2]
      exact divider_none f t w (by omega) (by omega) (by omega) (by omega) h2
    · rw [if_neg h2]
      exact divider_ok f t w (by omega) (by omega) (by omega) (by omega) (by omega)

theorem refDivider_arg (f t : Int) (w : World) (h : f < 1 ∨ 1099511627776 < f ∨ t < 1 ∨ 1099511627776 < t) :
    Calls Try.prog 8 #[.int .i64 f, .int .i64 t] w fun e w' => e = .returned (.tuple #[.int .i64 0, .int .i64 1]) ∧ w = w' := by
  by_cases b1 : f < 1
  · clear h
    go_enter Try.func8, Try.ntmps8
    go_wp2
    go_ret2
    exact ⟨rfl, rfl⟩
  by_cases b2 : 1099511627776 < f
  · clear h
    go_enter Try.func8, Try.ntmps8
    go_wp2
    go_ret2
    exact ⟨rfl, rfl⟩
  by_cases b3 : t < 1
  · clear h
    go_enter Try.func8, Try.ntmps8
    go_wp2
    go_ret2
    exact ⟨rfl, rfl⟩
  have b4 : 1099511627776 < t := by omega
  clear h
  go_enter Try.func8, Try.ntmps8
  go_wp2
  go_ret2
  exact ⟨rfl, rfl⟩

theorem ceil_at (f t : Int) (k : Nat) (ht : 1 ≤ t) (h1 : t * ((k : Int) - 1) < f) (h2 : f ≤ t * k) : (f + t - 1) / t = k := by
  have e : t * ((k : Int) - 1) = t * k - t := by rw [Int.mul_sub, Int.mul_one]
  have l1 : (k : Int) ≤ (f + t - 1) / t := (Int.le_ediv_iff_mul_le (by omega)).2 (by rw [Int.mul_comm]; omega)
  have l2 : (f + t - 1) / t < (k : Int) + 1 := Int.ediv_lt_of_lt_mul (by omega) (by rw [Int.mul_comm, Int.mul_add]; omega)
  omega
theorem ceil_big (f t : Int) (ht : 1 ≤ t) (h1 : t * 65535 < f) : 65535 < (f + t - 1) / t := by
  have l1 : (65536 : Int) ≤ (f + t - 1) / t := (Int.le_ediv_iff_mul_le (by omega)).2 (by omega)
  omega
theorem mul_room (t : Int) (k : Nat) (h1 : 1 ≤ t) (h2 : t ≤ 1099511627776) (hk : k ≤ 65535) : 0 ≤ t * (k : Int) ∧ t * (k : Int) ≤ 72056494526300160 := by
  refine ⟨Int.mul_nonneg (by omega) (by omega), ?_⟩
  have : t * (k : Int) ≤ 1099511627776 * 65535 := Int.mul_le_mul h2 (by omega) (by omega) (by omega)
  omega

set_option maxHeartbeats 1000000 in
theorem refDivider_in (f t : Int) (w : World) (h1 : 1 ≤ f) (h2 : f ≤ 1099511627776) (h3 : 1 ≤ t) (h4 : t ≤ 1099511627776) :
    Calls Try.prog 8 #[.int .i64 f, .int .i64 t] w fun e w' => e = .returned (.tuple #[.int .i64 (divV f t).1, .int .i64 (divV f t).2]) ∧ w = w' := by
  have a1 : decide (f < 1) = false := by simp; omega
  have a2 : decide (1099511627776 < f) = false := by simp; omega
  have a3 : decide (t < 1) = false := by simp; omega
  have a4 : decide (1099511627776 < t) = false := by simp; omega
  have HV : Hid (divV f t = if 65535 < (f + t - 1) / t then (0, 6) else ((f + t - 1) / t, 0)) := by unfold Hid divV; rw [if_neg (by omega)]
  go_enter Try.func8, Try.ntmps8
  go_wp2
  go_loop [6] (fun d => ∃ k : Nat, 1 ≤ k ∧ k ≤ 65536 ∧ d = .int .i64 k ∧ Hid (t * ((k : Int) - 1) < f)) (fun d => 65536 - (intOf d).toNat)
  case atStart => exact ⟨1, by omega, by omega, rfl, by unfold Hid; simp; omega⟩
  case round =>
    obtain ⟨k, hk1, hk, rfl, hb⟩ := hrel
    by_cases hlt : k ≤ 65535
    · obtain ⟨m0, m1⟩ := mul_room t k h3 h4 hlt
      by_cases hc : f ≤ t * (k : Int)
      · have HE := Lib.hid (ceil_at f t k h3 hb.out hc)
        go_wp2
        go_ret2
        exact ⟨by rw [HV.out, HE.out, if_neg (by omega)]; rfl, rfl⟩
      · have hb' : Hid (t * (((k + 1 : Nat) : Int) - 1) < f) := by
          unfold Hid
          rw [show (((k + 1 : Nat) : Int) - 1) = (k : Int) by omega]
          omega
        go_wp2
        go_round
        case rel => exact ⟨k + 1, by omega, by omega, by go_num, hb'⟩
        case measure => simp [intOf]; omega
    · have hk2 : decide ((k : Int) ≤ 65535) = false := by simp; omega
      have hk3 : ¬ (k : Int) ≤ 65535 := by omega
      have hke : k = 65536 := by omega
      have HE : Hid (65535 < (f + t - 1) / t) := ceil_big f t h3 (by have := hb.out; rw [hke] at this; omega)
      clear hb hke hlt
      go_wp2
      go_ret2
      exact ⟨by rw [HV.out, if_pos HE.out]; rfl, rfl⟩
theorem refDivider_any (f t : Int) (w : World) :
    Calls Try.prog 8 #[.int .i64 f, .int .i64 t] w fun e w' => e = .returned (.tuple #[.int .i64 (divV f t).1, .int .i64 (divV f t).2]) ∧ w = w' := by
  by_cases h : f < 1 ∨ 1099511627776 < f ∨ t < 1 ∨ 1099511627776 < t
  · have := refDivider_arg f t w h
    unfold divV
    rw [if_pos h]
    exact this
  · exact refDivider_in f t w (by omega) (by omega) (by omega) (by omega)

theorem refChain_arg (f : Int) (v : Value) (zs : List Int) (w : World) (hv : Ints .i64 w v zs) (h : f < 0 ∨ 1099511627776 < f ∨ 64 < zs.length) :
    Calls Try.prog 10 #[.int .i64 f, v] w fun e w' => e = .returned (.tuple #[.int .i64 0, .int .i64 1]) ∧ w = w' := by
  by_cases b1 : f < 0
  · obtain ⟨p, cap, rfl, hm, _, hc⟩ := hv
    all_goals
      clear h hc
      go_enter Try.func10, Try.ntmps10
      go_wp2
      go_ret2
      exact ⟨rfl, rfl⟩
  by_cases b2 : 1099511627776 < f
  · obtain ⟨p, cap, rfl, hm, _, hc⟩ := hv
    all_goals
      clear h hc
      go_enter Try.func10, Try.ntmps10
      go_wp2
      go_ret2
      exact ⟨rfl, rfl⟩
  have b3 : 64 < zs.length := by omega
  obtain ⟨p, cap, rfl, hm, _, hc⟩ := hv
  · clear h hc
    unfold maxLen at hm
    have b3' : (64 : Int) < (zs.length : Int) := by omega
    go_enter Try.func10, Try.ntmps10
    go_wp2
    go_ret2
    exact ⟨rfl, rfl⟩

set_option maxHeartbeats 1000000 in
theorem refChain_run (f : Int) (zs : List Int) (p : Option Addr) (cap : Nat) (w : World) (h0 : 0 ≤ f) (h1 : f ≤ 1099511627776) (h2 : zs.length ≤ 64)
    (hc : ∀ i, i < zs.length → ∃ b off, p = some ⟨b, off, none⟩ ∧ w.cell? ⟨b, off + i, none⟩ = some (.int .i64 (nth zs i))) :
    Calls Try.prog 10 #[.int .i64 f, .slice p zs.length cap] w fun e w' => e = .returned (.tuple #[.int .i64 (chainV f zs).1, .int .i64 (chainV f zs).2]) ∧ ∃ n, w' = w.drewN n := by
  have HC := Lib.hid hc
  clear hc
  have a1 : ¬ f < 0 := by omega
  have a2 : ¬ 1099511627776 < f := by omega
  have a3 : ¬ (64 : Int) < (zs.length : Int) := by omega
  have hV : (if f < 0 ∨ 1099511627776 < f ∨ 64 < zs.length then ((0, 1) : Int × Int) else if zs.any bad then (0, 1) else (zs.foldl (fun a z => a / z) f, 0)) = if zs.any bad then (0, 1) else (zs.foldl (fun a z => a / z) f, 0) := by rw [if_neg (by omega)]
  have HV : Hid (chainV f zs = if zs.any bad then (0, 1) else (zs.foldl (fun a z => a / z) f, 0)) := hV
  clear hV
  go_enter Try.func10, Try.ntmps10
  go_wp2
  go_loop [6] (fun i => ∃ k : Nat, k ≤ zs.length ∧ i = .int .i64 k ∧ Hid ((zs.take k).any bad = false)) (fun i => zs.length - (intOf i).toNat)
  case atStart => exact ⟨0, by omega, rfl, rfl⟩
  case round =>
    obtain ⟨k, hk, rfl, hb⟩ := hrel
    by_cases hlt : k < zs.length
    · obtain ⟨b, off, hp, g⟩ := HC.out k hlt
      subst hp
      have hs := any_take_succ zs bad k hlt
      rw [hb.out] at hs
      by_cases c1 : nth zs k < 1
      · have HA : Hid (zs.any bad = true) := by
          unfold Hid; rw [List.any_eq_true]; exact ⟨nth zs k, nth_mem hlt, by simp [bad, c1]⟩
        clear hs
        go_wp2
        go_ret2
        exact ⟨by rw [HV.out, HA.out]; rfl, 0, rfl⟩
      by_cases c2 : 65535 < nth zs k
      · have HA : Hid (zs.any bad = true) := by
          unfold Hid; rw [List.any_eq_true]; exact ⟨nth zs k, nth_mem hlt, by simp [bad, c2]⟩
        clear hs
        go_wp2
        go_ret2
        exact ⟨by rw [HV.out, HA.out]; rfl, 0, rfl⟩
      have hb' : Hid ((zs.take (k + 1)).any bad = false) := by
        unfold Hid; rw [hs]; simp [bad]
        omega
      clear hs
      go_wp2
      go_round
      case rel => exact ⟨k + 1, by omega, by go_num, hb'⟩
      case measure => simp [intOf]; omega
    · obtain rfl : k = zs.length := by omega
      have hb0 : zs.any bad = false := by simpa using hb.out
      have HB := Lib.hid hb0
      clear hb0 hb
      have hall : Hid (∀ i, i < zs.length → 1 ≤ nth zs i ∧ nth zs i ≤ 65535) := by
        intro i hi
        have := List.any_eq_false.1 HB.out (nth zs i) (nth_mem hi)
        simp [bad] at this
        omega
      have hall2 : Hid (∀ z ∈ zs, 1 ≤ z) := by
        intro z hz
        have := List.any_eq_false.1 HB.out z hz
        simp [bad] at this
        omega
      go_wp2
      go_loop [0, 7] (fun a i => ∃ k : Nat, k ≤ zs.length ∧ i = .int .i64 k ∧ a = .int .i64 ((zs.take k).foldl (fun a z => a / z) f)) (fun _ i => zs.length - (intOf i).toNat)
      case atStart => exact ⟨0, by omega, rfl, rfl⟩
      case round =>
        obtain ⟨k, hk, rfl, rfl⟩ := hrel
        obtain ⟨l0, l1⟩ := foldl_bd f h0 h1 (zs.take k) (fun z hz => hall2.out z (List.mem_of_mem_take hz))
        by_cases hlt : k < zs.length
        · obtain ⟨b, off, hp, g⟩ := HC.out k hlt
          subst hp
          obtain ⟨z0, z1⟩ := hall.out k hlt
          have HS := Lib.hid (foldl_take_succ zs f k hlt)
          go_wp2
          go_round
          case rel => exact ⟨k + 1, by omega, by go_num, by rw [HS.out]⟩
          case measure => simp [intOf]; omega
        · obtain rfl : k = zs.length := by omega
          go_wp2
          go_ret2
          exact ⟨by rw [HV.out, HB.out]; simp, 0, rfl⟩
theorem refChain_any (f : Int) (v : Value) (zs : List Int) (w : World) (hv : Ints .i64 w v zs) :
    Calls Try.prog 10 #[.int .i64 f, v] w fun e w' => e = .returned (.tuple #[.int .i64 (chainV f zs).1, .int .i64 (chainV f zs).2]) ∧ ∃ n, w' = w.drewN n := by
  by_cases h : f < 0 ∨ 1099511627776 < f ∨ 64 < zs.length
  · refine (refChain_arg f v zs w hv h).mono fun e w' ⟨h1, h2⟩ => ⟨?_, 0, h2.symm⟩
    rw [h1]
    simp [chainV, h]
  · obtain ⟨p, cap, rfl, hm, _, hc⟩ := hv
    exact refChain_run f zs p cap w (by omega) (by omega) (by omega) hc
end Go.Proofs.Ytmlabnbbpmmonaa
