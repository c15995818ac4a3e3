/- Contracts of crystal.Divider and crystal.Chain. -/
import Derived.Test.YtmlabnbbpmmonaaDoorOpenLib
import Derived.WalkKit
import Derived.WalkLawsBesides
import Derived.WalkSpells
import Derived.Outline
import Derived.LoopTactic
import Derived.Below
import Derived.Handy
import Derived.Lib.Hide
namespace Go.Proofs.YtmlabnbbpmmonaaDoor
open Go.RowKit

theorem ret_int {k : IntKind} {a b : Int} (h : a = b) : Ending.returned (.int k a) = .returned (.int k b) := by rw [h]
theorem max_if (a b : Int) : (if a < b then b else a) = max a b := by rw [Int.max_def]; split <;> split <;> omega

/-- Divider: both in range and the quotient small. -/
theorem divider_ok (f t : Int) (w : World) (h1 : 1 ≤ f) (h2 : f ≤ 1099511627776) (h3 : 1 ≤ t) (h4 : t ≤ 1099511627776) (h5 : (f + t - 1) / t ≤ 65535) :
    Calls Tryd.prog 11 #[.int .i64 f, .int .i64 t] w fun e w' => e = .returned (.tuple #[.int .i64 ((f + t - 1) / t), .int .i64 0]) ∧ w = w' := by
  have a1 : ¬ f < 1 := by omega
  have a2 : ¬ 1099511627776 < f := by omega
  have a3 : ¬ t < 1 := by omega
  have a4 : ¬ 1099511627776 < t := by omega
  have a5 : ¬ 65535 < (f + t - 1) / t := by omega
  go_enter Tryd.func11, Tryd.ntmps11
  go_wp2
  go_ret2
  exact ⟨rfl, rfl⟩

theorem divider_none (f t : Int) (w : World) (h1 : 1 ≤ f) (h2 : f ≤ 1099511627776) (h3 : 1 ≤ t) (h4 : t ≤ 1099511627776) (h5 : 65535 < (f + t - 1) / t) :
    Calls Tryd.prog 11 #[.int .i64 f, .int .i64 t] w fun e w' => e = .returned (.tuple #[.int .i64 0, .int .i64 6]) ∧ w = w' := by
  have a1 : ¬ f < 1 := by omega
  have a2 : ¬ 1099511627776 < f := by omega
  have a3 : ¬ t < 1 := by omega
  have a4 : ¬ 1099511627776 < t := by omega
  go_enter Tryd.func11, Tryd.ntmps11
  go_wp2
  go_ret2
  exact ⟨rfl, rfl⟩

theorem divider_arg (f t : Int) (w : World) (h : f < 1 ∨ 1099511627776 < f ∨ t < 1 ∨ 1099511627776 < t) :
    Calls Tryd.prog 11 #[.int .i64 f, .int .i64 t] w fun e w' => e = .returned (.tuple #[.int .i64 0, .int .i64 1]) ∧ w = w' := by
  by_cases b1 : f < 1
  · go_enter Tryd.func11, Tryd.ntmps11
    go_wp2
    go_ret2
    exact ⟨rfl, rfl⟩
  by_cases b2 : 1099511627776 < f
  · go_enter Tryd.func11, Tryd.ntmps11
    go_wp2
    go_ret2
    exact ⟨rfl, rfl⟩
  by_cases b3 : t < 1
  · go_enter Tryd.func11, Tryd.ntmps11
    go_wp2
    go_ret2
    exact ⟨rfl, rfl⟩
  have b4 : 1099511627776 < t := by omega
  go_enter Tryd.func11, Tryd.ntmps11
  go_wp2
  go_ret2
  exact ⟨rfl, rfl⟩


def bad (z : Int) : Bool := decide (z < 1) || decide (65535 < z)
/-- What Chain answers. -/
def chainV (f : Int) (zs : List Int) : Int × Int :=
  if f < 0 ∨ 1099511627776 < f ∨ 64 < zs.length then (0, 1)
  else if zs.any bad then (0, 1) else (zs.foldl (fun a z => a / z) f, 0)

theorem chain_arg (f : Int) (v : Value) (zs : List Int) (w : World) (hv : Ints .i64 w v zs) (h : f < 0 ∨ 1099511627776 < f ∨ 64 < zs.length) :
    Calls Tryd.prog 19 #[.int .i64 f, v] w fun e w' => e = .returned (.tuple #[.int .i64 0, .int .i64 1]) ∧ w = w' := by
  by_cases b1 : f < 0
  · obtain ⟨p, cap, rfl, hm, _, hc⟩ := hv
    all_goals
      clear h hc
      go_enter Tryd.func19, Tryd.ntmps19
      go_wp2
      go_ret2
      exact ⟨rfl, rfl⟩
  by_cases b2 : 1099511627776 < f
  · obtain ⟨p, cap, rfl, hm, _, hc⟩ := hv
    all_goals
      clear h hc
      go_enter Tryd.func19, Tryd.ntmps19
      go_wp2
      go_ret2
      exact ⟨rfl, rfl⟩
  have b3 : 64 < zs.length := by omega
  obtain ⟨p, cap, rfl, hm, _, hc⟩ := hv
  · clear h hc
    unfold maxLen at hm
    have b3' : (64 : Int) < (zs.length : Int) := by omega
    go_enter Tryd.func19, Tryd.ntmps19
    go_wp2
    go_ret2
    exact ⟨rfl, rfl⟩

theorem any_take_succ (zs : List Int) (p : Int → Bool) (k : Nat) (hk : k < zs.length) : (zs.take (k + 1)).any p = ((zs.take k).any p || p (nth zs k)) := by
  rw [List.take_succ_eq_append_getElem hk, List.any_append]
  simp [nth_eq hk]
theorem foldl_take_succ (zs : List Int) (f : Int) (k : Nat) (hk : k < zs.length) : (zs.take (k + 1)).foldl (fun a z => a / z) f = (zs.take k).foldl (fun a z => a / z) f / nth zs k := by
  rw [List.take_succ_eq_append_getElem hk, List.foldl_append]
  simp [nth_eq hk]
theorem foldl_bd (f : Int) (h0 : 0 ≤ f) (h1 : f ≤ 1099511627776) : ∀ (zs : List Int), (∀ z ∈ zs, 1 ≤ z) → 0 ≤ zs.foldl (fun a z => a / z) f ∧ zs.foldl (fun a z => a / z) f ≤ 1099511627776 := by
  intro zs
  induction zs generalizing f with
  | nil => intro _; exact ⟨h0, h1⟩
  | cons z r ih =>
    intro hz
    have h := hz z (by simp)
    have q0 : 0 ≤ f / z := Int.ediv_nonneg h0 (by omega)
    have q1 : f / z ≤ f := Int.ediv_le_self _ h0
    exact ih (f / z) q0 (by omega) (fun x hx => hz x (by simp [hx]))

/-- Chain, the numbers in range: the first loop finds the bad one, if there is one; the second one divides. -/
theorem chain_run (f : Int) (zs : List Int) (p : Option Addr) (cap : Nat) (w : World) (h0 : 0 ≤ f) (h1 : f ≤ 1099511627776) (h2 : zs.length ≤ 64)
    (hc : ∀ i, i < zs.length → ∃ b off, p = some ⟨b, off, none⟩ ∧ w.cell? ⟨b, off + i, none⟩ = some (.int .i64 (nth zs i))) :
    Calls Tryd.prog 19 #[.int .i64 f, .slice p zs.length cap] w fun e w' => e = .returned (.tuple #[.int .i64 (chainV f zs).1, .int .i64 (chainV f zs).2]) ∧ w = w' := by
  have HC := Lib.hid hc
  clear hc
  have a1 : ¬ f < 0 := by omega
  have a2 : ¬ 1099511627776 < f := by omega
  have a3 : ¬ (64 : Int) < (zs.length : Int) := by omega
  have hV : (if f < 0 ∨ 1099511627776 < f ∨ 64 < zs.length then ((0, 1) : Int × Int) else if zs.any bad then (0, 1) else (zs.foldl (fun a z => a / z) f, 0)) = if zs.any bad then (0, 1) else (zs.foldl (fun a z => a / z) f, 0) := by rw [if_neg (by omega)]
  have HV : Hid (chainV f zs = if zs.any bad then (0, 1) else (zs.foldl (fun a z => a / z) f, 0)) := hV
  clear hV
  go_enter Tryd.func19, Tryd.ntmps19
  go_wp2
  go_loop [23] (fun i => ∃ k : Nat, k ≤ zs.length ∧ i = .int .i64 k ∧ Hid ((zs.take k).any bad = false)) (fun i => zs.length - (intOf i).toNat)
  case atStart => exact ⟨0, by omega, rfl, rfl⟩
  case round =>
    obtain ⟨k, hk, rfl, hb⟩ := hrel
    by_cases hlt : k < zs.length
    · obtain ⟨b, off, hp, g⟩ := HC.out k hlt
      subst hp
      have hs := any_take_succ zs bad k hlt
      rw [hb.out] at hs
      by_cases c1 : nth zs k < 1
      · have HA : Hid (zs.any bad = true) := by
          unfold Hid; rw [List.any_eq_true]; exact ⟨nth zs k, nth_mem hlt, by simp [bad, c1]⟩
        clear hs
        go_wp2
        go_ret2
        exact ⟨by rw [HV.out, HA.out]; rfl, rfl⟩
      by_cases c2 : 65535 < nth zs k
      · have HA : Hid (zs.any bad = true) := by
          unfold Hid; rw [List.any_eq_true]; exact ⟨nth zs k, nth_mem hlt, by simp [bad, c2]⟩
        clear hs
        go_wp2
        go_ret2
        exact ⟨by rw [HV.out, HA.out]; rfl, rfl⟩
      have hb' : Hid ((zs.take (k + 1)).any bad = false) := by
        unfold Hid; rw [hs]; simp [bad]
        omega
      clear hs
      go_wp2
      go_round
      case rel => exact ⟨k + 1, by omega, by go_num, hb'⟩
      case measure => simp [intOf]; omega
    · obtain rfl : k = zs.length := by omega
      have hb0 : zs.any bad = false := by simpa using hb.out
      have HB := Lib.hid hb0
      clear hb0 hb
      have hall : Hid (∀ i, i < zs.length → 1 ≤ nth zs i ∧ nth zs i ≤ 65535) := by
        intro i hi
        have := List.any_eq_false.1 HB.out (nth zs i) (nth_mem hi)
        simp [bad] at this
        omega
      have hall2 : Hid (∀ z ∈ zs, 1 ≤ z) := by
        intro z hz
        have := List.any_eq_false.1 HB.out z hz
        simp [bad] at this
        omega
      go_wp2
      go_loop [0, 36] (fun a i => ∃ k : Nat, k ≤ zs.length ∧ i = .int .i64 k ∧ a = .int .i64 ((zs.take k).foldl (fun a z => a / z) f)) (fun _ i => zs.length - (intOf i).toNat)
      case atStart => exact ⟨0, by omega, rfl, rfl⟩
      case round =>
        obtain ⟨k, hk, rfl, rfl⟩ := hrel
        obtain ⟨l0, l1⟩ := foldl_bd f h0 h1 (zs.take k) (fun z hz => hall2.out z (List.mem_of_mem_take hz))
        by_cases hlt : k < zs.length
        · obtain ⟨b, off, hp, g⟩ := HC.out k hlt
          subst hp
          obtain ⟨z0, z1⟩ := hall.out k hlt
          have HS := Lib.hid (foldl_take_succ zs f k hlt)
          go_wp2
          go_round
          case rel => exact ⟨k + 1, by omega, by go_num, by rw [HS.out]⟩
          case measure => simp [intOf]; omega
        · obtain rfl : k = zs.length := by omega
          go_wp2
          go_ret2
          exact ⟨by rw [HV.out, HB.out]; simp, rfl⟩

theorem chain_any (f : Int) (v : Value) (zs : List Int) (w : World) (hv : Ints .i64 w v zs) :
    Calls Tryd.prog 19 #[.int .i64 f, v] w fun e w' => e = .returned (.tuple #[.int .i64 (chainV f zs).1, .int .i64 (chainV f zs).2]) ∧ w = w' := by
  by_cases h : f < 0 ∨ 1099511627776 < f ∨ 64 < zs.length
  · refine (chain_arg f v zs w hv h).mono fun e w' ⟨h1, h2⟩ => ⟨?_, h2⟩
    rw [h1]
    simp [chainV, h]
  · obtain ⟨p, cap, rfl, hm, _, hc⟩ := hv
    exact chain_run f zs p cap w (by omega) (by omega) (by omega) hc

theorem chain_one (f d : Int) (b : Nat) (w : World) (h0 : 0 ≤ f) (h1 : f ≤ 1099511627776) (d0 : 1 ≤ d) (d1 : d ≤ 65535) (hc : w.cell? ⟨b, 0, none⟩ = some (.int .i64 d)) :
    Calls Tryd.prog 19 #[.int .i64 f, .slice (some ⟨b, 0, none⟩) 1 1] w fun e w' => e = .returned (.tuple #[.int .i64 (f / d), .int .i64 0]) ∧ w = w' := by
  refine (chain_any f _ [d] w (Ints.mk rfl (by simp [maxLen]) fun i hi => ?_)).mono fun e w' ⟨h, hw⟩ => ⟨?_, hw⟩
  · obtain rfl : i = 0 := by simpa using hi
    simpa [nth] using hc
  · rw [h]
    unfold chainV
    rw [if_neg (by simp; omega), if_neg (by simp [bad]; omega)]
    rfl
theorem chain_two (f d g : Int) (b : Nat) (w : World) (h0 : 0 ≤ f) (h1 : f ≤ 1099511627776) (d0 : 1 ≤ d) (d1 : d ≤ 65535) (g0 : 1 ≤ g) (g1 : g ≤ 65535)
    (hc : w.cell? ⟨b, 0, none⟩ = some (.int .i64 d)) (hc1 : w.cell? ⟨b, 1, none⟩ = some (.int .i64 g)) :
    Calls Tryd.prog 19 #[.int .i64 f, .slice (some ⟨b, 0, none⟩) 2 2] w fun e w' => e = .returned (.tuple #[.int .i64 (f / d / g), .int .i64 0]) ∧ w = w' := by
  refine (chain_any f _ [d, g] w (Ints.mk rfl (by simp [maxLen]) fun i hi => ?_)).mono fun e w' ⟨h, hw⟩ => ⟨?_, hw⟩
  · have : i = 0 ∨ i = 1 := by simp at hi; omega
    rcases this with rfl | rfl
    · simpa [nth] using hc
    · simpa [nth] using hc1
  · rw [h]
    unfold chainV
    rw [if_neg (by simp; omega), if_neg (by simp [bad]; omega)]
    rfl
theorem chain_out1 (f d : Int) (b : Nat) (w : World) (h : f < 0 ∨ 1099511627776 < f) (hc : w.cell? ⟨b, 0, none⟩ = some (.int .i64 d)) :
    Calls Tryd.prog 19 #[.int .i64 f, .slice (some ⟨b, 0, none⟩) 1 1] w fun e w' => e = .returned (.tuple #[.int .i64 0, .int .i64 1]) ∧ w = w' := by
  refine chain_arg f _ [d] w (Ints.mk rfl (by simp [maxLen]) fun i hi => ?_) (by omega)
  obtain rfl : i = 0 := by simpa using hi
  simpa [nth] using hc
theorem chain_out2 (f d g : Int) (b : Nat) (w : World) (h : f < 0 ∨ 1099511627776 < f) (hc : w.cell? ⟨b, 0, none⟩ = some (.int .i64 d)) (hc1 : w.cell? ⟨b, 1, none⟩ = some (.int .i64 g)) :
    Calls Tryd.prog 19 #[.int .i64 f, .slice (some ⟨b, 0, none⟩) 2 2] w fun e w' => e = .returned (.tuple #[.int .i64 0, .int .i64 1]) ∧ w = w' := by
  refine chain_arg f _ [d, g] w (Ints.mk rfl (by simp [maxLen]) fun i hi => ?_) (by omega)
  have : i = 0 ∨ i = 1 := by simp at hi; omega
  rcases this with rfl | rfl
  · simpa [nth] using hc
  · simpa [nth] using hc1
end Go.Proofs.YtmlabnbbpmmonaaDoor
