/- The document's Slot; both, for any numbers. -/
import Derived.Test.YtdhlmflbefnekaaDoorSlotC
namespace Go.Proofs.YtdhlmflbefnekaaDoor
open Go.RowKit
theorem bus_same : ∀ k, k < 20 → busF k = nth busL k := by decide +kernel
theorem slot_any (i n s : Int) (w : World) (hT : busAt w) (n0 : -9223372036854775808 ≤ n) (n1 : n ≤ 9223372036854775807) (s0 : -9223372036854775808 ≤ s) (s1 : s ≤ 9223372036854775807) :
    Calls Tryd.prog 19 #[.int .i64 i, .int .i64 n, .int .i64 s] w fun e w' => e = .returned (.tuple #[.int .i64 (slotV i n s).1, .int .i64 (slotV i n s).2]) ∧ w = w' := by
  by_cases hi : i < 0 ∨ 20 ≤ i
  · exact slot_out i n s w hi
  · obtain ⟨k, rfl⟩ : ∃ k : Nat, i = k := ⟨i.toNat, by omega⟩
    by_cases hn : n < 0
    · exact slot_neg k n s w (by omega) hT (.inl hn)
    · by_cases hs : s < 0
      · exact slot_neg k n s w (by omega) hT (.inr ⟨hn, hs⟩)
      · obtain ⟨n, rfl⟩ : ∃ k : Nat, n = k := ⟨n.toNat, by omega⟩
        obtain ⟨s, rfl⟩ : ∃ k : Nat, s = k := ⟨s.toNat, by omega⟩
        exact slot_in k n s w (by omega) hT (by omega) (by omega)
theorem rslot_bad (i n s : Int) (w : World) (h : i < 0 ∨ (¬ i < 0 ∧ 20 ≤ i) ∨ (¬ i < 0 ∧ ¬ 20 ≤ i ∧ n < 0) ∨ (¬ i < 0 ∧ ¬ 20 ≤ i ∧ ¬ n < 0 ∧ s < 0)) :
    Calls Tryd.prog 20 #[.int .i64 i, .int .i64 n, .int .i64 s] w fun e w' => e = .returned (.tuple #[.int .i64 (slotV i n s).1, .int .i64 (slotV i n s).2]) ∧ Below w.heap.size w w' := by
  have HV := Lib.hid (slotV_no i n s (by omega))
  rcases h with h | ⟨h, h'⟩ | ⟨h, h', h''⟩ | ⟨h, h', h'', h3⟩
  all_goals
    go_enter Tryd.func20, Tryd.ntmps20
    go_wp2_with fail
    go_ret2
    exact ⟨by rw [HV.out]; rfl, Below.refl _ _⟩
set_option maxHeartbeats 1000000 in
theorem rslot_in (k n s : Nat) (w : World) (hk : k < 20) (hn : n < 9223372036854775808) (hs : s < 9223372036854775808) : Calls Tryd.prog 20 #[.int .i64 k, .int .i64 n, .int .i64 s] w fun e w' => e = .returned (.tuple #[.int .i64 (slotV k n s).1, .int .i64 (slotV k n s).2]) ∧ Below w.heap.size w w' := by
  have b1 := (bus_bd1 k hk).1
  have b2 := (bus_bd1 k hk).2
  have HM := Lib.hid (mul64_any n s (by omega) (by omega))
  have HK := Lib.hid hk
  have HO := Lib.hid (slotV_ok k n s hk · (by omega) (by omega))
  have HB := Lib.hid (slotV_big k n s · (by omega) (by omega))
  have hsame := bus_same k hk
  obtain ⟨B, hB⟩ : ∃ B : Nat, nth busL k = (B : Int) := ⟨(nth busL k).toNat, by omega⟩
  rw [hB] at b1 b2 HO HB hsame
  have HSM := Lib.hid hsame
  have k0 : ¬ (k : Int) < 0 := by omega
  have k1 : ¬ (20 : Int) ≤ (k : Int) := by omega
  have n0 : ¬ (n : Int) < 0 := by omega
  have s0 : ¬ (s : Int) < 0 := by omega
  have u1 : IntKind.u64.wrap (n : Int) = (n : Int) := by rw [IntKind.wrap_u64]; omega
  have u2 : IntKind.u64.wrap (s : Int) = (s : Int) := by rw [IntKind.wrap_u64]; omega
  generalize hp : n * s = p at *
  have hB0 : 0 < B := by omega
  have hB1 : B ≤ 4294967296 := by omega
  have PB : (0 : Int) < (B : Int) := by omega
  clear hB b1 b2 hp hn hs hsame
  rcases half p with ⟨h1, h2⟩ | ⟨h1, h2⟩
  · rw [h1, h2] at HM
    by_cases hbig : 9223372036854775807 < p
    · have HR := Lib.hid (HB.out (by omega))
      have c1 : (9223372036854775807 : Int) < (p : Int) := by omega
      go_enter Tryd.func20, Tryd.ntmps20
      go_wp2_with fail
      refine (n10 _).mono ?_
      rintro e w1 ⟨g, c, rfl, hown, hb⟩
      have hc := ncell_at hown k HK.out
      rw [HSM.out] at hc
      have HBL := Lib.hid hb
      have HC := HK.out
      clear hown hb
      go_wp2_with fail
      refine (HM.out _).mono ?_
      rintro e w' ⟨rfl, rfl⟩
      go_wp2_with fail
      go_ret2
      exact ⟨by rw [HR.out]; rfl, HBL.out⟩
    · have c1 : ¬ (9223372036854775807 : Int) < (p : Int) := by omega
      have i1 : IntKind.i64.wrap (p : Int) = (p : Int) := by rw [IntKind.wrap_i64]; omega
      by_cases hov : 9223372036854775807 - B < p
      · have HR := Lib.hid (HB.out (by omega))
        have c2 : (9223372036854775807 : Int) - (B : Int) < (p : Int) := by omega
        go_enter Tryd.func20, Tryd.ntmps20
        go_wp2_with fail
        refine (n10 _).mono ?_
        rintro e w1 ⟨g, c, rfl, hown, hb⟩
        have hc := ncell_at hown k HK.out
        rw [HSM.out] at hc
        have HBL := Lib.hid hb
        have HC := HK.out
        clear hown hb
        go_wp2_with fail
        refine (HM.out _).mono ?_
        rintro e w' ⟨rfl, rfl⟩
        go_wp2_with fail
        go_ret2
        exact ⟨by rw [HR.out]; rfl, HBL.out⟩
      · have HR := Lib.hid (HO.out (by omega))
        have c2 : ¬ (9223372036854775807 : Int) - (B : Int) < (p : Int) := by omega
        go_enter Tryd.func20, Tryd.ntmps20
        go_wp2_with fail
        refine (n10 _).mono ?_
        rintro e w1 ⟨g, c, rfl, hown, hb⟩
        have hc := ncell_at hown k HK.out
        rw [HSM.out] at hc
        have HBL := Lib.hid hb
        have HC := HK.out
        clear hown hb
        go_wp2_with fail
        refine (HM.out _).mono ?_
        rintro e w' ⟨rfl, rfl⟩
        go_wp2_with fail
        go_ret2
        exact ⟨by rw [HR.out]; rfl, HBL.out⟩
  · have HR := Lib.hid (HB.out (by omega))
    have c1 : ¬ ((p / 18446744073709551616 : Nat) : Int) = 0 := by omega
    generalize p / 18446744073709551616 = H at *
    generalize p % 18446744073709551616 = L at *
    go_enter Tryd.func20, Tryd.ntmps20
    go_wp2_with fail
    refine (n10 _).mono ?_
    rintro e w1 ⟨g, c, rfl, hown, hb⟩
    have hc := ncell_at hown k HK.out
    rw [HSM.out] at hc
    have HBL := Lib.hid hb
    have HC := HK.out
    clear hown hb
    go_wp2_with fail
    refine (HM.out _).mono ?_
    rintro e w' ⟨rfl, rfl⟩
    go_wp2_with fail
    go_ret2
    exact ⟨by rw [HR.out]; rfl, HBL.out⟩
theorem rslot_any (i n s : Int) (w : World) (n0 : -9223372036854775808 ≤ n) (n1 : n ≤ 9223372036854775807) (s0 : -9223372036854775808 ≤ s) (s1 : s ≤ 9223372036854775807) :
    Calls Tryd.prog 20 #[.int .i64 i, .int .i64 n, .int .i64 s] w fun e w' => e = .returned (.tuple #[.int .i64 (slotV i n s).1, .int .i64 (slotV i n s).2]) ∧ Below w.heap.size w w' := by
  by_cases hi : i < 0 ∨ 20 ≤ i ∨ n < 0 ∨ s < 0
  · exact rslot_bad i n s w (by omega)
  · obtain ⟨k, rfl⟩ : ∃ k : Nat, i = k := ⟨i.toNat, by omega⟩
    obtain ⟨n, rfl⟩ : ∃ k : Nat, n = k := ⟨n.toNat, by omega⟩
    obtain ⟨s, rfl⟩ : ∃ k : Nat, s = k := ⟨s.toNat, by omega⟩
    exact rslot_in k n s w (by omega) (by omega) (by omega)
end Go.Proofs.YtdhlmflbefnekaaDoor
