/- Slot, the program's and the document's. -/
import Derived.Test.YtdhlmflbefnekaaDoorBusC
import Derived.Test.YtdhlmflbefnekaaDoorNumsC
import Derived.Lib.Mul64
import Derived.Laws.Bits64b
import Derived.Shelf.Bits.Mul64
namespace Go.Proofs.YtdhlmflbefnekaaDoor
open Go.RowKit Go.Lib
set_option maxHeartbeats 1000000 in
theorem mul64_any (x y : Nat) (hx : x < 18446744073709551616) (hy : y < 18446744073709551616) (w : World) :
    Calls Tryd.prog 31 #[.int .u64 x, .int .u64 y] w fun e w' => e = .returned (.tuple #[.int .u64 ((x * y / 18446744073709551616 : Nat) : Int), .int .u64 ((x * y % 18446744073709551616 : Nat) : Int)]) ∧ w = w' := by
  obtain ⟨bd, bt, bw, hhi⟩ := Lib.mul64_hi x y hx hy
  have ba := Lib.half_mul_le (a := x / 4294967296) (b := y / 4294967296) (by omega) (by omega)
  have bb := Lib.half_mul_le (a := x / 4294967296) (b := y % 4294967296) (by omega) (by omega)
  have bc := Lib.half_mul_le (a := x % 4294967296) (b := y / 4294967296) (by omega) (by omega)
  have ba' : x / 4294967296 * (y / 4294967296) < 18446744073709551616 := by omega
  have bb' : x / 4294967296 * (y % 4294967296) < 18446744073709551616 := by omega
  have bc' : x % 4294967296 * (y / 4294967296) < 18446744073709551616 := by omega
  have bh1 : x / 4294967296 * (y / 4294967296) + (x / 4294967296 * (y % 4294967296) + x % 4294967296 * (y % 4294967296) / 4294967296) / 4294967296 < 18446744073709551616 := by omega
  have bh : x / 4294967296 * (y / 4294967296) + (x / 4294967296 * (y % 4294967296) + x % 4294967296 * (y % 4294967296) / 4294967296) / 4294967296 + ((x / 4294967296 * (y % 4294967296) + x % 4294967296 * (y % 4294967296) / 4294967296) % 4294967296 + x % 4294967296 * (y / 4294967296)) / 4294967296 < 18446744073709551616 := by omega
  go_enter Tryd.func31, Tryd.ntmps31
  go_wp2
  simp only [Mul64.maskN x hx, Mul64.maskN y hy, Mul64.divN, Mul64.mulN, Mul64.addN, Mul64.wrapN _ bd, Mul64.wrapN _ bb', Mul64.wrapN _ bt, Mul64.maskN _ bt, Mul64.wrapN _ bc', Mul64.wrapN _ bw, Mul64.wrapN _ ba', Mul64.wrapN _ bh1, Mul64.wrapN _ bh, Mul64.wrapM (x * y)]
  rw [hhi]
  go_ret2
  exact ⟨rfl, rfl⟩
/-- What Slot answers. -/
def slotV (i n s : Int) : Int × Int := if 0 ≤ i ∧ i < 20 ∧ 0 ≤ n ∧ 0 ≤ s ∧ n * s ≤ 9223372036854775807 - nth busL i.toNat then (nth busL i.toNat + n * s, 0) else (0, 1)
theorem slotV_no (i n s : Int) (h : ¬ (0 ≤ i ∧ i < 20 ∧ 0 ≤ n ∧ 0 ≤ s ∧ n * s ≤ 9223372036854775807 - nth busL i.toNat)) : slotV i n s = (0, 1) := by
  unfold slotV
  rw [if_neg h]
theorem slotV_ok (k n s : Nat) (hk : k < 20) (h : n * s ≤ 9223372036854775807 - (nth busL k).toNat) (hb : 0 ≤ nth busL k) (hb2 : nth busL k ≤ 4294967296) : slotV k n s = (nth busL k + ((n * s : Nat) : Int), 0) := by
  unfold slotV
  have e : (k : Int).toNat = k := by omega
  have e2 : (n : Int) * (s : Int) = ((n * s : Nat) : Int) := (Int.natCast_mul n s).symm
  rw [e, e2, if_pos ⟨by omega, by omega, by omega, by omega, by omega⟩]
theorem slotV_big (k n s : Nat) (h : 9223372036854775807 - (nth busL k).toNat < n * s) (hb : 0 ≤ nth busL k) (hb2 : nth busL k ≤ 4294967296) : slotV k n s = (0, 1) := by
  refine slotV_no _ _ _ ?_
  have e : (k : Int).toNat = k := by omega
  have e2 : (n : Int) * (s : Int) = ((n * s : Nat) : Int) := (Int.natCast_mul n s).symm
  rw [e, e2]
  omega
theorem bus_bd1 : ∀ k, k < 20 → 0 < nth busL k ∧ nth busL k ≤ 4294967296 := by decide +kernel
theorem half (p : Nat) : (p / 18446744073709551616 = 0 ∧ p % 18446744073709551616 = p) ∨ (18446744073709551616 ≤ p ∧ p / 18446744073709551616 ≠ 0) := by omega
theorem slot_out (i n s : Int) (w : World) (hi : i < 0 ∨ 20 ≤ i) : Calls Tryd.prog 19 #[.int .i64 i, .int .i64 n, .int .i64 s] w fun e w' => e = .returned (.tuple #[.int .i64 (slotV i n s).1, .int .i64 (slotV i n s).2]) ∧ w = w' := by
  have HV := Lib.hid (slotV_no i n s (by omega))
  have HI := Lib.hid hi
  clear hi
  go_enter Tryd.func19, Tryd.ntmps19
  go_wp2_with fail
  refine (bus_out i _ HI.out).mono ?_
  rintro e w' ⟨rfl, rfl⟩
  go_wp2_with fail
  go_ret2
  exact ⟨by rw [HV.out]; rfl, rfl⟩
theorem slot_neg (k : Nat) (n s : Int) (w : World) (hk : k < 20) (hT : busAt w) (hn : n < 0 ∨ (¬ n < 0 ∧ s < 0)) : Calls Tryd.prog 19 #[.int .i64 k, .int .i64 n, .int .i64 s] w fun e w' => e = .returned (.tuple #[.int .i64 (slotV k n s).1, .int .i64 (slotV k n s).2]) ∧ w = w' := by
  have HV := Lib.hid (slotV_no k n s (by omega))
  have HK := Lib.hid hk
  have HT := Lib.hid hT
  clear hk hT
  rcases hn with h | ⟨h, h'⟩
  · go_enter Tryd.func19, Tryd.ntmps19
    go_wp2_with fail
    refine (bus_in k _ HK.out HT.out).mono ?_
    rintro e w' ⟨rfl, rfl⟩
    go_wp2_with fail
    go_ret2
    exact ⟨by rw [HV.out]; rfl, rfl⟩
  · go_enter Tryd.func19, Tryd.ntmps19
    go_wp2_with fail
    refine (bus_in k _ HK.out HT.out).mono ?_
    rintro e w' ⟨rfl, rfl⟩
    go_wp2_with fail
    go_ret2
    exact ⟨by rw [HV.out]; rfl, rfl⟩
set_option maxHeartbeats 1000000 in
theorem slot_in (k n s : Nat) (w : World) (hk : k < 20) (hT : busAt w) (hn : n < 9223372036854775808) (hs : s < 9223372036854775808) : Calls Tryd.prog 19 #[.int .i64 k, .int .i64 n, .int .i64 s] w fun e w' => e = .returned (.tuple #[.int .i64 (slotV k n s).1, .int .i64 (slotV k n s).2]) ∧ w = w' := by
  have b1 := (bus_bd1 k hk).1
  have b2 := (bus_bd1 k hk).2
  have HM := Lib.hid (mul64_any n s (by omega) (by omega))
  have HK := Lib.hid hk
  have HT := Lib.hid hT
  have HO := Lib.hid (slotV_ok k n s hk · (by omega) (by omega))
  have HB := Lib.hid (slotV_big k n s · (by omega) (by omega))
  obtain ⟨B, hB⟩ : ∃ B : Nat, nth busL k = (B : Int) := ⟨(nth busL k).toNat, by omega⟩
  have HE := Lib.hid hB
  have CB := bus_in k
  rw [hB] at b1 b2 HO HB CB
  have n0 : ¬ (n : Int) < 0 := by omega
  have s0 : ¬ (s : Int) < 0 := by omega
  have u1 : IntKind.u64.wrap (n : Int) = (n : Int) := by rw [IntKind.wrap_u64]; omega
  have u2 : IntKind.u64.wrap (s : Int) = (s : Int) := by rw [IntKind.wrap_u64]; omega
  generalize hp : n * s = p at *
  have hB0 : 0 < B := by omega
  have hB1 : B ≤ 4294967296 := by omega
  have PB : (0 : Int) < (B : Int) := by omega
  have HCB := Lib.hid CB
  clear hB b1 b2 hp hk hT hn hs CB
  rcases half p with ⟨h1, h2⟩ | ⟨h1, h2⟩
  · rw [h1, h2] at HM
    by_cases hbig : 9223372036854775807 < p
    · have HR := Lib.hid (HB.out (by omega))
      have c1 : (9223372036854775807 : Int) < (p : Int) := by omega
      go_enter Tryd.func19, Tryd.ntmps19
      go_wp2_with fail
      refine (HCB.out _ HK.out HT.out).mono ?_
      rintro e w' ⟨rfl, rfl⟩
      go_wp2_with fail
      refine (HM.out _).mono ?_
      rintro e w' ⟨rfl, rfl⟩
      go_wp2_with fail
      go_ret2
      exact ⟨by rw [HR.out]; rfl, rfl⟩
    · have c1 : ¬ (9223372036854775807 : Int) < (p : Int) := by omega
      have i1 : IntKind.i64.wrap (p : Int) = (p : Int) := by rw [IntKind.wrap_i64]; omega
      by_cases hov : 9223372036854775807 - B < p
      · have HR := Lib.hid (HB.out (by omega))
        have c2 : (9223372036854775807 : Int) - (B : Int) < (p : Int) := by omega
        go_enter Tryd.func19, Tryd.ntmps19
        go_wp2_with fail
        refine (HCB.out _ HK.out HT.out).mono ?_
        rintro e w' ⟨rfl, rfl⟩
        go_wp2_with fail
        refine (HM.out _).mono ?_
        rintro e w' ⟨rfl, rfl⟩
        go_wp2_with fail
        go_ret2
        exact ⟨by rw [HR.out]; rfl, rfl⟩
      · have HR := Lib.hid (HO.out (by omega))
        have c2 : ¬ (9223372036854775807 : Int) - (B : Int) < (p : Int) := by omega
        go_enter Tryd.func19, Tryd.ntmps19
        go_wp2_with fail
        refine (HCB.out _ HK.out HT.out).mono ?_
        rintro e w' ⟨rfl, rfl⟩
        go_wp2_with fail
        refine (HM.out _).mono ?_
        rintro e w' ⟨rfl, rfl⟩
        go_wp2_with fail
        go_ret2
        exact ⟨by rw [HR.out]; rfl, rfl⟩
  · have HR := Lib.hid (HB.out (by omega))
    have c1 : ¬ ((p / 18446744073709551616 : Nat) : Int) = 0 := by omega
    generalize p / 18446744073709551616 = H at *
    generalize p % 18446744073709551616 = L at *
    go_enter Tryd.func19, Tryd.ntmps19
    go_wp2_with fail
    refine (HCB.out _ HK.out HT.out).mono ?_
    rintro e w' ⟨rfl, rfl⟩
    go_wp2_with fail
    refine (HM.out _).mono ?_
    rintro e w' ⟨rfl, rfl⟩
    go_wp2_with fail
    go_ret2
    exact ⟨by rw [HR.out]; rfl, rfl⟩
end Go.Proofs.YtdhlmflbefnekaaDoor
