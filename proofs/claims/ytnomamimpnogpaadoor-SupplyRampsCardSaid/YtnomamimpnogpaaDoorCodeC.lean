/- Code: how many steps microvolts are; the program's and the document's. -/
import Derived.Test.YtnomamimpnogpaaDoorTables
import Derived.Handy
import Derived.Laws.BitsLemmas
namespace Go.Proofs.YtnomamimpnogpaaDoor
open Go.RowKit
def codeN (m : Int) : Int := if 12500 < 2 * (m % 12500) then m / 12500 + 1 else m / 12500
def codeV (m : Int) : Int × Bool := if 32767 < codeN m then (32767, false) else if codeN m < -32768 then (-32768, false) else (codeN m, true)
theorem codeN_at (m n : Int) (h1 : -6250 < m - 12500 * n) (h2 : m - 12500 * n ≤ 6250) : codeN m = n := by
  unfold codeN
  split <;> omega
theorem codeV_big (m n : Int) (hn : codeN m = n) (h : 32767 < n) : codeV m = (32767, false) := by
  unfold codeV; rw [hn, if_pos h]
theorem codeV_small (m n : Int) (hn : codeN m = n) (h : n < -32768) : codeV m = (-32768, false) := by
  unfold codeV; rw [hn, if_neg (by omega), if_pos h]
theorem codeV_in (m n : Int) (hn : codeN m = n) (h : -32768 ≤ n) (h' : n ≤ 32767) : codeV m = (n, true) := by
  unfold codeV; rw [hn, if_neg (by omega), if_neg (by omega)]
/-- Quotient and rest, towards nought. -/
theorem parted (m : Int) : ∃ q r, m.tdiv 12500 = q ∧ m.tmod 12500 = r ∧ m = 12500 * q + r ∧ r < 12500 ∧ -12500 < r ∧ (0 ≤ m → 0 ≤ r) ∧ (m ≤ 0 → r ≤ 0) := by
  refine ⟨_, _, rfl, rfl, (Int.mul_tdiv_add_tmod m 12500).symm, Int.tmod_lt_of_pos m (by decide), Int.lt_tmod_of_pos m (by decide), fun h => Int.tmod_nonneg 12500 h, fun h => ?_⟩
  have h' := Int.tmod_nonneg (a := -m) 12500 (by omega)
  rw [Int.neg_tmod] at h'
  omega
theorem i16_wrap (n : Int) (h : -32768 ≤ n) (h' : n ≤ 32767) : IntKind.i16.wrap n = n := by
  have e : IntKind.i16.wrap n = if 32768 ≤ n % 65536 then n % 65536 - 65536 else n % 65536 := by simp [IntKind.wrap, IntKind.bits, IntKind.signed]
  rw [e]
  split <;> omega

theorem code_any (m : Int) (w : World) (h0 : -9223372036854775808 ≤ m) (h1 : m ≤ 9223372036854775807) :
    Calls Tryd.prog 18 #[.int .i64 m] w fun e w' => e = .returned (.tuple #[.int .i16 (codeV m).1, .bool (codeV m).2]) ∧ w = w' := by
  obtain ⟨q, r, hq, hr, hm, r0, r1, r2, r3⟩ := parted m
  have HM := Lib.hid hm
  have b0 : -737869762948383 < q := by omega
  have b1 : q < 737869762948383 := by omega
  by_cases hneg : r < 0
  · by_cases hb : 12500 < 2 * (r + 12500)
    · have hn := codeN_at m (q) (by omega) (by omega)
      clear hm r2 r3
      by_cases c1 : 32767 < q
      · have HV := Lib.hid (codeV_big m (q) hn c1)
        have c3 : ¬ q < 32767 := by omega
        have c5 : -32768 < q := by omega
        have c4 : (q != 32767) = true := by simp; omega
        clear hn
        go_enter Tryd.func18, Tryd.ntmps18
        go_wp2
        go_ret2
        exact ⟨by rw [HV.out]; rfl, rfl⟩
      · by_cases c2 : q < -32768
        · have HV := Lib.hid (codeV_small m (q) hn c2)
          have c3 : ¬ -32768 < q := by omega
          have c4 : (q != -32768) = true := by simp; omega
          clear hn
          go_enter Tryd.func18, Tryd.ntmps18
          go_wp2
          go_ret2
          exact ⟨by rw [HV.out]; rfl, rfl⟩
        · have HV := Lib.hid (codeV_in m (q) hn (by omega) (by omega))
          rcases Int.lt_trichotomy (q) 32767 with c3 | c3 | c3
          · rcases Int.lt_trichotomy (-32768) (q) with c4 | c4 | c4
            · have W := i16_wrap (q) (by omega) (by omega)
              clear hn
              go_enter Tryd.func18, Tryd.ntmps18
              go_wp2
              go_ret2
              exact ⟨by rw [HV.out]; rfl, rfl⟩
            · obtain rfl : q = -32768 := by omega
              clear hn c1 c2 c3 c4
              go_enter Tryd.func18, Tryd.ntmps18
              go_wp2
              go_ret2
              exact ⟨by rw [HV.out]; rfl, rfl⟩
            · omega
          · obtain rfl : q = 32767 := by omega
            clear hn c1 c2 c3
            go_enter Tryd.func18, Tryd.ntmps18
            go_wp2
            go_ret2
            exact ⟨by rw [HV.out]; rfl, rfl⟩
          · omega
    · have hn := codeN_at m (q - 1) (by omega) (by omega)
      clear hm r2 r3
      by_cases c1 : 32767 < q - 1
      · have HV := Lib.hid (codeV_big m (q - 1) hn c1)
        have c3 : ¬ q - 1 < 32767 := by omega
        have c5 : -32768 < q - 1 := by omega
        have c4 : (q - 1 != 32767) = true := by simp; omega
        clear hn
        go_enter Tryd.func18, Tryd.ntmps18
        go_wp2
        go_ret2
        exact ⟨by rw [HV.out]; rfl, rfl⟩
      · by_cases c2 : q - 1 < -32768
        · have HV := Lib.hid (codeV_small m (q - 1) hn c2)
          have c3 : ¬ -32768 < q - 1 := by omega
          have c4 : (q - 1 != -32768) = true := by simp; omega
          clear hn
          go_enter Tryd.func18, Tryd.ntmps18
          go_wp2
          go_ret2
          exact ⟨by rw [HV.out]; rfl, rfl⟩
        · have HV := Lib.hid (codeV_in m (q - 1) hn (by omega) (by omega))
          rcases Int.lt_trichotomy (q - 1) 32767 with c3 | c3 | c3
          · rcases Int.lt_trichotomy (-32768) (q - 1) with c4 | c4 | c4
            · have W := i16_wrap (q - 1) (by omega) (by omega)
              clear hn
              go_enter Tryd.func18, Tryd.ntmps18
              go_wp2
              go_ret2
              exact ⟨by rw [HV.out]; rfl, rfl⟩
            · obtain rfl : q = -32767 := by omega
              clear hn c1 c2 c3 c4
              go_enter Tryd.func18, Tryd.ntmps18
              go_wp2
              go_ret2
              exact ⟨by rw [HV.out]; rfl, rfl⟩
            · omega
          · obtain rfl : q = 32768 := by omega
            clear hn c1 c2 c3
            go_enter Tryd.func18, Tryd.ntmps18
            go_wp2
            go_ret2
            exact ⟨by rw [HV.out]; rfl, rfl⟩
          · omega
  · by_cases hb : 12500 < 2 * r
    · have hn := codeN_at m (q + 1) (by omega) (by omega)
      clear hm r2 r3
      by_cases c1 : 32767 < q + 1
      · have HV := Lib.hid (codeV_big m (q + 1) hn c1)
        have c3 : ¬ q + 1 < 32767 := by omega
        have c5 : -32768 < q + 1 := by omega
        have c4 : (q + 1 != 32767) = true := by simp; omega
        clear hn
        go_enter Tryd.func18, Tryd.ntmps18
        go_wp2
        go_ret2
        exact ⟨by rw [HV.out]; rfl, rfl⟩
      · by_cases c2 : q + 1 < -32768
        · have HV := Lib.hid (codeV_small m (q + 1) hn c2)
          have c3 : ¬ -32768 < q + 1 := by omega
          have c4 : (q + 1 != -32768) = true := by simp; omega
          clear hn
          go_enter Tryd.func18, Tryd.ntmps18
          go_wp2
          go_ret2
          exact ⟨by rw [HV.out]; rfl, rfl⟩
        · have HV := Lib.hid (codeV_in m (q + 1) hn (by omega) (by omega))
          rcases Int.lt_trichotomy (q + 1) 32767 with c3 | c3 | c3
          · rcases Int.lt_trichotomy (-32768) (q + 1) with c4 | c4 | c4
            · have W := i16_wrap (q + 1) (by omega) (by omega)
              clear hn
              go_enter Tryd.func18, Tryd.ntmps18
              go_wp2
              go_ret2
              exact ⟨by rw [HV.out]; rfl, rfl⟩
            · obtain rfl : q = -32769 := by omega
              clear hn c1 c2 c3 c4
              go_enter Tryd.func18, Tryd.ntmps18
              go_wp2
              go_ret2
              exact ⟨by rw [HV.out]; rfl, rfl⟩
            · omega
          · obtain rfl : q = 32766 := by omega
            clear hn c1 c2 c3
            go_enter Tryd.func18, Tryd.ntmps18
            go_wp2
            go_ret2
            exact ⟨by rw [HV.out]; rfl, rfl⟩
          · omega
    · have hn := codeN_at m (q) (by omega) (by omega)
      clear hm r2 r3
      by_cases c1 : 32767 < q
      · have HV := Lib.hid (codeV_big m (q) hn c1)
        have c3 : ¬ q < 32767 := by omega
        have c5 : -32768 < q := by omega
        have c4 : (q != 32767) = true := by simp; omega
        clear hn
        go_enter Tryd.func18, Tryd.ntmps18
        go_wp2
        go_ret2
        exact ⟨by rw [HV.out]; rfl, rfl⟩
      · by_cases c2 : q < -32768
        · have HV := Lib.hid (codeV_small m (q) hn c2)
          have c3 : ¬ -32768 < q := by omega
          have c4 : (q != -32768) = true := by simp; omega
          clear hn
          go_enter Tryd.func18, Tryd.ntmps18
          go_wp2
          go_ret2
          exact ⟨by rw [HV.out]; rfl, rfl⟩
        · have HV := Lib.hid (codeV_in m (q) hn (by omega) (by omega))
          rcases Int.lt_trichotomy (q) 32767 with c3 | c3 | c3
          · rcases Int.lt_trichotomy (-32768) (q) with c4 | c4 | c4
            · have W := i16_wrap (q) (by omega) (by omega)
              clear hn
              go_enter Tryd.func18, Tryd.ntmps18
              go_wp2
              go_ret2
              exact ⟨by rw [HV.out]; rfl, rfl⟩
            · obtain rfl : q = -32768 := by omega
              clear hn c1 c2 c3 c4
              go_enter Tryd.func18, Tryd.ntmps18
              go_wp2
              go_ret2
              exact ⟨by rw [HV.out]; rfl, rfl⟩
            · omega
          · obtain rfl : q = 32767 := by omega
            clear hn c1 c2 c3
            go_enter Tryd.func18, Tryd.ntmps18
            go_wp2
            go_ret2
            exact ⟨by rw [HV.out]; rfl, rfl⟩
          · omega
theorem refCode_any (m : Int) (w : World) (h0 : -9223372036854775808 ≤ m) (h1 : m ≤ 9223372036854775807) :
    Calls Tryd.prog 26 #[.int .i64 m] w fun e w' => e = .returned (.tuple #[.int .i16 (codeV m).1, .bool (codeV m).2]) ∧ w = w' := by
  obtain ⟨q, r, hq, hr, hm, r0, r1, r2, r3⟩ := parted m
  have HM := Lib.hid hm
  have b0 : -737869762948383 < q := by omega
  have b1 : q < 737869762948383 := by omega
  by_cases hneg : r < 0
  · have a1 : m < q * 12500 := by omega
    by_cases hb : 6250 < m - (q - 1) * 12500
    · have a3 : wrap64 (m - wrap64 ((q - 1) * 12500)) = m - (q - 1) * 12500 := by unfold wrap64; omega
      have a4 : wrap64 (m - (q - 1) * 12500) = m - (q - 1) * 12500 := by unfold wrap64; omega
      have hn := codeN_at m (q) (by omega) (by omega)
      clear r2 r3 hr r0 r1 hm
      by_cases c1 : 32767 < q
      · have HV := Lib.hid (codeV_big m (q) hn c1)
        clear hn
        go_enter Tryd.func26, Tryd.ntmps26
        go_wp2
        go_ret2
        exact ⟨by rw [HV.out]; rfl, rfl⟩
      · by_cases c2 : q < -32768
        · have HV := Lib.hid (codeV_small m (q) hn c2)
          clear hn
          go_enter Tryd.func26, Tryd.ntmps26
          go_wp2
          go_ret2
          exact ⟨by rw [HV.out]; rfl, rfl⟩
        · have HV := Lib.hid (codeV_in m (q) hn (by omega) (by omega))
          have W := i16_wrap (q) (by omega) (by omega)
          clear hn
          go_enter Tryd.func26, Tryd.ntmps26
          go_wp2
          go_ret2
          exact ⟨by rw [HV.out]; rfl, rfl⟩
    · have a3 : wrap64 (m - wrap64 ((q - 1) * 12500)) = m - (q - 1) * 12500 := by unfold wrap64; omega
      have a4 : wrap64 (m - (q - 1) * 12500) = m - (q - 1) * 12500 := by unfold wrap64; omega
      have hn := codeN_at m (q - 1) (by omega) (by omega)
      clear r2 r3 hr r0 r1 hm
      by_cases c1 : 32767 < q - 1
      · have HV := Lib.hid (codeV_big m (q - 1) hn c1)
        clear hn
        go_enter Tryd.func26, Tryd.ntmps26
        go_wp2
        go_ret2
        exact ⟨by rw [HV.out]; rfl, rfl⟩
      · by_cases c2 : q - 1 < -32768
        · have HV := Lib.hid (codeV_small m (q - 1) hn c2)
          clear hn
          go_enter Tryd.func26, Tryd.ntmps26
          go_wp2
          go_ret2
          exact ⟨by rw [HV.out]; rfl, rfl⟩
        · have HV := Lib.hid (codeV_in m (q - 1) hn (by omega) (by omega))
          have W := i16_wrap (q - 1) (by omega) (by omega)
          clear hn
          go_enter Tryd.func26, Tryd.ntmps26
          go_wp2
          go_ret2
          exact ⟨by rw [HV.out]; rfl, rfl⟩
  · have a1 : ¬ m < q * 12500 := by omega
    by_cases hb : 6250 < m - q * 12500
    · have a2 : wrap64 (q * 12500) = q * 12500 := by unfold wrap64; omega
      have a3 : wrap64 (m - q * 12500) = m - q * 12500 := by unfold wrap64; omega
      have hn := codeN_at m (q + 1) (by omega) (by omega)
      clear r2 r3 hr r0 r1 hm
      by_cases c1 : 32767 < q + 1
      · have HV := Lib.hid (codeV_big m (q + 1) hn c1)
        clear hn
        go_enter Tryd.func26, Tryd.ntmps26
        go_wp2
        go_ret2
        exact ⟨by rw [HV.out]; rfl, rfl⟩
      · by_cases c2 : q + 1 < -32768
        · have HV := Lib.hid (codeV_small m (q + 1) hn c2)
          clear hn
          go_enter Tryd.func26, Tryd.ntmps26
          go_wp2
          go_ret2
          exact ⟨by rw [HV.out]; rfl, rfl⟩
        · have HV := Lib.hid (codeV_in m (q + 1) hn (by omega) (by omega))
          have W := i16_wrap (q + 1) (by omega) (by omega)
          clear hn
          go_enter Tryd.func26, Tryd.ntmps26
          go_wp2
          go_ret2
          exact ⟨by rw [HV.out]; rfl, rfl⟩
    · have a2 : wrap64 (q * 12500) = q * 12500 := by unfold wrap64; omega
      have a3 : wrap64 (m - q * 12500) = m - q * 12500 := by unfold wrap64; omega
      have hn := codeN_at m (q) (by omega) (by omega)
      clear r2 r3 hr r0 r1 hm
      by_cases c1 : 32767 < q
      · have HV := Lib.hid (codeV_big m (q) hn c1)
        clear hn
        go_enter Tryd.func26, Tryd.ntmps26
        go_wp2
        go_ret2
        exact ⟨by rw [HV.out]; rfl, rfl⟩
      · by_cases c2 : q < -32768
        · have HV := Lib.hid (codeV_small m (q) hn c2)
          clear hn
          go_enter Tryd.func26, Tryd.ntmps26
          go_wp2
          go_ret2
          exact ⟨by rw [HV.out]; rfl, rfl⟩
        · have HV := Lib.hid (codeV_in m (q) hn (by omega) (by omega))
          have W := i16_wrap (q) (by omega) (by omega)
          clear hn
          go_enter Tryd.func26, Tryd.ntmps26
          go_wp2
          go_ret2
          exact ⟨by rw [HV.out]; rfl, rfl⟩
end Go.Proofs.YtnomamimpnogpaaDoor
