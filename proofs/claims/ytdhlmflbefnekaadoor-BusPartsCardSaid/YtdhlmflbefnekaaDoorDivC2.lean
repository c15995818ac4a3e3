/- bits.Div64: two words by one. -/
import Derived.Test.YtdhlmflbefnekaaDoorDivV2
import Derived.Test.YtdhlmflbefnekaaDoorLenC
import Derived.Test.YtdhlmflbefnekaaDoorBase
import Derived.Test.YtdhlmflbefnekaaDoorChecked
import Derived.Lib.Strings
import Derived.Lib.Slices
import Derived.Lib.Small
import Derived.Lib.Walk
import Derived.Lib.BitFns
import Derived.Lib.Hide
import Derived.Laws.Bits64
import Derived.Deep.LoopGhost
import Derived.Deep.DeepCutAuto
import Derived.Deep.CutBlock
import Derived.Deep.QuietTactic
import Derived.BigQuiet
import Derived.Laws.BitsAllLaws
namespace Go.Proofs.YtdhlmflbefnekaaDoor
open Go.RowKit
theorem lz64_any (x : Int) (w : World) (h0 : 0 ≤ x) (h1 : x ≤ 18446744073709551615) :
    Calls Tryd.prog 44 #[.int .u64 x] w fun e w' => e = .returned (.int .i64 (64 - (Lib.bitLen x.toNat : Int))) ∧ w = w' := by
  have l : Lib.bitLen x.toNat ≤ 64 := Lib.bitLen_le x.toNat 64 (by omega) (by omega)
  have e8 : (64 - (Lib.bitLen x.toNat : Int) + 9223372036854775808) % 18446744073709551616 - 9223372036854775808 = 64 - (Lib.bitLen x.toNat : Int) := by omega
  go_enter Tryd.func44, Tryd.ntmps44
  go_wp2_with (go_at_call 49; refine (len64_any x _ h0 h1).mono ?_; rintro e w' ⟨rfl, rfl⟩)
  go_ret
  refine ⟨?_, rfl⟩
  rw [← e8]
  rfl
theorem bitLen_bd : ∀ (f x : Nat), x < 2 ^ f → f ≤ 64 → 0 < x → ∃ L, Lib.bitLen x = L + 1 ∧ 2 ^ L ≤ x ∧ x < 2 ^ (L + 1)
  | 0, x, h, _, h0 => by simp at h; omega
  | f + 1, x, h, hf, h0 => by
    have hx : x < 2 ^ 64 := Nat.lt_of_lt_of_le h (Nat.pow_le_pow_right (by omega) hf)
    rw [Lib.bitLen_half x (by omega) hx]
    by_cases c : x / 2 = 0
    · obtain rfl : x = 1 := by omega
      exact ⟨0, by rw [show 1 / 2 = 0 from rfl]; decide, by decide, by decide⟩
    · obtain ⟨L, h1, h2, h3⟩ := bitLen_bd f (x / 2) (by rw [Nat.pow_succ] at h; omega) (by omega) (by omega)
      exact ⟨L + 1, by omega, by rw [Nat.pow_succ]; omega, by rw [Nat.pow_succ]; omega⟩
set_option maxHeartbeats 8000000 in
set_option maxRecDepth 100000 in
theorem div64_any (hi lo y : Nat) (w : World) (hy : 0 < y) (hy2 : y < 9223372036854775808) (hh : hi < y) (hl : lo < 18446744073709551616) :
    Calls Tryd.prog 38 #[.int .u64 hi, .int .u64 lo, .int .u64 y] w fun e w' => e = .returned (.tuple #[.int .u64 ((hi * 18446744073709551616 + lo) / y : Nat), .int .u64 ((hi * 18446744073709551616 + lo) % y : Nat)]) ∧ ∃ n, w' = w.drewN n := by
  have d0 : ((y : Int) == 0) = false := beq_eq_false_iff_ne.2 (by omega)
  have d1 : ¬ (y : Int) ≤ (hi : Int) := by omega
  by_cases h0 : hi = 0
  · subst h0
    have e1 : Hid ((0 * 18446744073709551616 + lo) / y = lo / y ∧ (0 * 18446744073709551616 + lo) % y = lo % y) := Lib.hid ⟨by rw [Nat.zero_mul, Nat.zero_add], by rw [Nat.zero_mul, Nat.zero_add]⟩
    rw [e1.out.1, e1.out.2]
    have q1 : ¬ (y : Int) = 0 := by omega
    have d2 : (((0 : Nat) : Int) == 0) = true := rfl
    have d3 : ((0 : Int) == 0) = true := rfl
    obtain ⟨Q, hQ⟩ : ∃ Q, lo / y = Q := ⟨_, rfl⟩
    obtain ⟨R, hR⟩ : ∃ R, lo % y = R := ⟨_, rfl⟩
    have x1 : (lo : Int).tdiv (y : Int) = (Q : Int) := by rw [← hQ]; exact Int.ofNat_tdiv lo y
    have x2 : (lo : Int).tmod (y : Int) = (R : Int) := by rw [← hR]; exact Int.ofNat_tmod lo y
    have x3 : Q ≤ lo := by rw [← hQ]; exact Nat.div_le_self lo y
    have x4 : R ≤ lo := by rw [← hR]; exact Nat.mod_le lo y
    have x5 : IntKind.u64.wrap (Q : Int) = (Q : Int) := by rw [IntKind.wrap_u64]; omega
    have x6 : IntKind.u64.wrap (R : Int) = (R : Int) := by rw [IntKind.wrap_u64]; omega
    rw [hQ, hR]
    clear e1 hQ hR
    go_enter Tryd.func38, Tryd.ntmps38
    go_wp2_with fail
    go_quiet (fail)
    go_wp2_with fail
    go_ret2
    exact ⟨rfl, _, rfl⟩
  · have d2 : ((hi : Int) == 0) = false := beq_eq_false_iff_ne.2 (by omega)
    have hlz := fun w => lz64_any (y : Int) w (by omega) (by omega)
    obtain ⟨L, hL1, hL2, hL3⟩ := bitLen_bd 63 y (by omega) (by omega) hy
    rw [show ((y : Int)).toNat = y by omega, hL1] at hlz
    obtain ⟨s, hs⟩ : ∃ s, s = 63 - L := ⟨_, rfl⟩
    have hL4 : L < 63 := by
      rcases Nat.lt_or_ge L 63 with c | c
      · exact c
      · have := Nat.pow_le_pow_right (n := 2) (by omega) c
        omega
    have es : 64 - (((L + 1 : Nat)) : Int) = (s : Int) := by omega
    rw [es] at hlz
    have hs1 : 1 ≤ s ∧ s ≤ 63 := by omega
    have hp : 0 < 2 ^ s := Nat.two_pow_pos s
    obtain ⟨Y, hY⟩ : ∃ Y, Y = y * 2 ^ s := ⟨_, rfl⟩
    have hY1 : 9223372036854775808 ≤ Y ∧ Y < 18446744073709551616 := by
      have e1 : 2 ^ L * 2 ^ s = 9223372036854775808 := by rw [← Nat.pow_add, show L + s = 63 by omega]
      have e2 : 2 ^ (L + 1) * 2 ^ s = 18446744073709551616 := by rw [← Nat.pow_add, show L + 1 + s = 64 by omega]
      have e3 := Nat.mul_le_mul_right (2 ^ s) hL2
      have e4 := Nat.mul_lt_mul_of_pos_right hL3 hp
      omega
    obtain ⟨HI, hHI⟩ : ∃ HI, HI = hi * 2 ^ s := ⟨_, rfl⟩
    obtain ⟨LO, hLO⟩ : ∃ LO, LO = lo / 2 ^ (64 - s) := ⟨_, rfl⟩
    have e64 : 2 ^ (64 - s) * 2 ^ s = 18446744073709551616 := by rw [← Nat.pow_add, show 64 - s + s = 64 by omega]
    have hLO1 : LO < 2 ^ s := by rw [hLO, Nat.div_lt_iff_lt_mul (Nat.two_pow_pos _), Nat.mul_comm, e64]; exact hl
    have hHI1 : HI + 2 ^ s ≤ Y := by
      have := Nat.mul_le_mul_right (2 ^ s) (show hi + 1 ≤ y from hh)
      rw [Nat.add_mul, Nat.one_mul] at this
      omega
    obtain ⟨U, hU⟩ : ∃ U, U = HI + LO := ⟨_, rfl⟩
    have hUY : U < Y := by omega
    obtain ⟨LW, hLW⟩ : ∃ LW, LW = lo * 2 ^ s % 18446744073709551616 := ⟨_, rfl⟩
    have hLW1 : LW < 18446744073709551616 := by rw [hLW]; exact Nat.mod_lt _ (by omega)
    have hN : (hi * 18446744073709551616 + lo) * 2 ^ s = U * 18446744073709551616 + LW := by
      have e1 := Nat.div_add_mod (lo * 2 ^ s) 18446744073709551616
      have e2 : lo * 2 ^ s / 18446744073709551616 = LO := by rw [← e64, Nat.mul_div_mul_right _ _ hp, hLO]
      rw [e2, ← hLW] at e1
      rw [Nat.add_mul, Nat.mul_right_comm, ← hHI, hU]
      omega
    obtain ⟨v1, hv1⟩ : ∃ v1, v1 = LW / 4294967296 := ⟨_, rfl⟩
    obtain ⟨v0, hv0⟩ : ∃ v0, v0 = LW % 4294967296 := ⟨_, rfl⟩
    obtain ⟨a, ha⟩ : ∃ a, a = Y / 4294967296 := ⟨_, rfl⟩
    obtain ⟨c, hc⟩ : ∃ c, c = Y % 4294967296 := ⟨_, rfl⟩
    have hA1 : 2147483648 ≤ a ∧ a < 4294967296 := by omega
    have Hc : Hid (c < 4294967296) := Lib.hid (by omega)
    have HYac : Hid (a * 4294967296 + c = Y) := Lib.hid (by omega)
    have Hv : Hid (v1 < 4294967296) := Lib.hid (by omega)
    have Hv0 : Hid (v0 < 4294967296) := Lib.hid (by omega)
    have hvv : v1 < 4294967296 ∧ v0 < 4294967296 := by omega
    have HUY : Hid (U < a * 4294967296 + c) := Lib.hid (by have := HYac.out; omega)
    have HN : Hid ((hi * 18446744073709551616 + lo) * 2 ^ s = (U * 4294967296 + v1) * 4294967296 + v0) := Lib.hid (by rw [hN]; omega)
    have HYy : Hid (Y = y * 2 ^ s) := Lib.hid hY
    have eY : IntKind.u64.wrap ((y : Int) * 2 ^ s) = (Y : Int) := by
      have e : (y : Int) * 2 ^ s = (Y : Int) := by rw [hY, Int.natCast_mul, Int.natCast_pow]; rfl
      rw [e, IntKind.wrap_u64]; omega
    have eA : (Y : Int) / 4294967296 = (a : Int) := by omega
    have eC : bits .and .u64 (Y : Int) 4294967295 = (c : Int) := by
      have := u64_and_nat Y 4294967295 (by omega) (by omega)
      rw [show ((4294967295 : Nat) : Int) = 4294967295 from rfl] at this
      rw [this, show (4294967295 : Nat) = 2 ^ 32 - 1 from rfl, Nat.and_two_pow_sub_one_eq_mod]
      omega
    have eH : IntKind.u64.wrap ((hi : Int) * 2 ^ s) = (HI : Int) := by
      have e : (hi : Int) * 2 ^ s = (HI : Int) := by rw [hHI, Int.natCast_mul, Int.natCast_pow]; rfl
      rw [e, IntKind.wrap_u64]; omega
    have eL : (lo : Int) / 2 ^ (64 - s) = (LO : Int) := by rw [hLO, Int.natCast_ediv, Int.natCast_pow]; rfl
    have eO : bits .or .u64 (HI : Int) (LO : Int) = (U : Int) := by
      rw [u64_or_nat HI LO (by omega) (by omega)]
      congr 1
      rw [hHI, Nat.mul_comm, ← Nat.two_pow_add_eq_or_of_lt hLO1, hU, hHI, Nat.mul_comm]
    have eW : IntKind.u64.wrap ((lo : Int) * 2 ^ s) = (LW : Int) := by
      have e : (lo : Int) * 2 ^ s = ((lo * 2 ^ s : Nat) : Int) := by rw [Int.natCast_mul, Int.natCast_pow]; rfl
      rw [e, IntKind.wrap_u64, hLW]; omega
    have eV1 : (LW : Int) / 4294967296 = (v1 : Int) := by omega
    have eV0 : bits .and .u64 (LW : Int) 4294967295 = (v0 : Int) := by
      have := u64_and_nat LW 4294967295 (by omega) (by omega)
      rw [show ((4294967295 : Nat) : Int) = 4294967295 from rfl] at this
      rw [this, show (4294967295 : Nat) = 2 ^ 32 - 1 from rfl, Nat.and_two_pow_sub_one_eq_mod]
      omega
    have DI : Hid (Dv.Dig U v1 a c (U / a) (U % a)) := Lib.hid (Dv.Dig.start hA1.1 hA1.2 Hc.out HUY.out Hv.out)
    obtain ⟨qg, hqg⟩ : ∃ qs, U / a = qs := ⟨_, rfl⟩
    obtain ⟨rg, hrg⟩ : ∃ rs, U % a = rs := ⟨_, rfl⟩
    rw [hqg, hrg] at DI
    have hqg1 : qg ≤ 4294967297 := DI.out.le
    have hrg1 : rg < 4294967296 := by rw [← hrg]; have := Nat.mod_lt U (show a > 0 by omega); omega
    have hqa : U = qg * a + rg := DI.out.eq
    obtain ⟨QG, hQG⟩ : ∃ QA, QA = qg * a := ⟨_, rfl⟩
    have hQG1 : QG ≤ U ∧ U ≤ QG + rg ∧ QG + rg ≤ U := by rw [hQG]; omega
    have t1 : (U : Int).tdiv (a : Int) = (qg : Int) := by rw [← hqg]; exact Int.ofNat_tdiv U a
    have t2 : IntKind.u64.wrap (qg : Int) = (qg : Int) := by rw [IntKind.wrap_u64]; omega
    have t3 : IntKind.u64.wrap ((qg : Int) * (a : Int)) = (QG : Int) := by rw [← Int.natCast_mul, ← hQG, IntKind.wrap_u64]; omega
    have t3' : (qg : Int) * (a : Int) = (QG : Int) := by rw [← Int.natCast_mul, ← hQG]
    have t4 : IntKind.u64.wrap ((U : Int) - (QG : Int)) = (rg : Int) := by rw [IntKind.wrap_u64]; omega
    have t5 : ((a : Int) == 0) = false := beq_eq_false_iff_ne.2 (by omega)
    have hUlt : U < 18446744073709551616 := by omega
    clear hqg hrg hqa hQG hs es hY hHI hLO e64 hLO1 hHI1 hU hLW hN hv1 hv0 ha hc hL1 hL2 hL3 hL4 hp hUY
    obtain ⟨q1, hq1⟩ : ∃ q1, q1 = (U * 4294967296 + v1) / (a * 4294967296 + c) := ⟨_, rfl⟩
    have HK : Hid (q1 = (U * 4294967296 + v1) / (a * 4294967296 + c)) := Lib.hid hq1
    have HK1 : Hid (q1 = (U * 4294967296 + v1) / Y) := Lib.hid (by rw [hq1, HYac.out])
    clear hq1
    go_enter Tryd.func38, Tryd.ntmps38
    go_wp2_with fail
    refine (hlz _).mono ?_
    rintro e w' ⟨rfl, rfl⟩
    clear hlz
    go_upto_block 0 with fail
    go_cut [15] (fun qv wx => qv = .int .u64 (q1 : Int) ∧ w = wx)
    case first =>
      go_wp2_with fail
      go_loopg [15, 16] 4294967298 (fun kx vq vr wr => ∃ q r : Nat, vq = .int .u64 q ∧ vr = .int .u64 r ∧ q ≤ 4294967297 ∧ r < 4294967296 ∧ q ≤ kx ∧ wr = w ∧ Hid (Dv.Dig U v1 a c q r))
      case atStart => exact ⟨_, _, rfl, rfl, by omega, by omega, by omega, rfl, DI⟩
      case round =>
        obtain ⟨q, r, rfl, rfl, hq, hr, hkx, rfl, HD⟩ := hrel
        by_cases b1 : 4294967296 ≤ q
        · obtain ⟨hq1, hD2⟩ := HD.out.again hA1.1 hA1.2 HUY.out Hv.out hr (.inl b1)
          have HD2 := Lib.hid hD2
          obtain ⟨p, hp⟩ : ∃ p, p + 1 = q := ⟨q - 1, by omega⟩
          have zq : (q : Int) - 1 = (p : Int) := by omega
          have zb : (q : Int) ≥ 4294967296 := by omega
          have zb2 : decide ((q : Int) ≥ 4294967296) = true := decide_eq_true zb
          have zp : q - 1 = p := by omega
          rw [zp] at HD2
          obtain ⟨ra, hra⟩ : ∃ ra, ra = r + a := ⟨_, rfl⟩
          have zr : (r : Int) + (a : Int) = (ra : Int) := by omega
          have zr2 : ra ≤ r + a ∧ r + a ≤ ra := by omega
          rw [← hra] at HD2
          clear hra hD2 zp
          by_cases b2 : 4294967296 ≤ ra
          · have zc : (ra : Int) ≥ 4294967296 := by omega
            have HF : Hid (p = q1) := Lib.hid ((HD2.out.brk hA1.1 Hc.out HUY.out b2).trans HK.out.symm)
            go_wp2_with fail
            go_meet
            exact ⟨by rw [HF.out], rfl⟩
          · have zc : ¬ (ra : Int) ≥ 4294967296 := by omega
            go_wp2_with fail
            go_roundg p
            case measure => omega
            case rel => exact ⟨p, ra, rfl, rfl, by omega, by omega, Nat.le_refl _, rfl, HD2⟩
        · have zb : ¬ (q : Int) ≥ 4294967296 := by omega
          have zb2 : decide ((q : Int) ≥ 4294967296) = false := decide_eq_false zb
          obtain ⟨QC, hQC⟩ : ∃ QC, QC = q * c := ⟨_, rfl⟩
          have hQC1 : QC ≤ 18446744065119617025 := by rw [hQC]; exact Nat.mul_le_mul (show q ≤ 4294967295 by omega) (show c ≤ 4294967295 by have := Hc.out; omega)
          have e1 : IntKind.u64.wrap ((q : Int) * (c : Int)) = (QC : Int) := by rw [← Int.natCast_mul, ← hQC, IntKind.wrap_u64]; omega
          have e1' : (q : Int) * (c : Int) = (QC : Int) := by rw [← Int.natCast_mul, ← hQC]
          have hv := Hv.out
          have e2 : IntKind.u64.wrap (4294967296 * (r : Int)) = 4294967296 * (r : Int) := by rw [IntKind.wrap_u64]; omega
          have e3 : IntKind.u64.wrap (4294967296 * (r : Int) + (v1 : Int)) = 4294967296 * (r : Int) + (v1 : Int) := by rw [IntKind.wrap_u64]; omega
          have HQC := Lib.hid hQC
          clear hQC
          by_cases b2 : 4294967296 * r + v1 < QC
          · have hx : 4294967296 * r + v1 < q * c := by rw [← HQC.out]; exact b2
            obtain ⟨hq1, hD2⟩ := HD.out.again hA1.1 hA1.2 HUY.out Hv.out hr (.inr hx)
            have HD2 := Lib.hid hD2
            obtain ⟨p, hp⟩ : ∃ p, p + 1 = q := ⟨q - 1, by omega⟩
            have zq : (q : Int) - 1 = (p : Int) := by omega
            have zp : q - 1 = p := by omega
            rw [zp] at HD2
            obtain ⟨ra, hra⟩ : ∃ ra, ra = r + a := ⟨_, rfl⟩
            have zr : (r : Int) + (a : Int) = (ra : Int) := by omega
            have zr2 : ra ≤ r + a ∧ r + a ≤ ra := by omega
            rw [← hra] at HD2
            have e4 : (QC : Int) > 4294967296 * (r : Int) + (v1 : Int) := by omega
            clear hra hD2 zp hx
            by_cases b3 : 4294967296 ≤ ra
            · have zc : (ra : Int) ≥ 4294967296 := by omega
              have HF : Hid (p = q1) := Lib.hid ((HD2.out.brk hA1.1 Hc.out HUY.out b3).trans HK.out.symm)
              go_wp2_with fail
              go_meet
              exact ⟨by rw [HF.out], rfl⟩
            · have zc : ¬ (ra : Int) ≥ 4294967296 := by omega
              go_wp2_with fail
              go_roundg p
              case measure => omega
              case rel => exact ⟨p, ra, rfl, rfl, by omega, by omega, Nat.le_refl _, rfl, HD2⟩
          · have e4 : ¬ (QC : Int) > 4294967296 * (r : Int) + (v1 : Int) := by omega
            have HF : Hid (q = q1) := Lib.hid ((HD.out.fin hA1.1 (by rw [← HQC.out]; omega)).trans HK.out.symm)
            go_wp2_with fail
            go_meet
            exact ⟨by rw [HF.out], rfl⟩
    case rest =>
      obtain ⟨rfl, rfl⟩ := hcut
      clear DI HK
      obtain ⟨F1, hF1⟩ : ∃ F1, IntKind.u64.wrap ((U : Int) * 4294967296) = F1 := ⟨_, rfl⟩
      obtain ⟨F2, hF2⟩ : ∃ F2, IntKind.u64.wrap (F1 + (v1 : Int)) = F2 := ⟨_, rfl⟩
      obtain ⟨F3, hF3⟩ : ∃ F3, IntKind.u64.wrap ((q1 : Int) * (Y : Int)) = F3 := ⟨_, rfl⟩
      obtain ⟨u2, hu2⟩ : ∃ u2, u2 = (U * 4294967296 + v1) % Y := ⟨_, rfl⟩
      have hu2lt : u2 < Y := by rw [hu2]; exact Nat.mod_lt _ (by omega)
      have hF4 : IntKind.u64.wrap (F2 - F3) = (u2 : Int) := by
        have e := Nat.div_add_mod (U * 4294967296 + v1) Y
        rw [← HK1.out, ← hu2] at e
        have e2 : (q1 : Int) * (Y : Int) = ((Y * q1 : Nat) : Int) := by rw [Int.natCast_mul, Int.mul_comm]
        rw [e2] at hF3
        rw [IntKind.wrap_u64] at hF1 hF2 hF3 ⊢
        generalize Y * q1 = P at *
        omega
      have HUY : Hid (u2 < a * 4294967296 + c) := Lib.hid (by have := HYac.out; omega)
      have DI : Hid (Dv.Dig u2 v0 a c (u2 / a) (u2 % a)) := Lib.hid (Dv.Dig.start hA1.1 hA1.2 Hc.out HUY.out Hv0.out)
      obtain ⟨qs, hqs⟩ : ∃ qs, u2 / a = qs := ⟨_, rfl⟩
      obtain ⟨rs, hrs⟩ : ∃ rs, u2 % a = rs := ⟨_, rfl⟩
      rw [hqs, hrs] at DI
      have hqs1 : qs ≤ 4294967297 := DI.out.le
      have hrs1 : rs < 4294967296 := by rw [← hrs]; have := Nat.mod_lt u2 (show a > 0 by omega); omega
      have hqa : u2 = qs * a + rs := DI.out.eq
      obtain ⟨QA, hQA⟩ : ∃ QA, QA = qs * a := ⟨_, rfl⟩
      have hQA1 : QA ≤ u2 ∧ u2 ≤ QA + rs ∧ QA + rs ≤ u2 := by rw [hQA]; omega
      have t1 : (u2 : Int).tdiv (a : Int) = (qs : Int) := by rw [← hqs]; exact Int.ofNat_tdiv u2 a
      have t2 : IntKind.u64.wrap (qs : Int) = (qs : Int) := by rw [IntKind.wrap_u64]; omega
      have t3 : IntKind.u64.wrap ((qs : Int) * (a : Int)) = (QA : Int) := by rw [← Int.natCast_mul, ← hQA, IntKind.wrap_u64]; omega
      have t3' : (qs : Int) * (a : Int) = (QA : Int) := by rw [← Int.natCast_mul, ← hQA]
      have t4 : IntKind.u64.wrap ((u2 : Int) - (QA : Int)) = (rs : Int) := by rw [IntKind.wrap_u64]; omega
      have t5 : ((a : Int) == 0) = false := beq_eq_false_iff_ne.2 (by omega)
      have HU2 := Lib.hid hu2
      clear hqs hrs hqa hQA hu2
      obtain ⟨q0, hq0⟩ : ∃ q0, q0 = (u2 * 4294967296 + v0) / (a * 4294967296 + c) := ⟨_, rfl⟩
      have HK : Hid (q0 = (u2 * 4294967296 + v0) / (a * 4294967296 + c)) := Lib.hid hq0
      have HK0 : Hid (q0 = (u2 * 4294967296 + v0) / Y) := Lib.hid (by rw [hq0, HYac.out])
      clear hq0
      have Hv := Hv0
      have HT : Hid ((hi * 18446744073709551616 + lo) / y = q1 * 4294967296 + q0 ∧ (hi * 18446744073709551616 + lo) % y = ((u2 * 4294967296 + v0) % Y) / 2 ^ s ∧ q1 * 4294967296 + q0 < 18446744073709551616) := Lib.hid (by
        obtain ⟨w1, w2⟩ := Dv.two 4294967296 (U * 4294967296 + v1) v0 Y (by omega)
        obtain ⟨x1, x2⟩ := Dv.shifted (hi * 18446744073709551616 + lo) y s hy
        rw [← HYy.out, HN.out] at x1 x2
        rw [← HK1.out, ← HU2.out] at w1
        rw [← HU2.out] at w2
        rw [← HK0.out] at w1
        refine ⟨by rw [← x1, w1], by rw [← x2, w2], ?_⟩
        rw [w1, x1]
        exact Nat.div_lt_of_lt_mul (by
          have : hi + 1 ≤ y := hh
          have := Nat.mul_le_mul_right 18446744073709551616 this
          omega))
      go_upto_block 2 with fail
      go_cut [18] (fun qv wx => qv = .int .u64 (q0 : Int) ∧ w = wx)
      case first =>
        go_wp2_with fail
        go_loopg [18, 16] 4294967298 (fun kx vq vr wr => ∃ q r : Nat, vq = .int .u64 q ∧ vr = .int .u64 r ∧ q ≤ 4294967297 ∧ r < 4294967296 ∧ q ≤ kx ∧ wr = w ∧ Hid (Dv.Dig u2 v0 a c q r))
        case atStart => exact ⟨_, _, rfl, rfl, by omega, by omega, by omega, rfl, DI⟩
        case round =>
          obtain ⟨q, r, rfl, rfl, hq, hr, hkx, rfl, HD⟩ := hrel
          by_cases b1 : 4294967296 ≤ q
          · obtain ⟨hq1, hD2⟩ := HD.out.again hA1.1 hA1.2 HUY.out Hv.out hr (.inl b1)
            have HD2 := Lib.hid hD2
            obtain ⟨p, hp⟩ : ∃ p, p + 1 = q := ⟨q - 1, by omega⟩
            have zq : (q : Int) - 1 = (p : Int) := by omega
            have zb : (q : Int) ≥ 4294967296 := by omega
            have zb2 : decide ((q : Int) ≥ 4294967296) = true := decide_eq_true zb
            have zp : q - 1 = p := by omega
            rw [zp] at HD2
            obtain ⟨ra, hra⟩ : ∃ ra, ra = r + a := ⟨_, rfl⟩
            have zr : (r : Int) + (a : Int) = (ra : Int) := by omega
            have zr2 : ra ≤ r + a ∧ r + a ≤ ra := by omega
            rw [← hra] at HD2
            clear hra hD2 zp
            by_cases b2 : 4294967296 ≤ ra
            · have zc : (ra : Int) ≥ 4294967296 := by omega
              have HF : Hid (p = q0) := Lib.hid ((HD2.out.brk hA1.1 Hc.out HUY.out b2).trans HK.out.symm)
              go_wp2_with fail
              go_meet
              exact ⟨by rw [HF.out], rfl⟩
            · have zc : ¬ (ra : Int) ≥ 4294967296 := by omega
              go_wp2_with fail
              go_roundg p
              case measure => omega
              case rel => exact ⟨p, ra, rfl, rfl, by omega, by omega, Nat.le_refl _, rfl, HD2⟩
          · have zb : ¬ (q : Int) ≥ 4294967296 := by omega
            have zb2 : decide ((q : Int) ≥ 4294967296) = false := decide_eq_false zb
            obtain ⟨QC, hQC⟩ : ∃ QC, QC = q * c := ⟨_, rfl⟩
            have hQC1 : QC ≤ 18446744065119617025 := by rw [hQC]; exact Nat.mul_le_mul (show q ≤ 4294967295 by omega) (show c ≤ 4294967295 by have := Hc.out; omega)
            have e1 : IntKind.u64.wrap ((q : Int) * (c : Int)) = (QC : Int) := by rw [← Int.natCast_mul, ← hQC, IntKind.wrap_u64]; omega
            have e1' : (q : Int) * (c : Int) = (QC : Int) := by rw [← Int.natCast_mul, ← hQC]
            have hv := Hv.out
            have e2 : IntKind.u64.wrap (4294967296 * (r : Int)) = 4294967296 * (r : Int) := by rw [IntKind.wrap_u64]; omega
            have e3 : IntKind.u64.wrap (4294967296 * (r : Int) + (v0 : Int)) = 4294967296 * (r : Int) + (v0 : Int) := by rw [IntKind.wrap_u64]; omega
            have HQC := Lib.hid hQC
            clear hQC
            by_cases b2 : 4294967296 * r + v0 < QC
            · have hx : 4294967296 * r + v0 < q * c := by rw [← HQC.out]; exact b2
              obtain ⟨hq1, hD2⟩ := HD.out.again hA1.1 hA1.2 HUY.out Hv.out hr (.inr hx)
              have HD2 := Lib.hid hD2
              obtain ⟨p, hp⟩ : ∃ p, p + 1 = q := ⟨q - 1, by omega⟩
              have zq : (q : Int) - 1 = (p : Int) := by omega
              have zp : q - 1 = p := by omega
              rw [zp] at HD2
              obtain ⟨ra, hra⟩ : ∃ ra, ra = r + a := ⟨_, rfl⟩
              have zr : (r : Int) + (a : Int) = (ra : Int) := by omega
              have zr2 : ra ≤ r + a ∧ r + a ≤ ra := by omega
              rw [← hra] at HD2
              have e4 : (QC : Int) > 4294967296 * (r : Int) + (v0 : Int) := by omega
              clear hra hD2 zp hx
              by_cases b3 : 4294967296 ≤ ra
              · have zc : (ra : Int) ≥ 4294967296 := by omega
                have HF : Hid (p = q0) := Lib.hid ((HD2.out.brk hA1.1 Hc.out HUY.out b3).trans HK.out.symm)
                go_wp2_with fail
                go_meet
                exact ⟨by rw [HF.out], rfl⟩
              · have zc : ¬ (ra : Int) ≥ 4294967296 := by omega
                go_wp2_with fail
                go_roundg p
                case measure => omega
                case rel => exact ⟨p, ra, rfl, rfl, by omega, by omega, Nat.le_refl _, rfl, HD2⟩
            · have e4 : ¬ (QC : Int) > 4294967296 * (r : Int) + (v0 : Int) := by omega
              have HF : Hid (q = q0) := Lib.hid ((HD.out.fin hA1.1 (by rw [← HQC.out]; omega)).trans HK.out.symm)
              go_wp2_with fail
              go_meet
              exact ⟨by rw [HF.out], rfl⟩
      case rest =>
        obtain ⟨rfl, rfl⟩ := hcut
        have g1 : IntKind.u64.wrap ((q1 : Int) * 4294967296) = (q1 : Int) * 4294967296 := by have := HT.out.2.2; rw [IntKind.wrap_u64]; omega
        have g2 : IntKind.u64.wrap ((q1 : Int) * 4294967296 + (q0 : Int)) = (q1 : Int) * 4294967296 + (q0 : Int) := by have := HT.out.2.2; rw [IntKind.wrap_u64]; omega
        obtain ⟨G3, hG3⟩ : ∃ G3, IntKind.u64.wrap ((u2 : Int) * 4294967296) = G3 := ⟨_, rfl⟩
        obtain ⟨G4, hG4⟩ : ∃ G4, IntKind.u64.wrap (G3 + (v0 : Int)) = G4 := ⟨_, rfl⟩
        obtain ⟨G5, hG5⟩ : ∃ G5, IntKind.u64.wrap ((q0 : Int) * (Y : Int)) = G5 := ⟨_, rfl⟩
        obtain ⟨rr, hrr⟩ : ∃ rr, rr = (u2 * 4294967296 + v0) % Y := ⟨_, rfl⟩
        have hG6 : IntKind.u64.wrap (G4 - G5) = (rr : Int) := by
          have e := Nat.div_add_mod (u2 * 4294967296 + v0) Y
          rw [← HK0.out, ← hrr] at e
          have hlt : rr < Y := by rw [hrr]; exact Nat.mod_lt _ (by omega)
          have e2 : (q0 : Int) * (Y : Int) = ((Y * q0 : Nat) : Int) := by rw [Int.natCast_mul, Int.mul_comm]
          rw [e2] at hG5
          rw [IntKind.wrap_u64] at hG3 hG4 hG5 ⊢
          generalize Y * q0 = P at *
          omega
        have g7 : (rr : Int) / 2 ^ s = ((rr / 2 ^ s : Nat) : Int) := by rw [Int.natCast_ediv, Int.natCast_pow]; rfl
        obtain ⟨rs, hrs⟩ : ∃ rs, rr / 2 ^ s = rs := ⟨_, rfl⟩
        rw [hrs] at g7
        have HR : Hid ((hi * 18446744073709551616 + lo) % y = rs) := Lib.hid (by rw [← hrs, hrr]; exact HT.out.2.1)
        have HQ : Hid ((hi * 18446744073709551616 + lo) / y = q1 * 4294967296 + q0) := Lib.hid HT.out.1
        clear hrr hrs
        go_wp2_with fail
        go_ret2
        rw [HR.out, HQ.out, show ((q1 * 4294967296 + q0 : Nat) : Int) = (q1 : Int) * 4294967296 + (q0 : Int) by omega]
        exact ⟨rfl, 0, rfl⟩
end Go.Proofs.YtdhlmflbefnekaaDoor
