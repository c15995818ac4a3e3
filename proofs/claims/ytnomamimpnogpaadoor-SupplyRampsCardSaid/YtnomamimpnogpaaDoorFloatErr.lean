/- Doubles, plainly: how far rounding moves a number (numbers in units of 2^-200, none below 2^-140). -/
import Derived.Test.YtnomamimpnogpaaDoorFloatKit
namespace Go.Proofs.YtnomamimpnogpaaDoor
namespace Dbl
open Ieee
/-- x stands for v * 2^-200. -/
def Val (x v : Nat) : Prop := ∃ (m : Nat) (p : Int), F.read x = .number false m p ∧ -140 ≤ p ∧ m * 2 ^ (p + 200).toNat = v
theorem pow_pos (k : Nat) : 0 < 2 ^ k := Nat.two_pow_pos k
/-- What a whole significand at a place reads as; 2^53 too. -/
theorem val_word (k : Nat) (p : Int) (h1 : 4503599627370496 ≤ k) (h2 : k ≤ 9007199254740992) (h3 : -140 ≤ p) (h4 : p ≤ 900) : Val (F.word false ((p + 1074).toNat * 4503599627370496 + k)) (k * 2 ^ (p + 200).toNat) := by
  have hw : F.word false ((p + 1074).toNat * 4503599627370496 + k) = (p + 1074).toNat * 4503599627370496 + k := rfl
  rw [hw]
  have hp : (p + 1074).toNat ≤ 1974 := by omega
  have hp' : 934 ≤ (p + 1074).toNat := by omega
  by_cases hk : k = 9007199254740992
  · refine ⟨4503599627370496, p + 1, ?_, by omega, ?_⟩
    · unfold Format.read
      simp only [F_sign, F_binade, F_inf, F_least]
      have hr : ((p + 1074).toNat * 4503599627370496 + k) % 9223372036854775808 = (p + 1074).toNat * 4503599627370496 + k := by omega
      have hs : ((p + 1074).toNat * 4503599627370496 + k) / 9223372036854775808 % 2 = 0 := by omega
      rw [hr, hs, if_neg (by omega), if_pos (by omega)]
      congr 1
      · omega
      · omega
    · rw [hk, show (p + 1 + 200).toNat = (p + 200).toNat + 1 by omega, Nat.pow_succ]
      omega
  · refine ⟨k, p, ?_, h3, rfl⟩
    unfold Format.read
    simp only [F_sign, F_binade, F_inf, F_least]
    have hr : ((p + 1074).toNat * 4503599627370496 + k) % 9223372036854775808 = (p + 1074).toNat * 4503599627370496 + k := by omega
    have hs : ((p + 1074).toNat * 4503599627370496 + k) / 9223372036854775808 % 2 = 0 := by omega
    rw [hr, hs, if_neg (by omega), if_pos (by omega)]
    congr 1
    · omega
    · omega
/-- Rounding a whole number to a multiple of 2^d: half a unit at most. -/
theorem cut_err (n d : Nat) (hd : d ≤ n.log2) : 2 * (Toward.even.cut false n d * 2 ^ d) ≤ 2 * n + 2 ^ d ∧ 2 * n ≤ 2 * (Toward.even.cut false n d * 2 ^ d) + 2 ^ d := by
  unfold Toward.cut
  have hm : min d (n.log2 + 2) = d := by omega
  simp only [hm, Nat.one_shiftLeft]
  have hg := pow_pos d
  generalize 2 ^ d = g at *
  have hdm := Nat.div_add_mod n g
  have hlt := Nat.mod_lt n hg
  generalize n / g = q at *
  generalize n % g = r at *
  have e : g * q = q * g := Nat.mul_comm _ _
  by_cases h1 : g < 2 * r
  · have hb : (decide (g < 2 * r) || g == 2 * r && q % 2 == 1) = true := by simp [h1]
    rw [hb]
    show 2 * ((q + 1) * g) ≤ 2 * n + g ∧ 2 * n ≤ 2 * ((q + 1) * g) + g
    rw [Nat.add_mul]
    omega
  · by_cases h2 : g = 2 * r
    · generalize hb : (decide (g < 2 * r) || g == 2 * r && q % 2 == 1) = b
      cases b
      · show 2 * ((q + 0) * g) ≤ 2 * n + g ∧ 2 * n ≤ 2 * ((q + 0) * g) + g
        rw [Nat.add_zero]
        omega
      · show 2 * ((q + 1) * g) ≤ 2 * n + g ∧ 2 * n ≤ 2 * ((q + 1) * g) + g
        rw [Nat.add_mul]
        omega
    · have hb : (decide (g < 2 * r) || g == 2 * r && q % 2 == 1) = false := by simp [h1, h2]
      rw [hb]
      show 2 * ((q + 0) * g) ≤ 2 * n + g ∧ 2 * n ≤ 2 * ((q + 0) * g) + g
      rw [Nat.add_zero]
      omega
/-- The nearest word: off by a 2^53rd at most. -/
theorem near_val (m : Nat) (p : Int) (hm : m ≠ 0) (h1 : -140 ≤ p + m.log2 - 52) (h2 : p + m.log2 ≤ 900) (h3 : -200 ≤ p) :
    ∃ v, Val (F.nearest false m p) v ∧ v * 2 ^ 53 ≤ m * 2 ^ (p + 200).toNat * (2 ^ 53 + 1) ∧ m * 2 ^ (p + 200).toNat * 2 ^ 53 ≤ v * 2 ^ 53 + m * 2 ^ (p + 200).toNat := by
  have l1 := Nat.log2_self_le hm
  have l2 : m < 2 ^ (m.log2 + 1) := Nat.lt_log2_self
  generalize hL : m.log2 = L at *
  have hlast : max (p + (m.log2 : Int) - (F.fractionBits : Int)) F.leastPlace = p + L - 52 := by rw [hL, F_least, F_bits]; omega
  unfold Format.nearest
  rw [if_neg hm]
  simp only [hlast]
  by_cases hle : L ≤ 52
  · -- nothing is dropped
    have a1 : (p + (L : Int) - 52 - p).toNat = 0 := by omega
    have a2 : (p - (p + (L : Int) - 52)).toNat = 52 - L := by omega
    rw [a1, a2, cut_zero, F_least, F_binade, F_inf]
    have hk1 : 4503599627370496 ≤ m <<< (52 - L) := by
      rw [Nat.shiftLeft_eq]
      calc 4503599627370496 = 2 ^ L * 2 ^ (52 - L) := by rw [← Nat.pow_add, show L + (52 - L) = 52 by omega]
        _ ≤ _ := Nat.mul_le_mul_right _ l1
    have hk2 : m <<< (52 - L) < 9007199254740992 := by
      rw [Nat.shiftLeft_eq]
      calc _ < 2 ^ (L + 1) * 2 ^ (52 - L) := Nat.mul_lt_mul_of_pos_right l2 (pow_pos _)
        _ = 9007199254740992 := by rw [← Nat.pow_add, show L + 1 + (52 - L) = 53 by omega]
    have e1 : (p + (L : Int) - 52 - -1074).toNat = (p + (L : Int) - 52 + 1074).toNat := by omega
    rw [e1, Nat.min_eq_left (by omega)]
    refine ⟨_, val_word _ _ hk1 (by omega) h1 (by omega), ?_⟩
    have ev : m <<< (52 - L) * 2 ^ (p + (L : Int) - 52 + 200).toNat = m * 2 ^ (p + 200).toNat := by
      rw [Nat.shiftLeft_eq, Nat.mul_assoc, ← Nat.pow_add, show 52 - L + (p + (L : Int) - 52 + 200).toNat = (p + 200).toNat by omega]
    rw [ev]
    generalize m * 2 ^ (p + 200).toNat = V
    constructor <;> omega
  · have a1 : (p + (L : Int) - 52 - p).toNat = L - 52 := by omega
    have a2 : (p - (p + (L : Int) - 52)).toNat = 0 := by omega
    rw [a1, a2, Nat.shiftLeft_zero, F_least, F_binade, F_inf]
    obtain ⟨c1, c2⟩ := cut_err m (L - 52) (by omega)
    generalize Toward.even.cut false m (L - 52) = k at *
    have hd := pow_pos (L - 52)
    have e52 : 2 ^ L = 4503599627370496 * 2 ^ (L - 52) := by rw [show (4503599627370496 : Nat) = 2 ^ 52 from rfl, ← Nat.pow_add, show 52 + (L - 52) = L by omega]
    have e53 : 2 ^ (L + 1) = 9007199254740992 * 2 ^ (L - 52) := by rw [Nat.pow_succ, e52]; omega
    rw [e52] at l1
    rw [e53] at l2
    generalize hg : 2 ^ (L - 52) = g at *
    have hk1 : 4503599627370496 ≤ k := by
      rcases Nat.lt_or_ge k 4503599627370496 with h | h
      · have : k * g ≤ 4503599627370495 * g := Nat.mul_le_mul_right _ (by omega)
        omega
      · exact h
    have hk2 : k ≤ 9007199254740992 := by
      rcases Nat.lt_or_ge 9007199254740992 k with h | h
      · have : 9007199254740993 * g ≤ k * g := Nat.mul_le_mul_right _ (by omega)
        omega
      · exact h
    have e1 : (p + (L : Int) - 52 - -1074).toNat = (p + (L : Int) - 52 + 1074).toNat := by omega
    rw [e1, Nat.min_eq_left (by omega)]
    refine ⟨_, val_word _ _ hk1 hk2 h1 (by omega), ?_⟩
    have ev : k * 2 ^ (p + (L : Int) - 52 + 200).toNat = k * g * 2 ^ (p + 200).toNat := by
      rw [← hg, Nat.mul_assoc, ← Nat.pow_add, show L - 52 + (p + 200).toNat = (p + (L : Int) - 52 + 200).toNat by omega]
    rw [ev]
    have hP := pow_pos (p + 200).toNat
    generalize 2 ^ (p + 200).toNat = P at *
    have d1 : 2 * (k * g) * P ≤ (2 * m + g) * P := Nat.mul_le_mul_right _ c1
    have d2 : 2 * m * P ≤ (2 * (k * g) + g) * P := Nat.mul_le_mul_right _ c2
    have d3 : 4503599627370496 * g * P ≤ m * P := Nat.mul_le_mul_right _ l1
    rw [Nat.add_mul] at d1 d2
    have x1 : 2 * (k * g) * P = 2 * (k * g * P) := by rw [Nat.mul_assoc]
    have x2 : 2 * m * P = 2 * (m * P) := by rw [Nat.mul_assoc]
    have x3 : 4503599627370496 * g * P = 4503599627370496 * (g * P) := by rw [Nat.mul_assoc]
    rw [x1, x2] at d1 d2
    rw [x3] at d3
    generalize k * g * P = K at *
    generalize m * P = M at *
    generalize g * P = G at *
    constructor <;> omega
theorem scale_eq (m : Nat) (p b : Int) (h1 : b ≤ p) (h2 : -200 ≤ b) : (m <<< (p - b).toNat) * 2 ^ (b + 200).toNat = m * 2 ^ (p + 200).toNat := by
  rw [Nat.shiftLeft_eq, Nat.mul_assoc, ← Nat.pow_add, show (p - b).toNat + (b + 200).toNat = (p + 200).toNat by omega]
/-- How large a number is tells its first digit. -/
theorem log2_of (m : Nat) (b : Int) (hb : -200 ≤ b) (hm : m ≠ 0) (h1 : 2 ^ 140 ≤ m * 2 ^ (b + 200).toNat) (h2 : m * 2 ^ (b + 200).toNat < 2 ^ 250) : -60 ≤ b + m.log2 ∧ b + m.log2 < 50 := by
  have l1 := Nat.log2_self_le hm
  have l2 : m < 2 ^ (m.log2 + 1) := Nat.lt_log2_self
  generalize m.log2 = L at *
  have hP := pow_pos (b + 200).toNat
  constructor
  · have h3 : 2 ^ 140 < 2 ^ (L + 1 + (b + 200).toNat) := by
      rw [Nat.pow_add]
      exact Nat.lt_of_le_of_lt h1 (Nat.mul_lt_mul_of_pos_right l2 hP)
    have := (Nat.pow_lt_pow_iff_right (by omega : 1 < 2)).1 h3
    omega
  · have h3 : 2 ^ (L + (b + 200).toNat) < 2 ^ 250 := by
      rw [Nat.pow_add]
      exact Nat.lt_of_le_of_lt (Nat.mul_le_mul_right _ l1) h2
    have := (Nat.pow_lt_pow_iff_right (by omega : 1 < 2)).1 h3
    omega
theorem near_val' (m : Nat) (b : Int) (hb : -200 ≤ b) (hm : m ≠ 0) (h1 : 2 ^ 140 ≤ m * 2 ^ (b + 200).toNat) (h2 : m * 2 ^ (b + 200).toNat < 2 ^ 250) :
    ∃ v, Val (F.nearest false m b) v ∧ v * 2 ^ 53 ≤ m * 2 ^ (b + 200).toNat * (2 ^ 53 + 1) ∧ m * 2 ^ (b + 200).toNat * 2 ^ 53 ≤ v * 2 ^ 53 + m * 2 ^ (b + 200).toNat := by
  obtain ⟨g1, g2⟩ := log2_of m b hb hm h1 h2
  exact near_val m b hm (by omega) (by omega) hb
theorem add_val {x y vx vy : Nat} (hx : Val x vx) (hy : Val y vy) (h1 : 2 ^ 140 ≤ vx + vy) (h2 : vx + vy < 2 ^ 250) :
    ∃ z v, F.add x y = some z ∧ Val z v ∧ v * 2 ^ 53 ≤ (vx + vy) * (2 ^ 53 + 1) ∧ (vx + vy) * 2 ^ 53 ≤ v * 2 ^ 53 + (vx + vy) := by
  obtain ⟨m, i, rx, hi, ex⟩ := hx
  obtain ⟨n, j, ry, hj, ey⟩ := hy
  have hb : -200 ≤ min i j := by omega
  have ht : (m <<< (i - min i j).toNat + n <<< (j - min i j).toNat) * 2 ^ (min i j + 200).toNat = vx + vy := by
    rw [Nat.add_mul, scale_eq m i (min i j) (by omega) hb, scale_eq n j (min i j) (by omega) hb, ex, ey]
  have hne : m <<< (i - min i j).toNat + n <<< (j - min i j).toNat ≠ 0 := by
    intro h
    rw [h, Nat.zero_mul] at ht
    have := pow_pos 140
    omega
  have hadd : F.add x y = some (F.nearest false (m <<< (i - min i j).toNat + n <<< (j - min i j).toNat) (min i j)) := by
    unfold Format.add
    rw [rx, ry]
    simp only [Datum.sum, signed, Bool.false_eq_true, if_false, Option.map_some]
    generalize m <<< (i - min i j).toNat = A at *
    generalize n <<< (j - min i j).toNat = B at *
    have e1 : ((A : Int) + (B : Int)).natAbs = A + B := by omega
    have e2 : ¬ ((A : Int) + (B : Int) = 0) := by omega
    have e3 : ¬ ((A : Int) + (B : Int) < 0) := by omega
    rw [if_neg e2, e1]
    simp only [Format.write, decide_eq_false e3]
  obtain ⟨v, h3, h4, h5⟩ := near_val' _ _ hb hne (by rw [ht]; exact h1) (by rw [ht]; exact h2)
  rw [ht] at h4 h5
  exact ⟨_, v, hadd, h3, h4, h5⟩
theorem mul_val {x c vx C : Nat} {q : Int} (hx : Val x vx) (hc : F.read c = .number false C q) (hq : -60 ≤ q) (hq2 : q ≤ 0) (h1 : 2 ^ 140 * 2 ^ (-q).toNat ≤ vx * C) (h2 : vx * C < 2 ^ 250 * 2 ^ (-q).toNat) :
    ∃ z v, F.mul x c = some z ∧ Val z v ∧ v * 2 ^ (-q).toNat * 2 ^ 53 ≤ vx * C * (2 ^ 53 + 1) ∧ vx * C * 2 ^ 53 ≤ v * 2 ^ (-q).toNat * 2 ^ 53 + vx * C := by
  obtain ⟨m, i, rx, hi, ex⟩ := hx
  have hmul : F.mul x c = some (F.nearest false (m * C) (i + q)) := by
    unfold Format.mul
    rw [rx, hc]
    rfl
  have hb : -200 ≤ i + q := by omega
  have hP := pow_pos (-q).toNat
  have ht : (m * C) * 2 ^ (i + q + 200).toNat * 2 ^ (-q).toNat = vx * C := by
    rw [Nat.mul_assoc, ← Nat.pow_add, show (i + q + 200).toNat + (-q).toNat = (i + 200).toNat by omega, ← ex, Nat.mul_right_comm]
  generalize hT : (m * C) * 2 ^ (i + q + 200).toNat = T at *
  have hne : m * C ≠ 0 := by
    intro h
    rw [h, Nat.zero_mul] at hT
    subst hT
    rw [Nat.zero_mul] at ht
    have := pow_pos 140
    have : 0 < 2 ^ 140 * 2 ^ (-q).toNat := Nat.mul_pos (pow_pos _) hP
    omega
  have g1 : 2 ^ 140 ≤ T := by
    rw [← ht] at h1
    exact Nat.le_of_mul_le_mul_right h1 hP
  have g2 : T < 2 ^ 250 := by
    rw [← ht] at h2
    exact Nat.lt_of_mul_lt_mul_right h2
  obtain ⟨v, h3, h4, h5⟩ := near_val' (m * C) (i + q) hb hne (by rw [hT]; exact g1) (by rw [hT]; exact g2)
  rw [hT] at h4 h5
  refine ⟨_, v, hmul, h3, ?_, ?_⟩
  · rw [← ht]
    have := Nat.mul_le_mul_right (2 ^ (-q).toNat) h4
    rw [Nat.mul_right_comm v, Nat.mul_right_comm T] at this
    exact this
  · rw [← ht]
    have := Nat.mul_le_mul_right (2 ^ (-q).toNat) h5
    rw [Nat.add_mul, Nat.mul_right_comm v, Nat.mul_right_comm T] at this
    exact this
theorem order_val {x y vx vy : Nat} (hx : Val x vx) (hy : Val y vy) : (vx ≤ vy → F.order x y ≠ some .gt) ∧ (vy ≤ vx → F.order x y ≠ some .lt) := by
  obtain ⟨m, i, rx, hi, ex⟩ := hx
  obtain ⟨n, j, ry, hj, ey⟩ := hy
  have hb : -200 ≤ min i j := by omega
  have e1 := scale_eq m i (min i j) (by omega) hb
  have e2 := scale_eq n j (min i j) (by omega) hb
  rw [ex] at e1
  rw [ey] at e2
  have hP := pow_pos (min i j + 200).toNat
  have ho : F.order x y = some (compare ((m <<< (i - min i j).toNat : Nat) : Int) ((n <<< (j - min i j).toNat : Nat) : Int)) := by
    unfold Format.order
    rw [rx, ry]
    simp [Datum.order, signed]
  rw [ho]
  generalize m <<< (i - min i j).toNat = A at *
  generalize n <<< (j - min i j).toNat = B at *
  generalize 2 ^ (min i j + 200).toNat = P at *
  constructor
  · intro h hc
    have hc' : compare (A : Int) (B : Int) = .gt := by simpa using hc
    rw [Int.compare_eq_gt] at hc'
    have : (B + 1) * P ≤ A * P := Nat.mul_le_mul_right _ (by omega)
    rw [Nat.add_mul] at this
    omega
  · intro h hc
    have hc' : compare (A : Int) (B : Int) = .lt := by simpa using hc
    rw [Int.compare_eq_lt] at hc'
    have : (A + 1) * P ≤ B * P := Nat.mul_le_mul_right _ (by omega)
    rw [Nat.add_mul] at this
    omega
/-- A whole number, as a float. -/
theorem read_int (n : Nat) (h0 : n ≠ 0) (h1 : n.log2 ≤ 52) : F.read (F.nearest false n 0) = .number false (n <<< (52 - n.log2)) (-((52 - n.log2 : Nat) : Int)) ∧ 4503599627370496 ≤ n <<< (52 - n.log2) ∧ n <<< (52 - n.log2) < 9007199254740992 := by
  have hs1 := Nat.log2_self_le h0
  have hs2 : n < 2 ^ (n.log2 + 1) := Nat.lt_log2_self
  generalize n.log2 = q at *
  have hb1 : 4503599627370496 ≤ n <<< (52 - q) := by
    rw [Nat.shiftLeft_eq]
    calc 4503599627370496 = 2 ^ q * 2 ^ (52 - q) := by rw [← Nat.pow_add, show q + (52 - q) = 52 by omega]
      _ ≤ _ := Nat.mul_le_mul_right _ hs1
  have hb2 : n <<< (52 - q) < 9007199254740992 := by
    rw [Nat.shiftLeft_eq]
    calc _ < 2 ^ (q + 1) * 2 ^ (52 - q) := Nat.mul_lt_mul_of_pos_right hs2 (pow_pos _)
      _ = 9007199254740992 := by rw [← Nat.pow_add, show q + 1 + (52 - q) = 53 by omega]
  refine ⟨?_, hb1, hb2⟩
  rw [← nearest_scale _ _ (52 - q) 0, nearest_word _ _ _ hb1 hb2 (by omega) (by omega)]
  have hw : ∀ k, F.word false k = k := fun k => rfl
  rw [hw]
  have ep : (0 - ((52 - q : Nat) : Int) + 1074).toNat = 1074 - (52 - q) := by omega
  rw [ep]
  generalize n <<< (52 - q) = M at *
  unfold Format.read
  simp only [F_sign, F_binade, F_inf, F_least]
  have hr : ((1074 - (52 - q)) * 4503599627370496 + M) % 9223372036854775808 = (1074 - (52 - q)) * 4503599627370496 + M := by omega
  have hs : ((1074 - (52 - q)) * 4503599627370496 + M) / 9223372036854775808 % 2 = 0 := by omega
  rw [hr, hs, if_neg (by omega), if_pos (by omega)]
  congr 1
  · omega
  · omega
set_option maxRecDepth 100000 in
theorem quo_lin (u N T sv : Nat) (g4 : sv * 2 ^ 53 ≤ u * (2 ^ 53 + 1)) (g5 : u * 2 ^ 53 ≤ sv * 2 ^ 53 + u) (h1 : u ≤ N + T) (h2 : N ≤ u + T) (h3 : T * 18014398509481984 ≤ N) : sv * 2 ^ 51 ≤ N * (2 ^ 51 + 1) ∧ N * 2 ^ 51 ≤ sv * 2 ^ 51 + N := by
  have p53 : (2 : Nat) ^ 53 = 2 ^ 51 * 4 := by decide
  have p54 : (18014398509481984 : Nat) = 2 ^ 51 * 8 := by decide
  have hP : 0 < 2 ^ 51 := pow_pos 51
  rw [p53] at g4 g5
  rw [p54] at h3
  generalize 2 ^ 51 = P at *
  have a1 : sv * (P * 4) = 4 * (sv * P) := by rw [← Nat.mul_assoc, Nat.mul_comm]
  have a2 : u * (P * 4 + 1) = 4 * (u * P) + u := by rw [Nat.mul_add, ← Nat.mul_assoc, Nat.mul_comm (u * P), Nat.mul_one]
  have a3 : u * (P * 4) = 4 * (u * P) := by rw [← Nat.mul_assoc, Nat.mul_comm]
  have a4 : T * (P * 8) = 8 * (T * P) := by rw [← Nat.mul_assoc, Nat.mul_comm]
  have a5 : N * (P + 1) = N * P + N := by rw [Nat.mul_add, Nat.mul_one]
  have b1 := Nat.mul_le_mul_right P h1
  have b2 := Nat.mul_le_mul_right P h2
  rw [Nat.add_mul] at b1 b2
  have b3 : T ≤ T * P := Nat.le_mul_of_pos_right _ hP
  rw [a1, a2] at g4
  rw [a1, a3] at g5
  rw [a4] at h3
  rw [a5]
  generalize sv * P = A at *
  generalize u * P = B at *
  generalize N * P = C at *
  generalize T * P = D at *
  constructor <;> omega
set_option maxRecDepth 100000 in
/-- A quotient of whole numbers. -/
theorem quo_val (d n : Nat) (hd : d ≠ 0) (hn : n ≠ 0) (ld : d.log2 ≤ 26) (ln : n.log2 ≤ 16) :
    ∃ z v, F.div (F.nearest false d 0) (F.nearest false n 0) = some z ∧ Val z v ∧ v * n * 2 ^ 51 ≤ d * 2 ^ 200 * (2 ^ 51 + 1) ∧ d * 2 ^ 200 * 2 ^ 51 ≤ v * n * 2 ^ 51 + d * 2 ^ 200 := by
  obtain ⟨rd, d1, d2⟩ := read_int d hd (by omega)
  obtain ⟨rn, n1, n2⟩ := read_int n hn (by omega)
  have hld : (d <<< (52 - d.log2)).log2 = 52 := by rw [Nat.log2_eq_iff (by omega)]; exact ⟨d1, d2⟩
  have hln : (n <<< (52 - n.log2)).log2 = 52 := by rw [Nat.log2_eq_iff (by omega)]; exact ⟨n1, n2⟩
  have ed : d <<< (52 - d.log2) = d * 2 ^ (52 - d.log2) := Nat.shiftLeft_eq ..
  have en : n <<< (52 - n.log2) = n * 2 ^ (52 - n.log2) := Nat.shiftLeft_eq ..
  generalize d.log2 = a at *
  generalize n.log2 = b at *
  generalize d <<< (52 - a) = m at *
  generalize n <<< (52 - b) = t at *
  have hdiv : F.div (F.nearest false d 0) (F.nearest false n 0) = some (F.nearest false (2 * (m <<< 54 / t) + (m <<< 54 % t != 0).toNat) (-((52 - a : Nat) : Int) - -((52 - b : Nat) : Int) - (54 : Nat) - 1)) := by
    unfold Format.div
    rw [rd, rn]
    simp only [Datum.quotient, hld, hln, F_bits]
    rw [if_neg (by omega)]
    rfl
  have eD : m <<< 54 = m * 18014398509481984 := by rw [Nat.shiftLeft_eq]
  rw [eD] at hdiv
  have hdm := Nat.div_add_mod (m * 18014398509481984) t
  have hlt := Nat.mod_lt (m * 18014398509481984) (show 0 < t by omega)
  generalize hQ : m * 18014398509481984 / t = Q at *
  generalize hR : m * 18014398509481984 % t = R at *
  have hst : (R != 0).toNat = if R = 0 then 0 else 1 := by by_cases h : R = 0 <;> simp [h]
  -- the magnitude, times t, is 2 m 2^54 but for t
  have k1 : (2 * Q + (R != 0).toNat) * t ≤ m * 36028797018963968 + t := by
    rw [hst, Nat.add_mul]
    have : 2 * Q * t = 2 * (t * Q) := by rw [Nat.mul_assoc, Nat.mul_comm Q]
    split <;> omega
  have k2 : m * 36028797018963968 ≤ (2 * Q + (R != 0).toNat) * t + t := by
    rw [hst, Nat.add_mul]
    have : 2 * Q * t = 2 * (t * Q) := by rw [Nat.mul_assoc, Nat.mul_comm Q]
    split <;> omega
  generalize 2 * Q + (R != 0).toNat = mag at *
  have hts : t * 18014398509481984 ≤ m * 36028797018963968 := by
    have e : m * 36028797018963968 = (m * 2) * 18014398509481984 := by rw [Nat.mul_assoc]
    rw [e]
    exact Nat.mul_le_mul_right _ (by omega)
  have ep : (-((52 - a : Nat) : Int) - -((52 - b : Nat) : Int) - (54 : Nat) - 1 + 200).toNat = (145 - (52 - a)) + (52 - b) := by omega
  have hE : 0 < 2 ^ (145 - (52 - a)) := pow_pos _
  have hB : 0 < 2 ^ (52 - b) := pow_pos _
  have hEb : 2 ^ 93 ≤ 2 ^ (145 - (52 - a)) := Nat.pow_le_pow_right (by omega) (by omega)
  have hN : d * 2 ^ 200 = m * 36028797018963968 * 2 ^ (145 - (52 - a)) := by
    rw [ed, show (36028797018963968 : Nat) = 2 ^ 55 from rfl, Nat.mul_assoc (d * _), ← Nat.pow_add, Nat.mul_assoc d, ← Nat.pow_add, show 52 - a + (55 + (145 - (52 - a))) = 200 by omega]
  have hW : mag * 2 ^ ((145 - (52 - a)) + (52 - b)) * n = mag * t * 2 ^ (145 - (52 - a)) := by
    rw [en, Nat.pow_add]
    generalize 2 ^ (145 - (52 - a)) = E
    generalize 2 ^ (52 - b) = B
    ac_rfl
  have hBb : 2 ^ 36 ≤ 2 ^ (52 - b) := Nat.pow_le_pow_right (by omega) (by omega)
  have hEu : 2 ^ (145 - (52 - a)) ≤ 2 ^ 119 := Nat.pow_le_pow_right (by omega) (by omega)
  have hBu : 2 ^ (52 - b) ≤ 2 ^ 52 := Nat.pow_le_pow_right (by omega) (by omega)
  have hm1 : 9007199254740992 ≤ mag := by
    rcases Nat.lt_or_ge mag 9007199254740992 with h | h
    · have : mag * t ≤ 9007199254740991 * t := Nat.mul_le_mul_right _ (by omega)
      omega
    · exact h
  have hm2 : mag ≤ 144115188075855872 := by
    rcases Nat.lt_or_ge 144115188075855872 mag with h | h
    · have : 144115188075855873 * t ≤ mag * t := Nat.mul_le_mul_right _ (by omega)
      omega
    · exact h
  obtain ⟨v, h3, h4, h5⟩ := near_val' mag _ (by omega) (by omega)
    (show 2 ^ 140 ≤ mag * 2 ^ (-((52 - a : Nat) : Int) - -((52 - b : Nat) : Int) - (54 : Nat) - 1 + 200).toNat by
      rw [ep, Nat.pow_add]
      calc 2 ^ 140 ≤ 9007199254740992 * (2 ^ 93 * 2 ^ 36) := by decide
        _ ≤ mag * (2 ^ (145 - (52 - a)) * 2 ^ (52 - b)) := Nat.mul_le_mul hm1 (Nat.mul_le_mul hEb hBb))
    (by
      rw [ep, Nat.pow_add]
      calc mag * (2 ^ (145 - (52 - a)) * 2 ^ (52 - b)) ≤ 144115188075855872 * (2 ^ 119 * 2 ^ 52) := Nat.mul_le_mul hm2 (Nat.mul_le_mul hEu hBu)
        _ < 2 ^ 250 := by decide)
  refine ⟨_, v, hdiv, h3, ?_⟩
  rw [ep] at h4 h5
  rw [hN]
  have g4 := Nat.mul_le_mul_right n h4
  have g5 := Nat.mul_le_mul_right n h5
  rw [Nat.mul_right_comm v, Nat.mul_right_comm _ (2 ^ 53 + 1), hW] at g4
  rw [Nat.add_mul, Nat.mul_right_comm v, Nat.mul_right_comm _ (2 ^ 53), hW] at g5
  have hE1 : (mag * t) * 2 ^ (145 - (52 - a)) ≤ (m * 36028797018963968 + t) * 2 ^ (145 - (52 - a)) := Nat.mul_le_mul_right _ k1
  have hE2 : (m * 36028797018963968) * 2 ^ (145 - (52 - a)) ≤ (mag * t + t) * 2 ^ (145 - (52 - a)) := Nat.mul_le_mul_right _ k2
  have hE3 : (t * 18014398509481984) * 2 ^ (145 - (52 - a)) ≤ (m * 36028797018963968) * 2 ^ (145 - (52 - a)) := Nat.mul_le_mul_right _ hts
  rw [Nat.add_mul] at hE1 hE2
  rw [Nat.mul_right_comm t] at hE3
  exact quo_lin _ _ _ _ g4 g5 hE1 hE2 hE3
end Dbl
end Go.Proofs.YtnomamimpnogpaaDoor
