/- Doubles, plainly: what the format has is given back by rounding; one, zero, the other sign. -/
import Derived.Laws.FloatArith
import Derived.Laws.FloatBits
namespace Go.Proofs.YtnomamimpnogpaaDoor
namespace Dbl
open Ieee
theorem log2_shift (m k : Nat) (h : m ≠ 0) : (m <<< k).log2 = m.log2 + k := by
  rw [Nat.shiftLeft_eq]
  have hp : 0 < 2 ^ k := Nat.two_pow_pos k
  have h1 := Nat.log2_self_le h
  have h2 : m < 2 ^ (m.log2 + 1) := Nat.lt_log2_self
  have hne : m * 2 ^ k ≠ 0 := Nat.mul_ne_zero h (Nat.pos_iff_ne_zero.1 hp)
  rw [Nat.log2_eq_iff hne]
  constructor
  · rw [Nat.pow_add]; exact Nat.mul_le_mul_right _ h1
  · rw [show m.log2 + k + 1 = (m.log2 + 1) + k by omega, Nat.pow_add]; exact Nat.mul_lt_mul_of_pos_right h2 hp
theorem cut_scale (neg : Bool) (n d k : Nat) (h : n ≠ 0) : Toward.even.cut neg (n <<< k) (d + k) = Toward.even.cut neg n d := by
  unfold Toward.cut
  have hm : min (d + k) ((n <<< k).log2 + 2) = min d (n.log2 + 2) + k := by rw [log2_shift n k h]; omega
  simp only [hm]
  generalize min d (n.log2 + 2) = g
  have hp : 0 < 2 ^ k := Nat.two_pow_pos k
  have e1 : (1 <<< (g + k) : Nat) = 1 <<< g * 2 ^ k := by simp [Nat.shiftLeft_eq, Nat.pow_add]
  have e2 : n <<< k = n * 2 ^ k := Nat.shiftLeft_eq ..
  rw [e1, e2, Nat.mul_div_mul_right _ _ hp, Nat.mul_mod_mul_right]
  have e3 : 2 * (n % 1 <<< g * 2 ^ k) = (2 * (n % 1 <<< g)) * 2 ^ k := by rw [Nat.mul_assoc]
  have e4 : decide (1 <<< g * 2 ^ k < (2 * (n % 1 <<< g)) * 2 ^ k) = decide (1 <<< g < 2 * (n % 1 <<< g)) := by
    rw [decide_eq_decide]; exact Nat.mul_lt_mul_right hp
  have e5 : (1 <<< g * 2 ^ k == (2 * (n % 1 <<< g)) * 2 ^ k) = (1 <<< g == 2 * (n % 1 <<< g)) := by
    rw [Bool.eq_iff_iff, beq_iff_eq, beq_iff_eq]; exact Nat.mul_right_cancel_iff hp
  rw [e3, e4, e5]
theorem cut_zero (neg : Bool) (n : Nat) : Toward.even.cut neg n 0 = n := by
  unfold Toward.cut
  have hm : min 0 (n.log2 + 2) = 0 := by omega
  simp only [hm]
  simp [Nat.mod_one]
theorem cut_le (neg : Bool) (n d : Nat) : Toward.even.cut neg n d ≤ n / (1 <<< min d (n.log2 + 2)) + 1 := by
  unfold Toward.cut
  exact Nat.add_le_add_left (Bool.toNat_le _) _
abbrev F := Ieee.double
theorem F_least : F.leastPlace = -1074 := by decide +kernel
theorem F_binade : F.binade = 4503599627370496 := by decide +kernel
theorem F_inf : F.infRung = 9218868437227405312 := by decide +kernel
theorem F_sign : F.signWeight = 9223372036854775808 := by decide +kernel
theorem F_bits : F.fractionBits = 52 := rfl
/-- Only the number counts, not how it is spelled. -/
theorem nearest_scale (neg : Bool) (m k : Nat) (p : Int) : F.nearest neg (m <<< k) (p - k) = F.nearest neg m p := by
  by_cases h : m = 0
  · subst h; simp [Format.nearest]
  · have hk : m <<< k ≠ 0 := by rw [Nat.shiftLeft_eq]; exact Nat.mul_ne_zero h (Nat.pos_iff_ne_zero.1 (Nat.two_pow_pos k))
    unfold Format.nearest
    rw [if_neg h, if_neg hk]
    have hl : p - (k : Int) + ((m <<< k).log2 : Int) - (F.fractionBits : Int) = p + (m.log2 : Int) - (F.fractionBits : Int) := by rw [log2_shift m k h]; omega
    simp only [hl]
    generalize max (p + (m.log2 : Int) - (F.fractionBits : Int)) F.leastPlace = last
    have hc : Toward.even.cut neg (m <<< k <<< (p - (k : Int) - last).toNat) (last - (p - (k : Int))).toNat = Toward.even.cut neg (m <<< (p - last).toNat) (last - p).toNat := by
      by_cases h1 : last ≤ p - k
      · have a1 : (last - (p - (k : Int))).toNat = 0 := by omega
        have a2 : (last - p).toNat = 0 := by omega
        have a3 : (p - last).toNat = k + (p - (k : Int) - last).toNat := by omega
        rw [a1, a2, a3, ← Nat.shiftLeft_add]
      · by_cases h2 : last ≤ p
        · have a1 : (p - (k : Int) - last).toNat = 0 := by omega
          have a2 : (last - p).toNat = 0 := by omega
          have a3 : k = (p - last).toNat + (last - (p - (k : Int))).toNat := by omega
          have hne : m <<< (p - last).toNat ≠ 0 := by rw [Nat.shiftLeft_eq]; exact Nat.mul_ne_zero h (Nat.pos_iff_ne_zero.1 (Nat.two_pow_pos _))
          have e := cut_scale neg (m <<< (p - last).toNat) 0 (last - (p - (k : Int))).toNat hne
          rw [← Nat.shiftLeft_add, ← a3, Nat.zero_add] at e
          rw [a1, a2]
          exact e
        · have a1 : (p - (k : Int) - last).toNat = 0 := by omega
          have a2 : (p - last).toNat = 0 := by omega
          have a3 : (last - (p - (k : Int))).toNat = (last - p).toNat + k := by omega
          rw [a1, a2, a3]
          exact cut_scale neg m _ k h
    rw [hc]
/-- A number that the format has, with a whole significand. -/
theorem nearest_word (neg : Bool) (m : Nat) (p : Int) (h1 : 4503599627370496 ≤ m) (h2 : m < 9007199254740992) (h3 : -1074 ≤ p) (h4 : p ≤ 971) :
    F.nearest neg m p = F.word neg ((p + 1074).toNat * 4503599627370496 + m) := by
  have hne : m ≠ 0 := by omega
  have hl : m.log2 = 52 := by rw [Nat.log2_eq_iff hne]; exact ⟨h1, h2⟩
  have hlast : max (p + (m.log2 : Int) - (F.fractionBits : Int)) F.leastPlace = p := by rw [hl, F_least, F_bits]; omega
  unfold Format.nearest
  rw [if_neg hne]
  simp only [hlast]
  have a1 : (p - p).toNat = 0 := by omega
  rw [a1, Nat.shiftLeft_zero, cut_zero, F_least, F_binade, F_inf]
  have a2 : (p - -1074).toNat = (p + 1074).toNat := by omega
  rw [a2, Nat.min_eq_left]
  have : (p + 1074).toNat ≤ 2045 := by omega
  omega
theorem nearest_small (neg : Bool) (m : Nat) (h : m < 4503599627370496) : F.nearest neg m (-1074) = F.word neg m := by
  by_cases h0 : m = 0
  · subst h0; rfl
  · have hl : m.log2 < 52 := by rw [Nat.log2_lt h0]; exact h
    have hlast : max ((-1074 : Int) + (m.log2 : Int) - (F.fractionBits : Int)) F.leastPlace = -1074 := by rw [F_least, F_bits]; omega
    unfold Format.nearest
    rw [if_neg h0]
    simp only [hlast]
    have a1 : ((-1074 : Int) - -1074).toNat = 0 := by omega
    rw [a1, Nat.shiftLeft_zero, cut_zero, F_least, F_binade, F_inf, a1, Nat.min_eq_left (by omega)]
    simp
/-- The word of a finite number. -/
def Fin (x : Nat) : Prop := x < 18446744073709551616 ∧ x % 9223372036854775808 < 9218868437227405312
/-- Of a finite word: its sign, its magnitude, its place; and rounding them gives it back. -/
theorem Fin.read {x : Nat} (h : Fin x) : ∃ (s : Bool) (m : Nat) (p : Int), F.read x = .number s m p ∧ -1074 ≤ p ∧ (m = 0 ↔ x % 9223372036854775808 = 0) ∧ F.nearest s m p = x ∧ s = (x / 9223372036854775808 % 2 == 1) ∧ m < 9007199254740992 := by
  obtain ⟨h1, h2⟩ := h
  have hx : F.word (x / 9223372036854775808 % 2 == 1) (x % 9223372036854775808) = x := by
    unfold Format.word
    rw [F_sign]
    have : x / 9223372036854775808 < 2 := by omega
    split
    · rename_i e; simp at e; omega
    · rename_i e; simp at e; omega
  unfold Format.read
  simp only [F_sign, F_binade, F_inf, F_least]
  by_cases hb : x % 9223372036854775808 < 4503599627370496
  · refine ⟨_, x % 9223372036854775808, -1074, by rw [if_pos hb], by omega, Iff.rfl, ?_, rfl, by omega⟩
    rw [nearest_small _ _ hb, hx]
  · refine ⟨_, 4503599627370496 + x % 9223372036854775808 % 4503599627370496, -1074 + ((x % 9223372036854775808 / 4503599627370496 - 1 : Nat) : Int), by rw [if_neg hb, if_pos h2], by omega, by omega, ?_, rfl, by omega⟩
    rw [nearest_word _ _ _ (by omega) (by omega) (by omega) (by omega)]
    have : (-1074 + ((x % 9223372036854775808 / 4503599627370496 - 1 : Nat) : Int) + 1074).toNat * 4503599627370496 + (4503599627370496 + x % 9223372036854775808 % 4503599627370496) = x % 9223372036854775808 := by omega
    rw [this, hx]
/-- The other sign. -/
def neg (x : Nat) : Nat := Op.negFloat .f64 x
theorem neg_eq (x : Nat) (h : x < 18446744073709551616) : neg x = if x < 9223372036854775808 then x + 9223372036854775808 else x - 9223372036854775808 := by
  unfold neg Op.negFloat
  show x ^^^ 2 ^ 63 = _
  by_cases hx : x < 2 ^ 63
  · rw [if_pos hx, Nat.xor_comm]
    have e : 2 ^ 63 ^^^ x = 2 ^ 63 + x := by
      have := Nat.two_pow_add_eq_or_of_lt hx 1
      rw [Nat.mul_one] at this
      rw [this]
      apply Nat.eq_of_testBit_eq
      intro i
      rw [Nat.testBit_xor, Nat.testBit_or, Nat.testBit_two_pow]
      by_cases hi : 63 = i
      · subst hi
        rw [Nat.testBit_lt_two_pow hx]
        simp
      · simp [hi]
    rw [e]; omega
  · have hx' : x = 2 ^ 63 + (x - 2 ^ 63) := by omega
    have hr : x - 2 ^ 63 < 2 ^ 63 := by omega
    rw [if_neg hx]
    have e : 2 ^ 63 ^^^ (x - 2 ^ 63) = x := by
      have := Nat.two_pow_add_eq_or_of_lt hr 1
      rw [Nat.mul_one] at this
      conv => rhs; rw [hx', this]
      apply Nat.eq_of_testBit_eq
      intro i
      rw [Nat.testBit_xor, Nat.testBit_or, Nat.testBit_two_pow]
      by_cases hi : 63 = i
      · subst hi
        rw [Nat.testBit_lt_two_pow hr]
        simp
      · simp [hi]
    have e2 : x ^^^ 2 ^ 63 = x - 2 ^ 63 := by
      conv => lhs; rw [← e, Nat.xor_comm, ← Nat.xor_assoc, Nat.xor_self, Nat.zero_xor]
    rw [e2]
theorem neg_neg (x : Nat) : neg (neg x) = x := by
  unfold neg Op.negFloat
  rw [Nat.xor_assoc, Nat.xor_self, Nat.xor_zero]
theorem Fin.neg {x : Nat} (h : Fin x) : Fin (neg x) := by
  have e := neg_eq x h.1
  obtain ⟨h1, h2⟩ := h
  unfold Fin
  rw [e]
  split <;> constructor <;> omega
theorem neg_rung (x : Nat) (h : x < 18446744073709551616) : neg x % 9223372036854775808 = x % 9223372036854775808 := by
  rw [neg_eq x h]; split <;> omega
theorem read_neg (x : Nat) (h : x < 18446744073709551616) : F.read (neg x) = (F.read x).opposite := by
  have e := neg_rung x h
  have e2 : (neg x / 9223372036854775808 % 2 == 1) = !(x / 9223372036854775808 % 2 == 1) := by
    rw [neg_eq x h]
    have : x / 9223372036854775808 < 2 := by omega
    split
    · have a : x / 9223372036854775808 = 0 := by omega
      have b : (x + 9223372036854775808) / 9223372036854775808 = 1 := by omega
      rw [a, b]; rfl
    · have a : x / 9223372036854775808 = 1 := by omega
      have b : (x - 9223372036854775808) / 9223372036854775808 = 0 := by omega
      rw [a, b]; rfl
  unfold Format.read
  simp only [F_sign, e, e2]
  split
  · rfl
  · split
    · rfl
    · split <;> rfl
theorem nearest_not (s : Bool) (m : Nat) (p : Int) : F.nearest (!s) m p = neg (F.nearest s m p) := by
  have hw : ∀ r, r < 9223372036854775808 → F.word (!s) r = neg (F.word s r) := by
    intro r hr
    unfold Format.word
    rw [F_sign]
    cases s with
    | false => simp; rw [neg_eq r (by omega), if_pos hr]; omega
    | true => simp; rw [neg_eq _ (by omega), if_neg (by omega)]; omega
  unfold Format.nearest
  split
  · exact hw 0 (by omega)
  · dsimp only
    have hc : ∀ n d, Toward.even.cut (!s) n d = Toward.even.cut s n d := fun n d => rfl
    rw [hc]
    exact hw _ (Nat.lt_of_le_of_lt (Nat.min_le_right ..) (by rw [F_inf]; omega))
theorem write_opposite {x : Nat} (h : Fin x) : F.write (F.read x).opposite = neg x := by
  obtain ⟨s, m, p, e, _, _, hn, _, _⟩ := h.read
  rw [e]
  show F.nearest (!s) m p = _
  rw [nearest_not, hn]

theorem add_comm (x y : Nat) : F.add x y = F.add y x := by
  unfold Format.add
  congr 1
  cases F.read x <;> cases F.read y <;> simp [Datum.sum, Int.min_comm, Int.add_comm, Bool.and_comm]
  rename_i s t
  by_cases h : s = t
  · simp [h]
  · have h' : ¬ t = s := fun e => h e.symm
    simp [h, h']
theorem mul_neg_neg (x y : Nat) (hx : x < 18446744073709551616) (hy : y < 18446744073709551616) : F.mul (neg x) (neg y) = F.mul x y := by
  unfold Format.mul
  rw [read_neg x hx, read_neg y hy]
  cases F.read x <;> cases F.read y <;> simp [Datum.product, Datum.opposite]
theorem mul_comm (x y : Nat) : F.mul x y = F.mul y x := by
  unfold Format.mul
  congr 1
  cases F.read x <;> cases F.read y <;> simp [Datum.product, Bool.xor_comm, Nat.mul_comm, Int.add_comm]

/-- 1 and its opposite; the zeros. -/
abbrev one : Nat := 4607182418800017408
abbrev zero : Nat := 0
theorem read_one : F.read one = .number false 4503599627370496 (-52) := by decide +kernel
theorem read_zero : F.read 0 = .number false 0 (-1074) := by decide +kernel
theorem read_mzero : F.read 9223372036854775808 = .number true 0 (-1074) := by decide +kernel
theorem one_fin : Fin one := ⟨by decide, by decide⟩
theorem zero_fin : Fin 0 := ⟨by decide, by decide⟩
theorem mul_one {x : Nat} (h : Fin x) : F.mul x one = some x := by
  obtain ⟨s, m, p, e, _, _, hn, _, _⟩ := h.read
  unfold Format.mul
  rw [e, read_one]
  show some (F.nearest (s ^^ false) (m * 4503599627370496) (p + -52)) = some x
  have hs : m * 4503599627370496 = m <<< 52 := by rw [Nat.shiftLeft_eq]
  have hp : p + -52 = p - ((52 : Nat) : Int) := by omega
  rw [Bool.xor_false, hs, hp, nearest_scale, hn]
theorem mul_negone {x : Nat} (h : Fin x) : F.mul x (neg one) = some (neg x) := by
  have := mul_one h.neg
  rw [← mul_neg_neg x (neg one) h.1 one_fin.neg.1, neg_neg]
  exact this
/-- A zero of a sign. -/
def zeroOf (s : Bool) : Nat := if s then 9223372036854775808 else 0
theorem read_zeroOf (s : Bool) : F.read (zeroOf s) = .number s 0 (-1074) := by
  cases s
  · exact read_zero
  · exact read_mzero
theorem mul_zero {x : Nat} (h : Fin x) (t : Bool) : ∃ s, F.mul x (zeroOf t) = some (zeroOf s) := by
  obtain ⟨s, m, p, e, _, _, hn, _, _⟩ := h.read
  unfold Format.mul
  rw [e, read_zeroOf]
  refine ⟨s ^^ t, ?_⟩
  show some (F.nearest (s ^^ t) (m * 0) (p + -1074)) = _
  unfold Format.nearest
  rw [if_pos (by omega)]
  cases (s ^^ t) <;> rfl
theorem signed_ne (s : Bool) (m k : Nat) (h : m ≠ 0) : signed s m k ≠ 0 ∧ (decide (signed s m k < 0)) = s ∧ (signed s m k).natAbs = m <<< k := by
  have hk : 0 < m <<< k := by rw [Nat.shiftLeft_eq]; exact Nat.mul_pos (by omega) (Nat.two_pow_pos k)
  unfold signed
  generalize m <<< k = z at *
  cases s <;> simp <;> omega
theorem sum_zero {x : Nat} (h : Fin x) (h0 : x % 9223372036854775808 ≠ 0) (t : Bool) : ((F.read x).sum (.number t 0 (-1074))).map F.write = some x := by
  obtain ⟨s, m, p, e, hp, hm, hn, _, _⟩ := h.read
  have hm0 : m ≠ 0 := fun hh => h0 (hm.1 hh)
  rw [e]
  have hb : min p (-1074) = -1074 := by omega
  have ht : ∀ k, signed t 0 k = 0 := by intro k; cases t <;> simp [signed]
  simp only [Datum.sum, hb, ht, Int.add_zero, Option.map_some]
  obtain ⟨a, b, c⟩ := signed_ne s m (p - -1074).toNat hm0
  rw [if_neg a, c]
  have hd : decide (signed s m (p - -1074).toNat < 0) = s := b
  show some (F.nearest _ _ _) = _
  rw [hd]
  have hp' : (-1074 : Int) = p - ((p - -1074).toNat : Int) := by omega
  conv => lhs; rw [show F.nearest s (m <<< (p - -1074).toNat) (-1074) = F.nearest s (m <<< (p - -1074).toNat) (p - ((p - -1074).toNat : Int)) from congrArg _ hp']
  rw [nearest_scale, hn]
theorem add_zero {x : Nat} (h : Fin x) (h0 : x % 9223372036854775808 ≠ 0) (t : Bool) : F.add x (zeroOf t) = some x := by
  unfold Format.add
  rw [read_zeroOf]
  exact sum_zero h h0 t
theorem zero_add {x : Nat} (h : Fin x) (h0 : x % 9223372036854775808 ≠ 0) (t : Bool) : F.add (zeroOf t) x = some x := by
  rw [add_comm]; exact add_zero h h0 t
theorem sub_zero {x : Nat} (h : Fin x) (h0 : x % 9223372036854775808 ≠ 0) (t : Bool) : F.sub x (zeroOf t) = some x := by
  unfold Format.sub
  rw [read_zeroOf]
  exact sum_zero h h0 (!t)
theorem sub_as_add (x y : Nat) (hy : y < 18446744073709551616) : F.sub x y = F.add x (neg y) := by
  unfold Format.sub Format.add
  rw [read_neg y hy]
theorem zero_sub {x : Nat} (h : Fin x) (h0 : x % 9223372036854775808 ≠ 0) (t : Bool) : F.sub (zeroOf t) x = some (neg x) := by
  rw [sub_as_add _ _ h.1]
  exact zero_add h.neg (by rw [neg_rung x h.1]; exact h0) t
theorem order_self {x : Nat} (h : Fin x) : F.order x x = some .eq := by
  obtain ⟨s, m, p, e, _⟩ := h.read
  unfold Format.order
  rw [e]
  simp [Datum.order]
/-- 8, and an eighth of an int32. -/
theorem read_eight : F.read 4620693217682128896 = .number false 4503599627370496 (-49) := by decide +kernel
theorem div_eight {x : Nat} (h : Fin x) : F.div x 4620693217682128896 = match F.read x with | .number s m p => some (F.nearest s m (p - 3)) | _ => none := by
  obtain ⟨s, m, p, e, hp, _, hn, _, hm⟩ := h.read
  unfold Format.div
  rw [e, read_eight]
  have hl : m.log2 < 53 := by
    by_cases h0 : m = 0
    · subst h0; decide
    · rw [Nat.log2_lt h0]; exact hm
  have hl2 : (4503599627370496 : Nat).log2 = 52 := by decide +kernel
  simp only [Datum.quotient, hl2, F_bits]
  rw [if_neg (by decide)]
  simp only [Option.map_some]
  show some (F.nearest _ _ _) = some _
  generalize hmo : 52 + 2 + 52 - m.log2 = more
  have hmore : 52 ≤ more := by omega
  have e1 : m <<< more = (m <<< (more - 52)) * 4503599627370496 := by
    rw [Nat.shiftLeft_eq, Nat.shiftLeft_eq, Nat.mul_assoc, ← Nat.pow_add (a := 2) (n := 52)]
    congr 2; omega
  have e2 : m <<< more / 4503599627370496 = m <<< (more - 52) := by rw [e1]; exact Nat.mul_div_cancel _ (by decide)
  have e3 : m <<< more % 4503599627370496 = 0 := by rw [e1]; exact Nat.mul_mod_left ..
  rw [e2, e3]
  have e4 : 2 * m <<< (more - 52) + (((0 : Nat) != 0).toNat) = m <<< (more - 51) := by
    rw [show more - 51 = (more - 52) + 1 by omega, Nat.shiftLeft_eq, Nat.shiftLeft_eq, Nat.pow_succ]
    simp
    rw [Nat.mul_comm 2, Nat.mul_assoc]
  rw [e4]
  have e5 : p - -49 - (more : Int) - 1 = (p - 3) - ((more - 51 : Nat) : Int) := by omega
  rw [e5, nearest_scale, Bool.xor_false]
theorem eighth (n : Int) (h1 : -2147483648 ≤ n) (h2 : n ≤ 2147483647) : ∃ b, floatBits .quo .f64 (floatOfInt .f64 n) 4620693217682128896 = some b ∧ Fin b ∧ (n ≠ 0 → b % 9223372036854775808 ≠ 0) := by
  by_cases h0 : n = 0
  · subst h0
    exact ⟨0, by decide +kernel, zero_fin, fun h => absurd rfl h⟩
  · have hm0 : n.natAbs ≠ 0 := by omega
    have hl : n.natAbs.log2 < 32 := by rw [Nat.log2_lt hm0]; show _ < 4294967296; omega
    have hs1 := Nat.log2_self_le hm0
    have hs2 : n.natAbs < 2 ^ (n.natAbs.log2 + 1) := Nat.lt_log2_self
    generalize hq : n.natAbs.log2 = q at *
    have hb1 : 4503599627370496 ≤ n.natAbs <<< (52 - q) := by
      rw [Nat.shiftLeft_eq]
      calc 4503599627370496 = 2 ^ q * 2 ^ (52 - q) := by rw [← Nat.pow_add, show q + (52 - q) = 52 by omega]
        _ ≤ _ := Nat.mul_le_mul_right _ hs1
    have hb2 : n.natAbs <<< (52 - q) < 9007199254740992 := by
      rw [Nat.shiftLeft_eq]
      calc _ < 2 ^ (q + 1) * 2 ^ (52 - q) := Nat.mul_lt_mul_of_pos_right hs2 (Nat.two_pow_pos _)
        _ = 9007199254740992 := by rw [← Nat.pow_add, show q + 1 + (52 - q) = 53 by omega]
    have ef : floatOfInt .f64 n = F.word (decide (n < 0)) ((1074 - (52 - q)) * 4503599627370496 + n.natAbs <<< (52 - q)) := by
      show F.nearest (decide (n < 0)) n.natAbs 0 = _
      rw [← nearest_scale _ _ (52 - q) 0, nearest_word _ _ _ hb1 hb2 (by omega) (by omega)]
      congr 3; omega
    have hfin : ∀ (s : Bool) (k m : Nat), 1 ≤ k → k ≤ 1100 → 4503599627370496 ≤ m → m < 9007199254740992 → Fin (F.word s (k * 4503599627370496 + m)) ∧ (F.word s (k * 4503599627370496 + m)) % 9223372036854775808 ≠ 0 := by
      intro s k m hk1 hk2 hm1 hm2
      unfold Format.word Fin
      rw [F_sign]
      cases s
      · simp; omega
      · simp; omega
    obtain ⟨hf, _⟩ := hfin (decide (n < 0)) (1074 - (52 - q)) _ (by omega) (by omega) hb1 hb2
    have hd := div_eight hf
    obtain ⟨s, m, p, e, hp, hmz, hn, hs, hm⟩ := hf.read
    -- what it reads as
    have er : F.read (F.word (decide (n < 0)) ((1074 - (52 - q)) * 4503599627370496 + n.natAbs <<< (52 - q))) = .number (decide (n < 0)) (n.natAbs <<< (52 - q)) (-((52 - q : Nat) : Int)) := by
      have hrung : ∀ s : Bool, F.word s ((1074 - (52 - q)) * 4503599627370496 + n.natAbs <<< (52 - q)) % 9223372036854775808 = (1074 - (52 - q)) * 4503599627370496 + n.natAbs <<< (52 - q) := by
        intro s
        unfold Format.word
        rw [F_sign]
        cases s
        · simp; omega
        · simp; omega
      have hsgn : ∀ s : Bool, (F.word s ((1074 - (52 - q)) * 4503599627370496 + n.natAbs <<< (52 - q)) / 9223372036854775808 % 2 == 1) = s := by
        intro s
        unfold Format.word
        rw [F_sign]
        cases s
        · simp; omega
        · simp; omega
      unfold Format.read
      simp only [F_sign, F_binade, F_inf, F_least, hrung, hsgn]
      rw [if_neg (by omega), if_pos (by omega)]
      congr 1
      · omega
      · omega
    rw [er] at hd
    refine ⟨F.nearest (decide (n < 0)) (n.natAbs <<< (52 - q)) (-((52 - q : Nat) : Int) - 3), ?_, ?_⟩
    · show F.div _ _ = _
      rw [ef]
      exact hd
    · rw [nearest_word _ _ _ hb1 hb2 (by omega) (by omega)]
      obtain ⟨a, b⟩ := hfin (decide (n < 0)) ((-((52 - q : Nat) : Int) - 3 + 1074).toNat) _ (by omega) (by omega) hb1 hb2
      exact ⟨a, fun _ => b⟩
end Dbl
end Go.Proofs.YtnomamimpnogpaaDoor
