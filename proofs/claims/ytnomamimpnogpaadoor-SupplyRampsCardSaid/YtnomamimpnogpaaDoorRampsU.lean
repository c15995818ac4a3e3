/- The ramps of a way: what the sums come to. -/
import Derived.Test.YtnomamimpnogpaaDoorRampsV
namespace Go.Proofs.YtnomamimpnogpaaDoor
open Go.RowKit
namespace Dbl
open Ieee
theorem read0 : F.read 0 = .number false 0 (-1074) := by decide +kernel
theorem okS_small {s m : Nat} {p : Int} (h : F.read s = .number false m p) (hm : 0 < m) (hm2 : m < 9007199254740992) (hp : p ≤ 0) : okS s := by
  have e0 : F.order s 0 = some (compare ((m <<< (p - min p (-1074)).toNat : Nat) : Int) ((0 <<< ((-1074 : Int) - min p (-1074)).toNat : Nat) : Int)) := by
    unfold Format.order
    rw [h, read0]
    simp [Datum.order, signed]
  have e1 : F.order s maxF = some (compare ((m <<< (p - min p 971).toNat : Nat) : Int) ((9007199254740991 <<< ((971 : Int) - min p 971).toNat : Nat) : Int)) := by
    unfold Format.order
    rw [h, show F.read maxF = _ from maxF_num]
    simp [Datum.order, signed]
  refine ⟨?_, .inl ?_⟩
  · refine e0.trans (congrArg some ?_)
    rw [Int.compare_eq_gt, Nat.zero_shiftLeft, Nat.shiftLeft_eq]
    have := Nat.mul_pos hm (pow_pos (p - min p (-1074)).toNat)
    omega
  · refine e1.trans (congrArg some ?_)
    rw [Int.compare_eq_lt]
    have a1 : (p - min p 971).toNat = 0 := by omega
    have a2 : ((971 : Int) - min p 971).toNat ≠ 0 := by omega
    rw [a1, Nat.shiftLeft_zero, Nat.shiftLeft_eq]
    have a3 : 2 ≤ 2 ^ ((971 : Int) - min p 971).toNat := Nat.one_lt_two_pow a2
    have a4 : 9007199254740991 * 2 ≤ 9007199254740991 * 2 ^ ((971 : Int) - min p 971).toNat := Nat.mul_le_mul_left _ a3
    omega
theorem read_n (n : Nat) (h0 : 0 < n) (h1 : n ≤ 65536) : ∃ (m : Nat) (p : Int), F.read (F.nearest false n 0) = .number false m p ∧ 0 < m ∧ m < 9007199254740992 ∧ p ≤ 0 := by
  have hl : n.log2 ≤ 52 := by
    have : n.log2 < 17 := by rw [Nat.log2_lt (by omega)]; omega
    omega
  obtain ⟨r, r1, r2⟩ := read_int n (by omega) hl
  exact ⟨_, _, r, by omega, r2, by omega⟩
theorem okS_n (n : Nat) (h0 : 0 < n) (h1 : n ≤ 65536) : okS (F.nearest false n 0) := by
  obtain ⟨m, p, h, a, b, c⟩ := read_n n h0 h1
  exact okS_small h a b c
theorem fint (k : Nat) : floatOfInt .f64 (k : Int) = F.nearest false k 0 := by
  show F.nearest (decide ((k : Int) < 0)) (k : Int).natAbs 0 = _
  rw [decide_eq_false (by omega), Int.natAbs_natCast]
theorem slew_add (k : Nat) (hk : k ≤ 65535) : floatBits .add .f64 (floatOfInt .f64 (k : Int)) 4607182418800017408 = some (F.nearest false (k + 1) 0) := by
  rw [fint]
  exact add_one k hk
theorem order_num {x : Nat} {b : Bool} {m : Nat} {p : Int} (h : F.read x = .number b m p) : F.order x x = some .eq := by
  unfold Format.order
  rw [h]
  simp [Datum.order]
theorem div0 {s m : Nat} {p : Int} (h : F.read s = .number false m p) (hm : m ≠ 0) : F.div 0 s = some 0 := by
  unfold Format.div
  rw [read0, h]
  simp only [Datum.quotient, hm, if_false, Option.map_some]
  have z : ∀ e : Int, F.write (.number false 0 e) = 0 := by
    intro e
    simp [Format.write, Format.nearest, Toward.cut, Format.word]
  simp [z]
/-- 0 and a sum's first part. -/
theorem add0 {z zv : Nat} (hz : Val z zv) (lo : 2 ^ 140 ≤ zv) (hi : zv < 2 ^ 250) : ∃ S v, F.add 0 z = some S ∧ Val S v ∧ v * 2 ^ 53 ≤ zv * (2 ^ 53 + 1) ∧ zv * 2 ^ 53 ≤ v * 2 ^ 53 + zv := by
  obtain ⟨m, p, r, hp, e⟩ := hz
  have hm : m ≠ 0 := by
    intro h0
    rw [h0, Nat.zero_mul] at e
    have := pow_pos 140
    omega
  rw [← e] at lo hi ⊢
  obtain ⟨v, h1, h2, h3⟩ := near_val' m p (by omega) hm lo hi
  refine ⟨F.nearest false m p, v, ?_, h1, h2, h3⟩
  have hb : min (-1074) p = -1074 := by omega
  have e1 : ((-1074 : Int) - -1074).toNat = 0 := by decide
  have e2 : (p - -1074).toNat = (p + 1074).toNat := by omega
  unfold Format.add
  rw [read0, r]
  simp only [Datum.sum, signed, Bool.false_eq_true, if_false, Option.map_some, hb, e1, e2, Nat.zero_shiftLeft]
  have e5 : ((0 : Nat) : Int) + ((m <<< (p + 1074).toNat : Nat) : Int) = ((m <<< (p + 1074).toNat : Nat) : Int) := by omega
  rw [e5]
  have e8 : 0 < m <<< (p + 1074).toNat := by rw [Nat.shiftLeft_eq]; exact Nat.mul_pos (by omega) (pow_pos _)
  have e6 : ¬ ((m <<< (p + 1074).toNat : Nat) : Int) = 0 := by omega
  have e7 : ¬ ((m <<< (p + 1074).toNat : Nat) : Int) < 0 := by omega
  rw [if_neg e6]
  simp only [Format.write, decide_eq_false e7, Int.natAbs_natCast]
  have := nearest_scale false m (p + 1074).toNat p
  rw [show p - ((p + 1074).toNat : Int) = -1074 by omega] at this
  exact congrArg some this
theorem near_bd {zv n d : Nat} (h2 : Near zv n d 2) (hn : 0 < n) (hn2 : n ≤ 65536) (hd : 0 < d) (hd2 : d ≤ 67108864) : 2 ^ 140 ≤ zv ∧ zv < 2 ^ 250 := by
  obtain ⟨b3, b4⟩ := near_two h2 (by omega)
  constructor
  · rcases Nat.lt_or_ge zv (2 ^ 140) with h | h
    · have g1 : zv * n ≤ 2 ^ 140 * 65536 := Nat.mul_le_mul (Nat.le_of_lt h) hn2
      have g2 : 1 * 2 ^ 200 ≤ d * 2 ^ 200 := Nat.mul_le_mul_right _ hd
      have g3 : (2 : Nat) * (2 ^ 140 * 65536) < 1 * 2 ^ 200 := by decide
      omega
    · exact h
  · have g1 : zv ≤ zv * n := Nat.le_mul_of_pos_right _ hn
    have g3 : d * 2 ^ 200 ≤ 67108864 * 2 ^ 200 := Nat.mul_le_mul_right _ hd2
    have g4 : (2 : Nat) * (67108864 * 2 ^ 200) < 2 ^ 250 := by decide
    omega
theorem near_first {z zv n d : Nat} (hz : Val z zv) (h2 : Near zv n d 2) (hn : 0 < n) (hn2 : n ≤ 65536) (hd : 0 < d) (hd2 : d ≤ 67108864) :
    ∃ S' v', F.add 0 z = some S' ∧ Val S' v' ∧ Near v' n d 6 := by
  obtain ⟨lo, hi⟩ := near_bd h2 hn hn2 hd hd2
  obtain ⟨S', v', h3, h4, h5, h6⟩ := add0 hz lo hi
  refine ⟨S', v', h3, h4, ?_⟩
  obtain ⟨q1, q2⟩ := h2
  have r1 := Nat.mul_le_mul_right n h5
  have r2 := Nat.mul_le_mul_right n h6
  have e53 : (2 : Nat) ^ 53 = 2 ^ 52 * 2 := by decide
  rw [e53] at r1 r2
  have hW : 100 ≤ 2 ^ 52 := by decide
  unfold Near
  generalize 2 ^ 52 = W at *
  have x1 : v' * (W * 2) * n = (v' * n) * (W * 2) := by ac_rfl
  have x2 : zv * (W * 2 + 1) * n = (0 + zv * n) * (W * 2 + 1) := by rw [Nat.zero_add, Nat.mul_right_comm]
  have x3 : zv * (W * 2) * n = (0 + zv * n) * (W * 2) := by rw [Nat.zero_add, Nat.mul_right_comm]
  have x4 : (v' * (W * 2) + zv) * n = (v' * n) * (W * 2) + (0 + zv * n) := by rw [Nat.add_mul, x1, Nat.zero_add]
  rw [x1, x2] at r1
  rw [x3, x4] at r2
  have := near_lin 0 (zv * n) (v' * n) 0 (d * 2 ^ 200) 2 W hW (by omega) (by omega) (by omega) (by omega) q1 q2 r1 r2
  rw [Nat.zero_add] at this
  exact this
end Dbl
/-! Distances. -/
def dN (a b : Nat) : Nat := (dist (nth supplyL a) (nth supplyL b)).toNat
theorem dist_nat (a b : Nat) : dist (nth supplyL a) (nth supplyL b) = (dN a b : Int) := by
  unfold dN dist
  split <;> omega
theorem dN_comm (a b : Nat) : dN a b = dN b a := by
  unfold dN dist
  split <;> split <;> omega
theorem dN_self (a : Nat) : dN a a = 0 := by
  unfold dN dist
  split <;> omega
theorem dN_bd : ∀ a b, a < 24 → b < 24 → dN a b ≤ 67108864 ∧ (a ≠ b → 0 < dN a b) := by
  have h : ∀ a, a < 24 → ∀ b, b < 24 → dN a b ≤ 67108864 ∧ (a ≠ b → 0 < dN a b) := by decide +kernel
  exact fun a b ha hb => h a ha b hb
theorem dN_up : ∀ a c, a < 24 → c < 23 → a ≤ c → dN a (c + 1) = dN a c + dN c (c + 1) := by
  have h : ∀ a, a < 24 → ∀ c, c < 23 → a ≤ c → dN a (c + 1) = dN a c + dN c (c + 1) := by decide +kernel
  exact fun a c ha hc => h a ha c hc
theorem dN_down : ∀ a c, a < 24 → c < 23 → c + 1 ≤ a → dN a c = dN a (c + 1) + dN (c + 1) c := by
  have h : ∀ a, a < 24 → ∀ c, c < 23 → c + 1 ≤ a → dN a c = dN a (c + 1) + dN (c + 1) c := by decide +kernel
  exact fun a c ha hc => h a ha c hc
theorem rampV_comm (a b s : Nat) : rampV a b s = rampV b a s := by
  unfold rampV
  rw [dist_nat, dist_nat, dN_comm]
open Dbl in
theorem rampV_near (a b n : Nat) (ha : a < 24) (hb : b < 24) (hab : a ≠ b) (h0 : 0 < n) (h1 : n ≤ 65536) : ∃ v, Val (rampV a b (F.nearest false n 0)) v ∧ Near v n (dN a b) 2 := by
  obtain ⟨d1, d2⟩ := dN_bd a b ha hb
  obtain ⟨z, v, e, h2, h3⟩ := quo_near (dN a b) n (d2 hab) h0 d1 h1
  have : rampV a b (F.nearest false n 0) = z := by
    unfold rampV
    rw [dist_nat, fint]
    have e' : floatBits .quo .f64 (F.nearest false (dN a b) 0) (F.nearest false n 0) = some z := e
    rw [e']
    rfl
  rw [this]
  exact ⟨v, h2, h3⟩
open Dbl in
theorem rampV_self (a n : Nat) (h0 : 0 < n) (h1 : n ≤ 65536) : rampV a a (F.nearest false n 0) = 0 := by
  obtain ⟨m, p, h, hm, _, _⟩ := read_n n h0 h1
  unfold rampV
  rw [dist_nat, dN_self]
  have e0 : floatOfInt .f64 ((0 : Nat) : Int) = 0 := by decide +kernel
  rw [e0]
  have e' : floatBits .quo .f64 0 (F.nearest false n 0) = some 0 := div0 h (by omega)
  rw [e']
  rfl
open Dbl in
theorem rampV_order (a b n : Nat) (ha : a < 24) (hb : b < 24) (h0 : 0 < n) (h1 : n ≤ 65536) : FloatKind.f64.format.order (rampV a b (F.nearest false n 0)) (rampV a b (F.nearest false n 0)) = some .eq := by
  by_cases hab : a = b
  · subst hab
    rw [rampV_self a n h0 h1]
    exact order_num read0
  · obtain ⟨v, ⟨m, p, h, _⟩, _⟩ := rampV_near a b n ha hb hab h0 h1
    exact order_num h
/-- The sum of the first q ramps, from a to c. -/
def SumAt (n a c q S : Nat) : Prop := (q = 0 ∧ c = a ∧ S = 0) ∨ (0 < q ∧ 0 < dN a c ∧ ∃ v, Dbl.Val S v ∧ Dbl.Near v n (dN a c) (4 * q + 2))
open Dbl in
theorem sum_step {n a c c' q S : Nat} (h : SumAt n a c q S) (ha : a < 24) (hc : c < 24) (hc' : c' < 24) (hcc : c ≠ c') (hd : dN a c' = dN a c + dN c c') (hq : q ≤ 23) (h0 : 0 < n) (h1 : n ≤ 65536) :
    ∃ S', floatBits .add .f64 S (rampV c c' (F.nearest false n 0)) = some S' ∧ SumAt n a c' (q + 1) S' := by
  obtain ⟨zv, z1, z2⟩ := rampV_near c c' n hc hc' hcc h0 h1
  obtain ⟨d1, d2⟩ := dN_bd c c' hc hc'
  obtain ⟨d3, _⟩ := dN_bd a c' ha hc'
  have d2' := d2 hcc
  rcases h with ⟨rfl, rfl, rfl⟩ | ⟨hq0, hD, v, h2, h3⟩
  · obtain ⟨S', v', e, h4, h5⟩ := near_first z1 z2 h0 h1 d2' d1
    exact ⟨S', e, .inr ⟨by omega, by omega, v', h4, h5⟩⟩
  · obtain ⟨S', v', e, h4, h5⟩ := near_step h2 z1 h3 z2 (by omega) (by omega) h0 h1 d2' (by omega)
    refine ⟨S', e, .inr ⟨by omega, by omega, v', h4, ?_⟩⟩
    rw [hd, show 4 * (q + 1) + 2 = 4 * q + 2 + 4 by omega]
    exact h5
open Dbl in
theorem sum_ends {n a b q S : Nat} (h : SumAt n a b q S) (ha : a < 24) (hb : b < 24) (hq : q ≤ 24) (h0 : 0 < n) (h1 : n ≤ 65536) :
    ∃ y1 y2, floatBits .mul .f64 (rampV a b (F.nearest false n 0)) 4607182423303617035 = some y1 ∧ floatBits .mul .f64 (rampV a b (F.nearest false n 0)) 4607182409792818153 = some y2 ∧
      FloatKind.f64.format.order S y1 ≠ some .gt ∧ FloatKind.f64.format.order S y2 ≠ some .lt := by
  rcases h with ⟨rfl, rfl, rfl⟩ | ⟨hq0, hD, v, h2, h3⟩
  · rw [rampV_self b n h0 h1]
    exact ⟨0, 0, by decide +kernel, by decide +kernel, by decide +kernel, by decide +kernel⟩
  · have hab : a ≠ b := by
      intro e
      subst e
      rw [dN_self] at hD
      omega
    obtain ⟨x, x1, x2⟩ := rampV_near a b n ha hb hab h0 h1
    obtain ⟨y1, y2, g1, g2, g3, g4⟩ := ends h2 x1 h3 x2 (by omega) h0 h1 hD (dN_bd a b ha hb).1
    exact ⟨y1, y2, g1, g2, g3, g4⟩
end Go.Proofs.YtnomamimpnogpaaDoor
