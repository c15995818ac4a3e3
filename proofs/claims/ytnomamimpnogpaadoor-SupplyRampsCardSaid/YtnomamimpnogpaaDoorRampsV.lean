/- The plain law of SupplyRamps: the ramps of a way sum to the whole one, but for rounding. -/
import Derived.Test.YtnomamimpnogpaaDoorFloatErr
import Derived.Test.YtnomamimpnogpaaDoorRampC
import Derived.Test.YtnomamimpnogpaaDoorWayC
namespace Go.Proofs.YtnomamimpnogpaaDoor
open Go.RowKit
namespace Dbl
open Ieee
theorem add_one (k : Nat) (hk : k ≤ 65535) : F.add (F.nearest false k 0) one = some (F.nearest false (k + 1) 0) := by
  by_cases h0 : k = 0
  · subst h0
    decide +kernel
  · have hl : k.log2 ≤ 52 := by
      have : k.log2 < 16 := by rw [Nat.log2_lt h0]; omega
      omega
    obtain ⟨r, r1, r2⟩ := read_int k h0 hl
    have hq : k.log2 ≤ 52 := hl
    have es : k <<< (52 - k.log2) = k * 2 ^ (52 - k.log2) := Nat.shiftLeft_eq ..
    generalize hL : k.log2 = L at *
    have hb : min (-((52 - L : Nat) : Int)) (-52) = -52 := by omega
    have e1 : (-((52 - L : Nat) : Int) - -52).toNat = L := by omega
    have e2 : ((-52 : Int) - -52).toNat = 0 := by decide
    have e3 : (k <<< (52 - L)) <<< L = k * 4503599627370496 := by
      rw [Nat.shiftLeft_eq, es, Nat.mul_assoc, ← Nat.pow_add, show 52 - L + L = 52 by omega]
    have e4 : (4503599627370496 : Nat) <<< 0 = 4503599627370496 := rfl
    unfold Format.add
    rw [r, read_one]
    simp only [Datum.sum, signed, Bool.false_eq_true, if_false, Option.map_some, hb, e1, e2, e3, e4]
    have e5 : ((k * 4503599627370496 : Nat) : Int) + ((4503599627370496 : Nat) : Int) = (((k + 1) * 4503599627370496 : Nat) : Int) := by omega
    rw [e5]
    have e6 : ¬ (((k + 1) * 4503599627370496 : Nat) : Int) = 0 := by omega
    have e7 : ¬ (((k + 1) * 4503599627370496 : Nat) : Int) < 0 := by omega
    rw [if_neg e6]
    simp only [Format.write, decide_eq_false e7, Int.natAbs_natCast]
    have e8 : (k + 1) * 4503599627370496 = (k + 1) <<< 52 := by rw [Nat.shiftLeft_eq]
    rw [e8]
    have := nearest_scale false (k + 1) 52 0
    exact congrArg some this
/-- The sum so far. -/
def Near (v n D e : Nat) : Prop := v * n * 2 ^ 52 ≤ D * 2 ^ 200 * 2 ^ 52 + e * (D * 2 ^ 200) ∧ D * 2 ^ 200 * 2 ^ 52 ≤ v * n * 2 ^ 52 + e * (D * 2 ^ 200)
theorem near_lin (P Q R X Y e W : Nat) (hW : 100 ≤ W) (he : 2 ≤ e) (he2 : e ≤ 100)
    (h1 : P * W ≤ X * W + e * X) (h1' : X * W ≤ P * W + e * X) (h2 : Q * W ≤ Y * W + 2 * Y) (h2' : Y * W ≤ Q * W + 2 * Y) (h3 : R * (W * 2) ≤ (P + Q) * (W * 2 + 1)) (h3' : (P + Q) * (W * 2) ≤ R * (W * 2) + (P + Q)) :
    R * W ≤ (X + Y) * W + (e + 4) * (X + Y) ∧ (X + Y) * W ≤ R * W + (e + 4) * (X + Y) := by
  have hX : 100 * X ≤ X * W := by rw [Nat.mul_comm]; exact Nat.mul_le_mul_left _ hW
  have hY : 100 * Y ≤ Y * W := by rw [Nat.mul_comm]; exact Nat.mul_le_mul_left _ hW
  have heX : e * X ≤ 100 * X := Nat.mul_le_mul_right _ he2
  have heY : 2 * Y ≤ e * Y := Nat.mul_le_mul_right _ he
  have hP : P ≤ 2 * X := by
    have : P * W ≤ 2 * X * W := by rw [Nat.mul_assoc]; omega
    exact Nat.le_of_mul_le_mul_right this (by omega)
  have hQ : Q ≤ 2 * Y := by
    have : Q * W ≤ 2 * Y * W := by rw [Nat.mul_assoc]; omega
    exact Nat.le_of_mul_le_mul_right this (by omega)
  have a1 : R * (W * 2) = 2 * (R * W) := by rw [← Nat.mul_assoc, Nat.mul_comm]
  have a2 : (P + Q) * (W * 2) = 2 * (P * W) + 2 * (Q * W) := by rw [← Nat.mul_assoc, Nat.add_mul, Nat.mul_comm]; omega
  have a3 : (P + Q) * (W * 2 + 1) = 2 * (P * W) + 2 * (Q * W) + (P + Q) := by rw [Nat.mul_add, a2, Nat.mul_one]
  have a4 : (X + Y) * W = X * W + Y * W := Nat.add_mul ..
  have a5 : (e + 4) * (X + Y) = e * X + e * Y + 4 * X + 4 * Y := by rw [Nat.add_mul, Nat.mul_add, Nat.mul_add]; omega
  rw [a1, a3] at h3
  rw [a1, a2] at h3'
  rw [a4, a5]
  generalize e * X = eX at *
  generalize e * Y = eY at *
  generalize P * W = PW at *
  generalize Q * W = QW at *
  generalize R * W = RW at *
  generalize X * W = XW at *
  generalize Y * W = YW at *
  constructor <;> omega
theorem top_lin (s X x y W g : Nat) (hW : 100 ≤ W) (hg : 1000 ≤ g) (hg2 : g ≤ W) (h1 : s * W ≤ X * W + 100 * X) (h2 : X * W ≤ x * W + 2 * X) (h3 : x * (W + g) * (W * 2) ≤ y * W * (W * 2) + x * (W + g)) : s ≤ y := by
  have a1 : x * (W + g) ≤ x * (W * 2) := Nat.mul_le_mul_left _ (by omega)
  have a2 : x * (W + g) * (W * 2) ≤ (y * W + x) * (W * 2) := by rw [Nat.add_mul]; omega
  have a3 : x * (W + g) ≤ y * W + x := Nat.le_of_mul_le_mul_right a2 (by omega)
  rw [Nat.mul_add] at a3
  have a4 : 1000 * x ≤ x * g := by rw [Nat.mul_comm]; exact Nat.mul_le_mul_left _ hg
  have hX : 100 * X ≤ X * W := by rw [Nat.mul_comm]; exact Nat.mul_le_mul_left _ hW
  have a5 : X ≤ 2 * x := by
    have : X * W ≤ 2 * x * W := by rw [Nat.mul_assoc]; omega
    exact Nat.le_of_mul_le_mul_right this (by omega)
  have a6 : s * W ≤ y * W := by omega
  exact Nat.le_of_mul_le_mul_right a6 (by omega)
theorem bot_lin (s X x y W g C : Nat) (hW : 100 ≤ W) (hg : 1000 ≤ g) (hC : C + g = W * 2) (h1 : X * W ≤ s * W + 100 * X) (h2 : x * W ≤ X * W + 2 * X) (h2' : X * W ≤ x * W + 2 * X) (h3 : y * (W * 2) * (W * 2) ≤ x * C * (W * 2 + 1)) : y ≤ s := by
  have a1 : x * C ≤ x * (W * 2) := Nat.mul_le_mul_left _ (by omega)
  have a2 : y * (W * 2) * (W * 2) ≤ (x * C + x) * (W * 2) := by rw [Nat.add_mul]; rw [Nat.mul_add, Nat.mul_one] at h3; omega
  have a3 : y * (W * 2) ≤ x * C + x := Nat.le_of_mul_le_mul_right a2 (by omega)
  have a4 : 1000 * x ≤ x * g := by rw [Nat.mul_comm]; exact Nat.mul_le_mul_left _ hg
  have a5 : x * C + x * g = 2 * (x * W) := by rw [← Nat.mul_add, hC, ← Nat.mul_assoc, Nat.mul_comm]
  have a6 : y * (W * 2) = 2 * (y * W) := by rw [← Nat.mul_assoc, Nat.mul_comm]
  have hX : 100 * X ≤ X * W := by rw [Nat.mul_comm]; exact Nat.mul_le_mul_left _ hW
  have a7 : X ≤ 2 * x := by
    have : X * W ≤ 2 * x * W := by rw [Nat.mul_assoc]; omega
    exact Nat.le_of_mul_le_mul_right this (by omega)
  have a8 : y * W ≤ s * W := by omega
  exact Nat.le_of_mul_le_mul_right a8 (by omega)
theorem near_two {v n D e : Nat} (h : Near v n D e) (he : e ≤ 100) : v * n ≤ 2 * (D * 2 ^ 200) ∧ D * 2 ^ 200 ≤ 2 * (v * n) := by
  obtain ⟨h1, h2⟩ := h
  have hW : 200 ≤ 2 ^ 52 := by decide
  generalize 2 ^ 52 = W at *
  generalize D * 2 ^ 200 = X at *
  generalize v * n = P at *
  have hX : 200 * X ≤ X * W := by rw [Nat.mul_comm]; exact Nat.mul_le_mul_left _ hW
  have heX : e * X ≤ 100 * X := Nat.mul_le_mul_right _ he
  constructor
  · have : P * W ≤ 2 * X * W := by rw [Nat.mul_assoc]; omega
    exact Nat.le_of_mul_le_mul_right this (by omega)
  · have : X * W ≤ 2 * P * W := by rw [Nat.mul_assoc]; omega
    exact Nat.le_of_mul_le_mul_right this (by omega)
theorem near_step {S z v zv n D d e : Nat} (hS : Val S v) (hz : Val z zv) (h1 : Near v n D e) (h2 : Near zv n d 2) (he : 2 ≤ e) (he2 : e ≤ 100) (hn : 0 < n) (hn2 : n ≤ 65536) (hd : 0 < d) (hD : D + d ≤ 67108864) :
    ∃ S' v', F.add S z = some S' ∧ Val S' v' ∧ Near v' n (D + d) (e + 4) := by
  obtain ⟨b1, _⟩ := near_two h1 he2
  obtain ⟨b3, b4⟩ := near_two h2 (by omega)
  have lo : 2 ^ 140 ≤ v + zv := by
    rcases Nat.lt_or_ge zv (2 ^ 140) with h | h
    · have g1 : zv * n ≤ 2 ^ 140 * 65536 := Nat.mul_le_mul (Nat.le_of_lt h) hn2
      have g2 : 1 * 2 ^ 200 ≤ d * 2 ^ 200 := Nat.mul_le_mul_right _ hd
      have g3 : (2 : Nat) * (2 ^ 140 * 65536) < 1 * 2 ^ 200 := by decide
      omega
    · omega
  have hi : v + zv < 2 ^ 250 := by
    have g1 : v ≤ v * n := Nat.le_mul_of_pos_right _ hn
    have g2 : zv ≤ zv * n := Nat.le_mul_of_pos_right _ hn
    have g3 : D * 2 ^ 200 + d * 2 ^ 200 ≤ 67108864 * 2 ^ 200 := by rw [← Nat.add_mul]; exact Nat.mul_le_mul_right _ hD
    have g4 : (2 : Nat) * (67108864 * 2 ^ 200) < 2 ^ 250 := by decide
    omega
  obtain ⟨S', v', h3, h4, h5, h6⟩ := add_val hS hz lo hi
  refine ⟨S', v', h3, h4, ?_⟩
  obtain ⟨p1, p2⟩ := h1
  obtain ⟨q1, q2⟩ := h2
  have r1 := Nat.mul_le_mul_right n h5
  have r2 := Nat.mul_le_mul_right n h6
  have e53 : (2 : Nat) ^ 53 = 2 ^ 52 * 2 := by decide
  rw [e53] at r1 r2
  have hW : 100 ≤ 2 ^ 52 := by decide
  unfold Near
  rw [Nat.add_mul D d]
  generalize 2 ^ 52 = W at *
  have x1 : v' * (W * 2) * n = (v' * n) * (W * 2) := by ac_rfl
  have x2 : (v + zv) * (W * 2 + 1) * n = (v * n + zv * n) * (W * 2 + 1) := by rw [Nat.mul_right_comm, Nat.add_mul]
  have x3 : (v + zv) * (W * 2) * n = (v * n + zv * n) * (W * 2) := by rw [Nat.mul_right_comm, Nat.add_mul]
  have x4 : (v' * (W * 2) + (v + zv)) * n = (v' * n) * (W * 2) + (v * n + zv * n) := by rw [Nat.add_mul, x1, Nat.add_mul]
  rw [x1, x2] at r1
  rw [x3, x4] at r2
  have := near_lin (v * n) (zv * n) (v' * n) (D * 2 ^ 200) (d * 2 ^ 200) e W hW he he2 p1 p2 q1 q2 r1 r2
  exact this
theorem quo_near (d n : Nat) (hd : 0 < d) (hn : 0 < n) (hd2 : d ≤ 67108864) (hn2 : n ≤ 65536) : ∃ z v, F.div (F.nearest false d 0) (F.nearest false n 0) = some z ∧ Val z v ∧ Near v n d 2 := by
  have ld : d.log2 ≤ 26 := by
    have : d.log2 < 27 := by rw [Nat.log2_lt (by omega)]; omega
    omega
  have ln : n.log2 ≤ 16 := by
    have : n.log2 < 17 := by rw [Nat.log2_lt (by omega)]; omega
    omega
  obtain ⟨z, v, h1, h2, h3, h4⟩ := quo_val d n (by omega) (by omega) ld ln
  refine ⟨z, v, h1, h2, ?_⟩
  have e52 : (2 : Nat) ^ 52 = 2 ^ 51 * 2 := by decide
  unfold Near
  rw [e52]
  generalize 2 ^ 51 = W at *
  generalize d * 2 ^ 200 = X at *
  generalize v * n = P at *
  rw [Nat.mul_add, Nat.mul_one] at h3
  have x1 : P * (W * 2) = 2 * (P * W) := by rw [← Nat.mul_assoc, Nat.mul_comm]
  have x2 : X * (W * 2) = 2 * (X * W) := by rw [← Nat.mul_assoc, Nat.mul_comm]
  rw [x1, x2]
  omega
theorem read_c1 : F.read 4607182423303617035 = .number false (4503599627370496 + 4503599627) (-52) := by decide +kernel
theorem read_c2 : F.read 4607182409792818153 = .number false 9007190247541737 (-53) := by decide +kernel
theorem ends {S v x vx n D e : Nat} (hS : Val S v) (hx : Val x vx) (h1 : Near v n D e) (h2 : Near vx n D 2) (he : e ≤ 100) (hn : 0 < n) (hn2 : n ≤ 65536) (hD : 0 < D) (hD2 : D ≤ 67108864) :
    ∃ y1 y2, F.mul x 4607182423303617035 = some y1 ∧ F.mul x 4607182409792818153 = some y2 ∧ F.order S y1 ≠ some .gt ∧ F.order S y2 ≠ some .lt := by
  obtain ⟨b3, b4⟩ := near_two h2 (by omega)
  have lo : 2 ^ 183 ≤ vx := by
    rcases Nat.lt_or_ge vx (2 ^ 183) with h | h
    · have g1 : vx * n ≤ (2 ^ 183 - 1) * 65536 := Nat.mul_le_mul (by omega) hn2
      have g2 : 1 * 2 ^ 200 ≤ D * 2 ^ 200 := Nat.mul_le_mul_right _ hD
      have g3 : (2 : Nat) * ((2 ^ 183 - 1) * 65536) < 1 * 2 ^ 200 := by decide
      omega
    · exact h
  have hi : vx ≤ 2 ^ 227 := by
    have g1 : vx ≤ vx * n := Nat.le_mul_of_pos_right _ hn
    have g2 : D * 2 ^ 200 ≤ 67108864 * 2 ^ 200 := Nat.mul_le_mul_right _ hD2
    have g3 : (2 : Nat) * (67108864 * 2 ^ 200) ≤ 2 ^ 227 := by decide
    omega
  obtain ⟨y1, w1, m1, m2, m3, m4⟩ := mul_val hx read_c1 (by omega) (by omega)
    (by
      calc 2 ^ 140 * 2 ^ (-(-52 : Int)).toNat ≤ 2 ^ 183 * (4503599627370496 + 4503599627) := by decide
        _ ≤ vx * (4503599627370496 + 4503599627) := Nat.mul_le_mul_right _ lo)
    (by
      calc vx * (4503599627370496 + 4503599627) ≤ 2 ^ 227 * (4503599627370496 + 4503599627) := Nat.mul_le_mul_right _ hi
        _ < 2 ^ 250 * 2 ^ (-(-52 : Int)).toNat := by decide)
  obtain ⟨y2, w2, n1, n2, n3, n4⟩ := mul_val hx read_c2 (by omega) (by omega)
    (by
      calc 2 ^ 140 * 2 ^ (-(-53 : Int)).toNat ≤ 2 ^ 183 * 9007190247541737 := by decide
        _ ≤ vx * 9007190247541737 := Nat.mul_le_mul_right _ lo)
    (by
      calc vx * 9007190247541737 ≤ 2 ^ 227 * 9007190247541737 := Nat.mul_le_mul_right _ hi
        _ < 2 ^ 250 * 2 ^ (-(-53 : Int)).toNat := by decide)
  refine ⟨y1, y2, m1, n1, ?_, ?_⟩
  · refine (order_val hS m2).1 ?_
    have r := Nat.mul_le_mul_right n m4
    have e52 : (2 : Nat) ^ (-(-52 : Int)).toNat = 2 ^ 52 := rfl
    have e53 : (2 : Nat) ^ 53 = 2 ^ 52 * 2 := by decide
    have eC : (4503599627370496 + 4503599627 : Nat) = 2 ^ 52 + 4503599627 := by decide
    rw [e52, e53, eC] at r
    obtain ⟨p1, p2⟩ := h1
    obtain ⟨q1, q2⟩ := h2
    have hW : 100 ≤ 2 ^ 52 := by decide
    have hW2 : 4503599627 ≤ 2 ^ 52 := by decide
    have he' : e * (D * 2 ^ 200) ≤ 100 * (D * 2 ^ 200) := Nat.mul_le_mul_right _ he
    have p1' : v * n * 2 ^ 52 ≤ D * 2 ^ 200 * 2 ^ 52 + 100 * (D * 2 ^ 200) := Nat.le_trans p1 (Nat.add_le_add_left he' _)
    have r' : vx * n * (2 ^ 52 + 4503599627) * (2 ^ 52 * 2) ≤ w1 * n * 2 ^ 52 * (2 ^ 52 * 2) + vx * n * (2 ^ 52 + 4503599627) := by
      generalize 2 ^ 52 = W at *
      have x1 : vx * (W + 4503599627) * (W * 2) * n = vx * n * (W + 4503599627) * (W * 2) := by ac_rfl
      have x2 : (w1 * W * (W * 2) + vx * (W + 4503599627)) * n = w1 * n * W * (W * 2) + vx * n * (W + 4503599627) := by rw [Nat.add_mul]; congr 1 <;> ac_rfl
      rw [x1, x2] at r
      exact r
    have := top_lin (v * n) (D * 2 ^ 200) (vx * n) (w1 * n) (2 ^ 52) 4503599627 hW (by decide) hW2 p1' q2 r'
    exact Nat.le_of_mul_le_mul_right this hn
  · refine (order_val hS n2).2 ?_
    have r := Nat.mul_le_mul_right n n3
    have e52 : (2 : Nat) ^ (-(-53 : Int)).toNat = 2 ^ 52 * 2 := by decide
    have e53 : (2 : Nat) ^ 53 = 2 ^ 52 * 2 := by decide
    rw [e52, e53] at r
    obtain ⟨p1, p2⟩ := h1
    obtain ⟨q1, q2⟩ := h2
    have hW : 100 ≤ 2 ^ 52 := by decide
    have he' : e * (D * 2 ^ 200) ≤ 100 * (D * 2 ^ 200) := Nat.mul_le_mul_right _ he
    have p2' : D * 2 ^ 200 * 2 ^ 52 ≤ v * n * 2 ^ 52 + 100 * (D * 2 ^ 200) := Nat.le_trans p2 (Nat.add_le_add_left he' _)
    have r' : w2 * n * (2 ^ 52 * 2) * (2 ^ 52 * 2) ≤ vx * n * 9007190247541737 * (2 ^ 52 * 2 + 1) := by
      generalize 2 ^ 52 = W at *
      have x1 : w2 * (W * 2) * (W * 2) * n = w2 * n * (W * 2) * (W * 2) := by ac_rfl
      have x2 : vx * 9007190247541737 * (W * 2 + 1) * n = vx * n * 9007190247541737 * (W * 2 + 1) := by ac_rfl
      rw [x1, x2] at r
      exact r
    have := bot_lin (v * n) (D * 2 ^ 200) (vx * n) (w2 * n) (2 ^ 52) 9007199255 9007190247541737 hW (by decide) (by decide) p2' q1 q2 r'
    exact Nat.le_of_mul_le_mul_right this hn
end Dbl
end Go.Proofs.YtnomamimpnogpaaDoor
