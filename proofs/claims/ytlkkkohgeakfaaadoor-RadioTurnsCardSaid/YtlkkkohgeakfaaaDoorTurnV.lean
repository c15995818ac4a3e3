/- Quarter turns, plainly: signs change places; products with units turn; the power stays. -/
import Derived.Test.YtlkkkohgeakfaaaDoorFloatKit
namespace Go.Proofs.YtlkkkohgeakfaaaDoor
namespace Dbl
open Ieee
theorem read_word' (s : Bool) (r : Nat) (h : r ≤ 9218868437227405312) : (∃ m p, F.read (F.word s r) = .number s m p) ∨ F.read (F.word s r) = .infinity s := by
  have hr : (F.word s r) % 9223372036854775808 = r := by
    unfold Format.word
    rw [F_sign]
    cases s
    · simp; omega
    · simp; omega
  have hs : ((F.word s r) / 9223372036854775808 % 2 == 1) = s := by
    unfold Format.word
    rw [F_sign]
    cases s
    · simp; omega
    · simp; omega
  unfold Format.read
  simp only [F_sign, F_binade, F_inf, hr, hs]
  split
  · exact .inl ⟨_, _, rfl⟩
  · split
    · exact .inl ⟨_, _, rfl⟩
    · rw [if_pos (by omega)]; exact .inr rfl
theorem read_near (s : Bool) (m : Nat) (p : Int) : (∃ m' p', F.read (F.nearest s m p) = .number s m' p') ∨ F.read (F.nearest s m p) = .infinity s := by
  unfold Format.nearest
  split
  · exact read_word' s 0 (by omega)
  · dsimp only
    refine read_word' s _ ?_
    rw [F_inf]
    exact Nat.min_le_right _ _
/-- Quarter turns of a signal. -/
def turn (q : Nat) (z : Nat × Nat) : Nat × Nat :=
  match q with
  | 1 => (neg z.2, z.1)
  | 2 => (neg z.1, neg z.2)
  | 3 => (z.2, neg z.1)
  | _ => z
theorem turn_turn (a b : Nat) (z : Nat × Nat) (ha : a < 4) (hb : b < 4) : turn b (turn a z) = turn ((a + b) % 4) z := by
  match a, b, ha, hb with
  | 0, 0, _, _ | 0, 1, _, _ | 0, 2, _, _ | 0, 3, _, _ | 1, 0, _, _ | 1, 1, _, _ | 1, 2, _, _ | 1, 3, _, _ | 2, 0, _, _ | 2, 1, _, _ | 2, 2, _, _ | 2, 3, _, _ | 3, 0, _, _ | 3, 1, _, _ | 3, 2, _, _ | 3, 3, _, _ => simp [turn, neg_neg]
def Fin2 (z : Nat × Nat) : Prop := Fin z.1 ∧ Fin z.2
def Nz2 (z : Nat × Nat) : Prop := z.1 % 9223372036854775808 ≠ 0 ∧ z.2 % 9223372036854775808 ≠ 0
theorem turn_fin (q : Nat) {z : Nat × Nat} (h : Fin2 z) : Fin2 (turn q z) := by
  unfold turn
  split
  · exact ⟨h.2.neg, h.1⟩
  · exact ⟨h.1.neg, h.2.neg⟩
  · exact ⟨h.2, h.1.neg⟩
  · exact h
theorem turn_nz (q : Nat) {z : Nat × Nat} (h : Fin2 z) (hn : Nz2 z) : Nz2 (turn q z) := by
  have e1 := neg_rung z.1 h.1.1
  have e2 := neg_rung z.2 h.2.1
  unfold turn
  split
  · exact ⟨by rw [e2]; exact hn.2, hn.1⟩
  · exact ⟨by rw [e1]; exact hn.1, by rw [e2]; exact hn.2⟩
  · exact ⟨hn.2, by rw [e1]; exact hn.1⟩
  · exact hn
/-- The power: the two squares, and their sum. -/
def Pow (z : Nat × Nat) (p r s : Nat) : Prop := F.mul z.1 z.1 = some r ∧ F.mul z.2 z.2 = some s ∧ F.add r s = some p ∧ F.order p p = some .eq
theorem order_near (s : Bool) (m : Nat) (p : Int) : F.order (F.nearest s m p) (F.nearest s m p) = some .eq := by
  unfold Format.order
  rcases read_near s m p with ⟨m', p', h⟩ | h
  · rw [h]; simp [Datum.order]
  · rw [h]; cases s <;> simp [Datum.order]
theorem pow_of {z : Nat × Nat} (h : Fin2 z) : ∃ p r s, Pow z p r s := by
  obtain ⟨a, m, p, e, _⟩ := h.1.read
  obtain ⟨a', m', p', e', _⟩ := h.2.read
  have h1 : F.mul z.1 z.1 = some (F.nearest false (m * m) (p + p)) := by
    unfold Format.mul
    rw [e]
    simp [Datum.product, Format.write]
  have h2 : F.mul z.2 z.2 = some (F.nearest false (m' * m') (p' + p')) := by
    unfold Format.mul
    rw [e']
    simp [Datum.product, Format.write]
  generalize hx : F.nearest false (m * m) (p + p) = x at *
  generalize hy : F.nearest false (m' * m') (p' + p') = y at *
  have hr1 := read_near false (m * m) (p + p)
  have hr2 := read_near false (m' * m') (p' + p')
  rw [hx] at hr1
  rw [hy] at hr2
  have h3 : ∃ s, F.add x y = some s ∧ F.order s s = some .eq := by
    unfold Format.add
    rcases hr1 with ⟨u1, v1, r1⟩ | r1 <;> rcases hr2 with ⟨u2, v2, r2⟩ | r2 <;> rw [r1, r2]
    · exact ⟨_, rfl, order_near _ _ _⟩
    · exact ⟨_, rfl, by decide +kernel⟩
    · exact ⟨_, rfl, by decide +kernel⟩
    · exact ⟨_, rfl, by decide +kernel⟩
  obtain ⟨s, h3, h4⟩ := h3
  exact ⟨s, x, y, h1, h2, h3, h4⟩
theorem pow_turn (q : Nat) {z : Nat × Nat} {p r s : Nat} (h : Fin2 z) (hp : Pow z p r s) : ∃ r' s', Pow (turn q z) p r' s' := by
  obtain ⟨h1, h2, h3, h4⟩ := hp
  have n1 : F.mul (neg z.1) (neg z.1) = some r := by rw [mul_neg_neg _ _ h.1.1 h.1.1]; exact h1
  have n2 : F.mul (neg z.2) (neg z.2) = some s := by rw [mul_neg_neg _ _ h.2.1 h.2.1]; exact h2
  have hc : F.add s r = some p := by rw [add_comm]; exact h3
  unfold turn
  split
  · exact ⟨s, r, n2, h1, hc, h4⟩
  · exact ⟨r, s, n1, n2, h3, h4⟩
  · exact ⟨s, r, h2, n1, hc, h4⟩
  · exact ⟨r, s, h1, h2, h3, h4⟩
/-- A step of a product: (ac - bd, ad + bc). -/
def Mul (x y z : Nat × Nat) : Prop :=
  ∃ ac bd ad bc, F.mul x.1 y.1 = some ac ∧ F.mul x.2 y.2 = some bd ∧ F.sub ac bd = some z.1 ∧ F.mul x.1 y.2 = some ad ∧ F.mul x.2 y.1 = some bc ∧ F.add ad bc = some z.2
/-- 1, turned; its zero may have either sign. -/
inductive Unit4 : Nat → Nat × Nat → Prop
  | q0 (s : Bool) : Unit4 0 (one, zeroOf s)
  | q1 (s : Bool) : Unit4 1 (zeroOf s, one)
  | q2 (s : Bool) : Unit4 2 (neg one, zeroOf s)
  | q3 (s : Bool) : Unit4 3 (zeroOf s, neg one)
theorem mul_unit {q : Nat} {u z : Nat × Nat} (hu : Unit4 q u) (h : Fin2 z) (hn : Nz2 z) : Mul z u (turn q z) := by
  obtain ⟨f1, f2⟩ := h
  obtain ⟨n1, n2⟩ := hn
  have m1 : neg z.1 % 9223372036854775808 ≠ 0 := by rw [neg_rung _ f1.1]; exact n1
  have m2 : neg z.2 % 9223372036854775808 ≠ 0 := by rw [neg_rung _ f2.1]; exact n2
  cases hu with
  | q0 s =>
    obtain ⟨t, ht⟩ := mul_zero f2 s
    obtain ⟨t', ht'⟩ := mul_zero f1 s
    exact ⟨_, _, _, _, mul_one f1, ht, sub_zero f1 n1 t, ht', mul_one f2, zero_add f2 n2 t'⟩
  | q1 s =>
    obtain ⟨t, ht⟩ := mul_zero f1 s
    obtain ⟨t', ht'⟩ := mul_zero f2 s
    exact ⟨_, _, _, _, ht, mul_one f2, zero_sub f2 n2 t, mul_one f1, ht', add_zero f1 n1 t'⟩
  | q2 s =>
    obtain ⟨t, ht⟩ := mul_zero f2 s
    obtain ⟨t', ht'⟩ := mul_zero f1 s
    exact ⟨_, _, _, _, mul_negone f1, ht, sub_zero f1.neg m1 t, ht', mul_negone f2, zero_add f2.neg m2 t'⟩
  | q3 s =>
    obtain ⟨t, ht⟩ := mul_zero f1 s
    obtain ⟨t', ht'⟩ := mul_zero f2 s
    have e := zero_sub f2.neg m2 t
    rw [neg_neg] at e
    exact ⟨_, _, _, _, ht, mul_negone f2, e, mul_negone f1, ht', add_zero f1.neg m1 t'⟩
theorem unit_mul {q : Nat} {u z : Nat × Nat} (hu : Unit4 q u) (h : Fin2 z) (hn : Nz2 z) : Mul u z (turn q z) := by
  obtain ⟨ac, bd, ad, bc, h1, h2, h3, h4, h5, h6⟩ := mul_unit hu h hn
  exact ⟨ac, bd, bc, ad, by rw [mul_comm]; exact h1, by rw [mul_comm]; exact h2, h3, by rw [mul_comm]; exact h5, by rw [mul_comm]; exact h4, by rw [add_comm]; exact h6⟩
theorem unit_turn : ∀ q, q < 4 → Unit4 q (turn q (one, 0)) := by
  intro q hq
  match q, hq with
  | 0, _ => exact .q0 false
  | 1, _ => exact .q1 true
  | 2, _ => exact .q2 true
  | 3, _ => exact .q3 false
/-- 1 times 1 turned. -/
theorem one_unit : ∀ q, q < 4 → ∃ v, Mul (one, 0) (turn q (one, 0)) v ∧ Unit4 q v := by
  intro q hq
  match q, hq with
  | 0, _ => exact ⟨(one, zeroOf false), ⟨one, 0, 0, 0, by decide +kernel, by decide +kernel, by decide +kernel, by decide +kernel, by decide +kernel, by decide +kernel⟩, .q0 false⟩
  | 1, _ =>
    have : ∃ s, Mul (one, 0) (turn 1 (one, 0)) (zeroOf s, one) := by
      first
        | exact ⟨true, _, _, _, _, by decide +kernel, by decide +kernel, by decide +kernel, by decide +kernel, by decide +kernel, by decide +kernel⟩
        | exact ⟨false, 9223372036854775808, 0, one, 9223372036854775808, by decide +kernel, by decide +kernel, by decide +kernel, by decide +kernel, by decide +kernel, by decide +kernel⟩
        | exact ⟨true, 9223372036854775808, 0, one, 9223372036854775808, by decide +kernel, by decide +kernel, by decide +kernel, by decide +kernel, by decide +kernel, by decide +kernel⟩
    obtain ⟨s, h⟩ := this
    exact ⟨_, h, .q1 s⟩
  | 2, _ =>
    have : ∃ s, Mul (one, 0) (turn 2 (one, 0)) (neg one, zeroOf s) := by
      first
        | exact ⟨false, neg one, 9223372036854775808, 9223372036854775808, 9223372036854775808, by decide +kernel, by decide +kernel, by decide +kernel, by decide +kernel, by decide +kernel, by decide +kernel⟩
        | exact ⟨true, neg one, 9223372036854775808, 9223372036854775808, 9223372036854775808, by decide +kernel, by decide +kernel, by decide +kernel, by decide +kernel, by decide +kernel, by decide +kernel⟩
    obtain ⟨s, h⟩ := this
    exact ⟨_, h, .q2 s⟩
  | 3, _ =>
    have : ∃ s, Mul (one, 0) (turn 3 (one, 0)) (zeroOf s, neg one) := by
      first
        | exact ⟨false, 0, 9223372036854775808, neg one, 0, by decide +kernel, by decide +kernel, by decide +kernel, by decide +kernel, by decide +kernel, by decide +kernel⟩
        | exact ⟨true, 0, 9223372036854775808, neg one, 0, by decide +kernel, by decide +kernel, by decide +kernel, by decide +kernel, by decide +kernel, by decide +kernel⟩
    obtain ⟨s, h⟩ := this
    exact ⟨_, h, .q3 s⟩
/-- 1 times a signal. -/
theorem one_mul2 {z : Nat × Nat} (h : Fin2 z) (hn : Nz2 z) : Mul (one, 0) z z := unit_mul (.q0 false) h hn
theorem order_fin2 {z : Nat × Nat} (h : Fin2 z) : F.order z.1 z.1 = some .eq ∧ F.order z.2 z.2 = some .eq := ⟨order_self h.1, order_self h.2⟩
end Dbl
end Go.Proofs.YtlkkkohgeakfaaaDoor
