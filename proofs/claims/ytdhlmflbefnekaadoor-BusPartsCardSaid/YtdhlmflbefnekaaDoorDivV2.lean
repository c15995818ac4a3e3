/- The plain law of a division of two words by one: digit by digit, each digit guessed too great by two at most. -/
import Derived.RowKit
namespace Go.Proofs.YtdhlmflbefnekaaDoor
namespace Dv
/-- A guess q of the digit, and what is left of u. -/
structure Dig (u v a c q r : Nat) : Prop where
  eq : u = q * a + r
  ge : (u * 4294967296 + v) / (a * 4294967296 + c) ≤ q
  le : q ≤ 4294967297
  nr : r < 8589934592
theorem Dig.start {u v a c : Nat} (ha : 2147483648 ≤ a) (ha2 : a < 4294967296) (hc : c < 4294967296) (hu : u < a * 4294967296 + c) (hv : v < 4294967296) : Dig u v a c (u / a) (u % a) := by
  have h1 := Nat.div_add_mod u a
  have h2 := Nat.mod_lt u (show a > 0 by omega)
  refine ⟨by rw [Nat.mul_comm]; omega, ?_, ?_, by omega⟩
  · rw [Nat.le_div_iff_mul_le (by omega)]
    have h3 := Nat.div_mul_le_self (u * 4294967296 + v) (a * 4294967296 + c)
    generalize (u * 4294967296 + v) / (a * 4294967296 + c) = q at *
    rw [Nat.mul_add, ← Nat.mul_assoc] at h3
    omega
  · have : u / a < 4294967298 := by
      rw [Nat.div_lt_iff_lt_mul (by omega)]
      omega
    omega
theorem Dig.again {u v a c q r : Nat} (ha : 2147483648 ≤ a) (ha2 : a < 4294967296) (hu : u < a * 4294967296 + c) (hv : v < 4294967296) (h : Dig u v a c q r) (hr : r < 4294967296) (hx : 4294967296 ≤ q ∨ 4294967296 * r + v < q * c) : 1 ≤ q ∧ Dig u v a c (q - 1) (r + a) := by
  have hq : 1 ≤ q := by
    rcases hx with hx | hx
    · omega
    · rcases Nat.eq_zero_or_pos q with e | e
      · subst e; omega
      · exact e
  have hlt : (u * 4294967296 + v) / (a * 4294967296 + c) < q := by
    rw [Nat.div_lt_iff_lt_mul (by omega)]
    have e1 := h.eq
    rw [Nat.mul_add, ← Nat.mul_assoc]
    rcases hx with hx | hx
    · have g1 : 4294967296 * c ≤ q * c := Nat.mul_le_mul_right _ hx
      have g2 : 4294967296 * a ≤ q * a := Nat.mul_le_mul_right _ hx
      generalize q * a = A at *
      generalize q * c = C at *
      omega
    · generalize q * a = A at *
      generalize q * c = C at *
      omega
  refine ⟨hq, ?_, by omega, by have := h.le; omega, by omega⟩
  have e1 := h.eq
  obtain ⟨k, rfl⟩ : ∃ k, q = k + 1 := ⟨q - 1, by omega⟩
  rw [Nat.add_mul] at e1
  simp only [Nat.add_sub_cancel]
  omega
theorem Dig.fin {u v a c q r : Nat} (ha : 2147483648 ≤ a) (h : Dig u v a c q r) (hx : q * c ≤ 4294967296 * r + v) : q = (u * 4294967296 + v) / (a * 4294967296 + c) := by
  refine Nat.le_antisymm ?_ h.ge
  rw [Nat.le_div_iff_mul_le (by omega), Nat.mul_add, ← Nat.mul_assoc]
  have e1 := h.eq
  generalize q * a = A at *
  generalize q * c = C at *
  omega
theorem Dig.brk {u v a c q r : Nat} (ha : 2147483648 ≤ a) (hc : c < 4294967296) (hu : u < a * 4294967296 + c) (h : Dig u v a c q r) (hr : 4294967296 ≤ r) : q = (u * 4294967296 + v) / (a * 4294967296 + c) := by
  refine h.fin ha ?_
  have e1 := h.eq
  have hq : q < 4294967296 := by
    rcases Nat.lt_or_ge q 4294967296 with g | g
    · exact g
    · have g2 : 4294967296 * a ≤ q * a := Nat.mul_le_mul_right _ g
      omega
  have g3 : q * c ≤ 4294967296 * 4294967296 := Nat.mul_le_mul (by omega) (by omega)
  omega
/-- Two digits. -/
theorem two (W u v0 Y : Nat) (hY : 0 < Y) : u / Y * W + (u % Y * W + v0) / Y = (u * W + v0) / Y ∧ (u % Y * W + v0) % Y = (u * W + v0) % Y := by
  have e := Nat.div_add_mod u Y
  have e2 : u * W + v0 = (u % Y * W + v0) + Y * (u / Y * W) := by
    have e3 : Y * (u / Y * W) = Y * (u / Y) * W := (Nat.mul_assoc _ _ _).symm
    rw [e3]
    conv => lhs; rw [← e, Nat.add_mul]
    omega
  rw [e2, Nat.add_mul_div_left _ _ hY, Nat.add_mul_mod_self_left]
  exact ⟨by omega, rfl⟩
/-- Both shifted. -/
theorem shifted (N y s : Nat) (_ : 0 < y) : N * 2 ^ s / (y * 2 ^ s) = N / y ∧ N * 2 ^ s % (y * 2 ^ s) / 2 ^ s = N % y := by
  have hp : 0 < 2 ^ s := Nat.two_pow_pos s
  exact ⟨Nat.mul_div_mul_right _ _ hp, by rw [Nat.mul_mod_mul_right, Nat.mul_div_cancel _ hp]⟩
end Dv
end Go.Proofs.YtdhlmflbefnekaaDoor
