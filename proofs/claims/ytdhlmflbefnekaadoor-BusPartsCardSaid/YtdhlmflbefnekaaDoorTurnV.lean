/- The plain law of turns: by credits each has its part, never more than one beyond it. -/
import Derived.Test.YtdhlmflbefnekaaDoorBase
namespace Go.Proofs.YtdhlmflbefnekaaDoor
open Go.RowKit
theorem nth_set (l : List Int) (b : Nat) (x : Int) (i : Nat) (hb : b < l.length) : nth (l.set b x) i = if i = b then x else nth l i := by
  unfold nth
  simp only [List.getD_eq_getElem?_getD, List.getElem?_set]
  by_cases h : b = i
  · subst h; simp [hb]
  · simp [h, Ne.symm h]
theorem nth_zip (a b : List Int) (h : a.length = b.length) (i : Nat) : nth (List.zipWith (· + ·) a b) i = nth a i + nth b i := by
  unfold nth
  simp only [List.getD_eq_getElem?_getD, List.getElem?_zipWith]
  by_cases hi : i < a.length
  · have hi' : i < b.length := by omega
    simp [hi, hi']
  · have hi' : ¬ i < b.length := by omega
    simp [hi, hi']
theorem sum_zip : ∀ (a b : List Int), a.length = b.length → (List.zipWith (· + ·) a b).sum = a.sum + b.sum
  | [], [], _ => rfl
  | x :: a, y :: b, h => by
    have := sum_zip a b (by simpa using h)
    simp only [List.zipWith_cons_cons, List.sum_cons, this]
    omega
  | [], y :: b, h => by simp at h
  | x :: a, [], h => by simp at h
theorem sum_set : ∀ (l : List Int) (b : Nat) (x : Int), b < l.length → (l.set b x).sum = l.sum - nth l b + x
  | [], b, x, h => by simp at h
  | y :: l, 0, x, _ => by simp [nth]; omega
  | y :: l, b + 1, x, h => by
    have := sum_set l b x (by simpa using h)
    have e : nth (y :: l) (b + 1) = nth l b := by simp [nth]
    simp only [List.set_cons_succ, List.sum_cons, this, e]
    omega
theorem sum_pos : ∀ (l : List Int), 0 < l.sum → ∃ i, i < l.length ∧ 0 < nth l i
  | [], h => by simp at h
  | y :: l, h => by
    by_cases hy : 0 < y
    · exact ⟨0, by simp, by simpa [nth] using hy⟩
    · obtain ⟨i, h1, h2⟩ := sum_pos l (by simp at h; omega)
      exact ⟨i + 1, by simpa using h1, by simpa [nth] using h2⟩
theorem sum_low : ∀ (l : List Int) (A : Int), (∀ i, i < l.length → -A ≤ nth l i) → -(l.length * A) ≤ l.sum
  | [], A, _ => by simp
  | y :: l, A, h => by
    have := sum_low l A (fun i hi => by have := h (i + 1) (by simpa using hi); simpa [nth] using this)
    have h0 := h 0 (by simp)
    have e : nth (y :: l) 0 = y := by simp [nth]
    rw [e] at h0
    simp only [List.length_cons, List.sum_cons, Int.natCast_add, Int.natCast_one, Int.add_mul, Int.one_mul]
    omega
theorem at_most : ∀ (l : List Int) (A : Int) (i : Nat), 0 ≤ A → (∀ i, i < l.length → -A ≤ nth l i) → i < l.length → nth l i ≤ l.sum + l.length * A
  | [], A, i, _, _, h => by simp at h
  | y :: l, A, 0, hA, h, _ => by
    have := sum_low l A (fun i hi => by have := h (i + 1) (by simpa using hi); simpa [nth] using this)
    have e : nth (y :: l) 0 = y := by simp [nth]
    rw [e]
    simp only [List.length_cons, List.sum_cons, Int.natCast_add, Int.natCast_one, Int.add_mul, Int.one_mul]
    omega
  | y :: l, A, i + 1, hA, h, hi => by
    have := at_most l A i hA (fun i hi => by have := h (i + 1) (by simpa using hi); simpa [nth] using this) (by simpa using hi)
    have h0 := h 0 (by simp)
    have e0 : nth (y :: l) 0 = y := by simp [nth]
    rw [e0] at h0
    have e : nth (y :: l) (i + 1) = nth l i := by simp [nth]
    rw [e]
    simp only [List.length_cons, List.sum_cons, Int.natCast_add, Int.natCast_one, Int.add_mul, Int.one_mul]
    omega
theorem sum_zero : ∀ (l : List Int), l.sum = 0 → (∀ i, i < l.length → 0 ≤ nth l i) → ∀ i, i < l.length → nth l i = 0
  | [], _, _, i, h => by simp at h
  | y :: l, hs, h, i, hi => by
    have ht : ∀ i, i < l.length → 0 ≤ nth l i := fun i hi => by have := h (i + 1) (by simpa using hi); simpa [nth] using this
    have h0 := h 0 (by simp)
    have e0 : nth (y :: l) 0 = y := by simp [nth]
    rw [e0] at h0
    have hl := sum_low l 0 (fun i hi => by have := ht i hi; omega)
    simp only [List.sum_cons] at hs
    match i, hi with
    | 0, _ => rw [e0]; omega
    | i + 1, hi =>
      have e : nth (y :: l) (i + 1) = nth l i := by simp [nth]
      rw [e]
      exact sum_zero l (by omega) ht i (by simpa using hi)

/-- The first of the greatest among the first n. -/
def bestTo (c : List Int) : Nat → Nat
  | 0 => 0
  | i + 1 => if nth c (bestTo c i) < nth c i then i else bestTo c i
theorem bestTo_lt (c : List Int) : ∀ n, 0 < n → bestTo c n < n
  | 0, h => absurd h (by omega)
  | 1, _ => by unfold bestTo; split <;> simp [bestTo]
  | n + 2, _ => by
    have := bestTo_lt c (n + 1) (by omega)
    unfold bestTo
    split <;> omega
theorem bestTo_le (c : List Int) : ∀ n i, i < n → nth c i ≤ nth c (bestTo c n)
  | 0, i, h => absurd h (by omega)
  | n + 1, i, h => by
    unfold bestTo
    by_cases hi : i = n
    · subst hi; split <;> omega
    · have := bestTo_le c n i (by omega)
      split <;> omega
/-- The credits behind k turns; who has the k-th; who has had how many. -/
def credits (L : List Int) : Nat → List Int
  | 0 => List.replicate L.length 0
  | k + 1 => (List.zipWith (· + ·) (credits L k) L).set (bestTo (List.zipWith (· + ·) (credits L k) L) L.length) (nth (List.zipWith (· + ·) (credits L k) L) (bestTo (List.zipWith (· + ·) (credits L k) L) L.length) - L.sum)
def grown (L : List Int) (k : Nat) : List Int := List.zipWith (· + ·) (credits L k) L
def turn (L : List Int) (k : Nat) : Nat := bestTo (grown L k) L.length
def hads (L : List Int) : Nat → List Int
  | 0 => List.replicate L.length 0
  | k + 1 => (hads L k).set (turn L k) (nth (hads L k) (turn L k) + 1)
theorem credits_succ (L : List Int) (k : Nat) : credits L (k + 1) = (grown L k).set (turn L k) (nth (grown L k) (turn L k) - L.sum) := rfl
theorem hads_succ (L : List Int) (k : Nat) : hads L (k + 1) = (hads L k).set (turn L k) (nth (hads L k) (turn L k) + 1) := rfl
theorem credits_len (L : List Int) : ∀ k, (credits L k).length = L.length
  | 0 => by simp [credits]
  | k + 1 => by simp [credits, credits_len L k]
theorem hads_len (L : List Int) : ∀ k, (hads L k).length = L.length
  | 0 => by simp [hads]
  | k + 1 => by simp [hads, hads_len L k]
theorem grown_len (L : List Int) (k : Nat) : (grown L k).length = L.length := by simp [grown, credits_len]
theorem grown_at (L : List Int) (k i : Nat) : nth (grown L k) i = nth (credits L k) i + nth L i := nth_zip _ _ (credits_len L k) i
theorem nth_zeros (n i : Nat) : nth (List.replicate n 0) i = 0 := by
  unfold nth
  simp only [List.getD_eq_getElem?_getD, List.getElem?_replicate]
  split <;> rfl
theorem some_one {L : List Int} (hs : 0 < L.sum) : 0 < L.length := by
  obtain ⟨i, h, _⟩ := sum_pos L hs
  omega
theorem turn_lt {L : List Int} (hs : 0 < L.sum) (k : Nat) : turn L k < L.length := bestTo_lt _ _ (some_one hs)
section
variable {L : List Int} (hs : 0 < L.sum)
include hs
theorem credits_sum : ∀ k, (credits L k).sum = 0
  | 0 => by
    have : ∀ n, (List.replicate n (0 : Int)).sum = 0 := by
      intro n; induction n with
      | zero => rfl
      | succ n ih => rw [List.replicate_succ, List.sum_cons, ih]; rfl
    exact this _
  | k + 1 => by
    rw [credits_succ, sum_set _ _ _ (by rw [grown_len]; exact turn_lt hs k)]
    have : (grown L k).sum = 0 + L.sum := by
      unfold grown
      rw [sum_zip _ _ (credits_len L k), credits_sum k]
    omega
theorem credits_low (hL : ∀ i, i < L.length → 0 ≤ nth L i) : ∀ k i, i < L.length → -L.sum < nth (credits L k) i
  | 0, i, _ => by rw [credits, nth_zeros]; omega
  | k + 1, i, hi => by
    have hlt := turn_lt hs k
    rw [credits_succ, nth_set _ _ _ _ (by rw [grown_len]; exact hlt)]
    split
    · have hsum : (grown L k).sum = L.sum := by
        unfold grown
        rw [sum_zip _ _ (credits_len L k), credits_sum hs k]; omega
      obtain ⟨j, hj, hpos⟩ := sum_pos (grown L k) (by omega)
      rw [grown_len] at hj
      have : nth (grown L k) j ≤ nth (grown L k) (turn L k) := bestTo_le _ _ j hj
      omega
    · rw [grown_at]
      have := credits_low hL k i hi
      have := hL i hi
      omega
theorem credits_high (hL : ∀ i, i < L.length → 0 ≤ nth L i) (k i : Nat) (hi : i < L.length) : nth (credits L k) i ≤ L.length * L.sum := by
  have h := at_most (credits L k) L.sum i (by omega) (fun j hj => by
    have := credits_low hs hL k j (by rwa [credits_len] at hj)
    omega) (by rwa [credits_len])
  rw [credits_sum hs k, credits_len] at h
  omega
theorem credits_had : ∀ k i, i < L.length → nth (credits L k) i = k * nth L i - L.sum * nth (hads L k) i
  | 0, i, _ => by rw [credits, hads, nth_zeros]; simp
  | k + 1, i, hi => by
    have hlt := turn_lt hs k
    rw [credits_succ, hads_succ, nth_set _ _ _ _ (by rw [grown_len]; exact hlt), nth_set _ _ _ _ (by rw [hads_len]; exact hlt)]
    have ih := credits_had k i hi
    have e : ((k + 1 : Nat) : Int) * nth L i = k * nth L i + nth L i := by
      rw [Int.natCast_add, Int.add_mul]; simp
    by_cases h : i = turn L k
    · rw [if_pos h, if_pos h, ← h, grown_at, ih, e, Int.mul_add, Int.mul_one]
      omega
    · rw [if_neg h, if_neg h, grown_at, ih, e]
      omega
/-- Never more than one beyond its part. -/
theorem had_part (hL : ∀ i, i < L.length → 0 ≤ nth L i) (k i : Nat) (hi : i < L.length) : (nth (hads L k) i - 1) * L.sum < k * nth L i := by
  have h1 := credits_low hs hL k i hi
  have h2 := credits_had hs k i hi
  rw [Int.sub_mul, Int.one_mul, Int.mul_comm]
  omega
/-- In as many turns as all together each has just its own. -/
theorem had_all (hL : ∀ i, i < L.length → 0 ≤ nth L i) (n : Nat) (hn : (n : Int) = L.sum) (i : Nat) (hi : i < L.length) : nth (hads L n) i = nth L i := by
  have key : ∀ j, j < L.length → 0 ≤ nth (credits L n) j := by
    intro j hj
    have h1 := credits_low hs hL n j hj
    have h2 := credits_had hs n j hj
    rw [hn, ← Int.mul_sub] at h2
    rw [h2] at h1 ⊢
    have h3 : L.sum * (-1) < L.sum * (nth L j - nth (hads L n) j) := by omega
    have h4 := Int.lt_of_mul_lt_mul_left h3 (by omega)
    exact Int.mul_nonneg (by omega) (by omega)
  have h0 := sum_zero (credits L n) (credits_sum hs n) (fun j hj => key j (by rwa [credits_len] at hj)) i (by rwa [credits_len])
  have h2 := credits_had hs n i hi
  rw [h0, hn, ← Int.mul_sub] at h2
  have := Int.mul_eq_zero.1 h2.symm
  omega
theorem had_pos : ∀ k i, i < L.length → 0 ≤ nth (hads L k) i ∧ nth (hads L k) i ≤ k
  | 0, i, _ => by rw [hads, nth_zeros]; omega
  | k + 1, i, hi => by
    have := had_pos k i hi
    rw [hads_succ, nth_set _ _ _ _ (by rw [hads_len]; exact turn_lt hs k)]
    have h2 := had_pos k (turn L k) (turn_lt hs k)
    split <;> omega
end
end Go.Proofs.YtdhlmflbefnekaaDoor
