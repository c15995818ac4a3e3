/- The plain law of parts: the shares are the total together, none far from its part. -/
import Derived.Test.YtdhlmflbefnekaaDoorShareV
namespace Go.Proofs.YtdhlmflbefnekaaDoor
namespace Sh
open Go.RowKit Go.Sort
/-- What is asked: weights that may be. -/
def fitV (zs : List Int) : List Int := ((zs.take 64).map fun z => ((z.natAbs % 1099511627776 : Nat) : Int)).take 63 ++ [1]
theorem fitV_len (zs : List Int) : (fitV zs).length = min (min 64 zs.length) 63 + 1 := by
  simp [fitV]
  omega
theorem fitV_bd (zs : List Int) (i : Nat) (h : i < (fitV zs).length) : 0 ≤ nth (fitV zs) i ∧ nth (fitV zs) i < 1099511627776 := by
  have hm := nth_mem h
  generalize nth (fitV zs) i = y at *
  unfold fitV at hm
  rw [List.mem_append] at hm
  rcases hm with hm | hm
  · have := List.mem_of_mem_take hm
    obtain ⟨z, _, rfl⟩ := List.mem_map.1 this
    have := Nat.mod_lt z.natAbs (show 1099511627776 > 0 by omega)
    omega
  · have : y = 1 := by simpa using hm
    omega
theorem sum_bd : ∀ (l : List Int) (b : Int), (∀ k, k < l.length → 0 ≤ nth l k ∧ nth l k ≤ b) → 0 ≤ l.sum ∧ l.sum ≤ l.length * b
  | [], b, _ => by simp
  | x :: l, b, h => by
    have h0 := h 0 (by simp)
    have := sum_bd l b (fun k hk => by have := h (k + 1) (by simpa using hk); simpa [nth] using this)
    have e : nth (x :: l) 0 = x := by simp [nth]
    rw [e] at h0
    simp only [List.length_cons, List.sum_cons, Int.natCast_add, Int.natCast_one, Int.add_mul, Int.one_mul]
    omega
theorem nth_app (a b : List Int) (i : Nat) : nth (a ++ b) i = if i < a.length then nth a i else nth b (i - a.length) := by
  unfold nth
  simp only [List.getD_eq_getElem?_getD, List.getElem?_append]
  split <;> rfl
theorem fitV_ok (zs : List Int) : (fitV zs).length ≤ 64 ∧ 0 < (fitV zs).length ∧ 0 < (fitV zs).sum ∧ (fitV zs).sum ≤ 70368744177664 ∧ okW (fitV zs) = true := by
  have hl := fitV_len zs
  obtain ⟨h1, h2⟩ := sum_bd (fitV zs) 1099511627775 (fun k hk => by have := fitV_bd zs k hk; omega)
  have h3 : 0 < (fitV zs).sum := by
    unfold fitV
    rw [List.sum_append]
    have := sum_bd (((zs.take 64).map fun z => ((z.natAbs % 1099511627776 : Nat) : Int)).take 63) 1099511627775 (fun k hk => by
      have hb := fitV_bd zs k (by unfold fitV; rw [List.length_append]; omega)
      have e : nth (fitV zs) k = nth (((zs.take 64).map fun z => ((z.natAbs % 1099511627776 : Nat) : Int)).take 63) k := by
        unfold fitV
        rw [nth_app, if_pos hk]
      rw [e] at hb
      omega)
    simp only [List.sum_cons, List.sum_nil]
    omega
  have h4 : (fitV zs).sum ≤ 70368744177664 := by
    have : ((fitV zs).length : Int) * 1099511627775 ≤ 64 * 1099511627775 := Int.mul_le_mul_of_nonneg_right (by omega) (by omega)
    omega
  refine ⟨by omega, by omega, h3, h4, ?_⟩
  rw [okW_good (fun k hk => by have := fitV_bd zs k hk; omega), decide_eq_true h3, decide_eq_true (by omega)]
  rfl
/-- Sums, in another order. -/
theorem sumN_list (f : Nat → Nat) : ∀ n, sumN f n = ((List.range n).map f).sum
  | 0 => rfl
  | n + 1 => by
    unfold sumN
    rw [List.range_succ, List.map_append, List.sum_append, sumN_list f n]
    simp
theorem sum_le_list (f : Nat → Nat) (b : Nat) : ∀ l : List Nat, (∀ x ∈ l, f x ≤ b) → (l.map f).sum ≤ l.length * b
  | [], _ => by simp
  | x :: l, h => by
    have := sum_le_list f b l (fun y hy => h y (by simp [hy]))
    have h0 := h x (by simp)
    simp only [List.map_cons, List.sum_cons, List.length_cons, Nat.add_mul, Nat.one_mul]
    omega
section
variable {T A n : Nat} {w : Nat → Nat} (hA : 0 < A) (hw : sumN w n = A)
include hA hw
/-- Nobody of what is left over 0 gets one more. -/
theorem no_more (i : Nat) (hi : i ∈ (ordS (fun i => T * w i % A) n).take (T - sumN (fun i => T * w i / A) n)) : 0 < T * w i % A := by
  obtain ⟨L, hL⟩ : ∃ L, L = T - sumN (fun i => T * w i / A) n := ⟨_, rfl⟩
  have hs := lack_eq (T := T) hA hw
  rw [← hL] at hi hs
  obtain ⟨r, hr⟩ : ∃ r : Nat → Nat, r = fun i => T * w i % A := ⟨_, rfl⟩
  rw [← hr] at hi hs
  have hrA : ∀ x, r x < A := fun x => by rw [hr]; exact Nat.mod_lt _ hA
  show 0 < (fun i => T * w i % A) i
  rw [← hr]
  rcases Nat.eq_zero_or_pos (r i) with h0 | h0
  · exfalso
    obtain ⟨p, hp, e⟩ := List.getElem_of_mem hi
    have hpL : p < L := by simp at hp; omega
    have hpn : p < (ordS r n).length := by simp at hp; omega
    rw [List.getElem_take] at e
    have hperm : ((ordS r n).map r).sum = sumN r n := by
      rw [sumN_list]
      exact List.Perm.sum_nat ((ordS_perm r n).map r)
    rw [hs] at hperm
    have hsplit : ((ordS r n).map r).sum = (((ordS r n).take p).map r).sum + (((ordS r n).drop p).map r).sum := by
      rw [← List.sum_append, ← List.map_append, List.take_append_drop]
    have hz : (((ordS r n).drop p).map r).sum ≤ ((ordS r n).drop p).length * 0 := sum_le_list r 0 _ (fun x hx => by
      obtain ⟨j, hj, e2⟩ := List.getElem_of_mem hx
      rw [List.getElem_drop] at e2
      by_cases c : j = 0
      · subst c
        simp only [Nat.add_zero] at e2
        rw [← e2, e, h0]
        exact Nat.le_refl _
      · have hj' : p + j < (ordS r n).length := by simp at hj; omega
        have hss := List.pairwise_iff_getElem.1 (ordS_sorted r n) p (p + j) hpn hj' (by omega)
        rw [e, e2, ← Bool.not_eq_true, bef_iff] at hss
        omega)
    have hf : (((ordS r n).take p).map r).sum ≤ ((ordS r n).take p).length * (A - 1) := sum_le_list r (A - 1) _ (fun x _ => by have := hrA x; omega)
    have hlp : ((ordS r n).take p).length = p := by rw [List.length_take]; omega
    rw [hlp] at hf
    have h1 : p * (A - 1) ≤ (L - 1) * (A - 1) := Nat.mul_le_mul_right _ (by omega)
    have h2 : A * L = (L - 1) * A + A := by
      obtain ⟨l, rfl⟩ : ∃ l, L = l + 1 := ⟨L - 1, by omega⟩
      rw [Nat.mul_comm, Nat.add_mul, Nat.one_mul]
      simp
    have h3 : (L - 1) * (A - 1) ≤ (L - 1) * A := Nat.mul_le_mul_left _ (by omega)
    omega
  · exact h0
omit hw in
theorem parts_low (i : Nat) : (T / A * w i : Nat) ≤ T * w i / A := by
  rw [Nat.le_div_iff_mul_le hA]
  have := Nat.div_mul_le_self T A
  have h := Nat.mul_le_mul_right (w i) this
  rw [Nat.mul_right_comm] at h
  exact h
omit hw in
theorem parts_high (i : Nat) : T * w i / A ≤ T / A * w i + w i := by
  have e := Nat.div_add_mod T A
  have hm := Nat.mod_lt T hA
  have h1 : T * w i = A * (T / A * w i) + T % A * w i := by
    have : T * w i = (A * (T / A) + T % A) * w i := by rw [e]
    rw [this, Nat.add_mul, Nat.mul_assoc]
  rw [h1, Nat.mul_add_div hA]
  have h2 : T % A * w i / A ≤ w i := by
    refine Nat.le_of_lt_succ ((Nat.div_lt_iff_lt_mul hA).2 ?_)
    have h3 : T % A * w i ≤ A * w i := Nat.mul_le_mul_right _ (by omega)
    have h4 : (w i).succ * A = A * w i + A := by rw [Nat.succ_mul, Nat.mul_comm]
    omega
  omega
end
theorem shs_sum (q r : Nat → Nat) (n : Nat) : ∀ k, k ≤ n → (shs q r n k).sum = (sumN q n : Nat) + (k : Nat)
  | 0, _ => by
    have e : shs q r n 0 = (List.range n).map fun i => (q i : Int) := by simp [shs]
    rw [e, sumN_list]
    clear e
    induction (List.range n) with
    | nil => rfl
    | cons x l ih => simp only [List.map_cons, List.sum_cons, Int.natCast_add]; omega
  | k + 1, h => by
    have ih := shs_sum q r n k (by omega)
    rw [← shs_step q r n k (by omega), sum_set _ _ _ (by rw [shs_len]; exact pk_lt r n k (by omega)), ih, shs_new q r n k (by omega)]
    omega
theorem sumN_ge' (f : Nat → Nat) (i : Nat) : ∀ n, i < n → f i ≤ sumN f n
  | 0, h => by omega
  | n + 1, h => by
    have e : sumN f (n + 1) = sumN f n + f n := rfl
    by_cases c : i = n
    · subst c; omega
    · have := sumN_ge' f i n (by omega); omega
/-- What each share is near. -/
theorem parts_at (t : Nat) (L : List Int) (h : okW L = true) (i : Nat) (hi : i < L.length) :
    ((t / L.sum.toNat * wN L i : Nat) : Int) ≤ nth (shs (qN t L) (rN t L) L.length (lackN t L)) i ∧ (wN L i = 0 → nth (shs (qN t L) (rN t L) L.length (lackN t L)) i = 0) ∧
    nth (shs (qN t L) (rN t L) L.length (lackN t L)) i ≤ ((t / L.sum.toNat * wN L i : Nat) : Int) + (wN L i : Nat) + 1 ∧ 0 ≤ nth (shs (qN t L) (rN t L) L.length (lackN t L)) i ∧ nth (shs (qN t L) (rN t L) L.length (lackN t L)) i ≤ t + 1 := by
  obtain ⟨_, h0, _⟩ := okW_parts h
  have hs := sum_N h
  have hA : 0 < L.sum.toNat := by omega
  have hw : sumN (wN L) L.length = L.sum.toNat := by omega
  rw [shs_at _ _ _ _ _ hi]
  have lo := parts_low (T := t) (w := wN L) hA i
  have hi' := parts_high (T := t) (w := wN L) hA i
  have hq : qN t L i ≤ t := Nat.le_trans (sumN_ge' (qN t L) i L.length hi) (quo_le (T := t) hA hw L.length (Nat.le_refl _))
  have hq' : qN t L i = t * wN L i / L.sum.toNat := rfl
  rw [← hq'] at lo hi'
  refine ⟨by split <;> omega, fun h0 => ?_, by split <;> omega, by split <;> omega, by split <;> omega⟩
  have hnot : ¬ i ∈ (ordS (rN t L) L.length).take (lackN t L) := fun hm => by
    have := no_more (T := t) hA hw i hm
    rw [h0] at this
    simp at this
  rw [if_neg hnot, hq', h0]
  simp
theorem parts_all (t : Nat) (L : List Int) (h : okW L = true) : (shs (qN t L) (rN t L) L.length (lackN t L)).sum = t := by
  obtain ⟨_, h0, _⟩ := okW_parts h
  have hs := sum_N h
  have hA : 0 < L.sum.toNat := by omega
  have hw : sumN (wN L) L.length = L.sum.toNat := by omega
  have hpos : 0 < L.length := by
    rcases Nat.eq_zero_or_pos L.length with e | e
    · rw [List.length_eq_zero_iff.1 e] at h0; simp at h0
    · exact e
  have h1 := quo_le (T := t) hA hw L.length (Nat.le_refl _)
  have h2 := lack_lt (T := t) hA hw hpos
  have e : lackN t L = t - sumN (qN t L) L.length := rfl
  rw [shs_sum _ _ _ (lackN t L) (Nat.le_of_lt h2)]
  have e2 : sumN (qN t L) L.length = sumN (fun i => t * wN L i / L.sum.toNat) L.length := rfl
  omega
/-- A multiple of all is parted without any left over. -/
theorem parts_even (k : Nat) (L : List Int) (h : okW L = true) (i : Nat) (hi : i < L.length) : nth (shs (qN (k * L.sum.toNat) L) (rN (k * L.sum.toNat) L) L.length (lackN (k * L.sum.toNat) L)) i = ((k * wN L i : Nat) : Int) := by
  obtain ⟨_, h0, _⟩ := okW_parts h
  have hs := sum_N h
  have hA : 0 < L.sum.toNat := by omega
  have hw : sumN (wN L) L.length = L.sum.toNat := by omega
  have hq : ∀ j, qN (k * L.sum.toNat) L j = k * wN L j := fun j => by
    unfold qN
    rw [Nat.mul_right_comm, Nat.mul_div_cancel _ hA]
  have hr : ∀ j, (fun i => k * L.sum.toNat * wN L i % L.sum.toNat) j = 0 := fun j => by
    show k * L.sum.toNat * wN L j % L.sum.toNat = 0
    rw [Nat.mul_right_comm, Nat.mul_mod_left]
  have hl : lackN (k * L.sum.toNat) L = 0 := by
    have h1 := lack_eq (T := k * L.sum.toNat) hA hw
    have h2 : sumN (fun i => k * L.sum.toNat * wN L i % L.sum.toNat) L.length = 0 := by
      have := sumN_le (fun i => k * L.sum.toNat * wN L i % L.sum.toNat) 0 L.length (fun j _ => Nat.le_of_eq (hr j))
      omega
    rw [h2] at h1
    have h3 : lackN (k * L.sum.toNat) L = k * L.sum.toNat - sumN (fun i => k * L.sum.toNat * wN L i / L.sum.toNat) L.length := rfl
    rw [← h3] at h1
    rcases Nat.eq_zero_or_pos (lackN (k * L.sum.toNat) L) with e | e
    · exact e
    · have := Nat.mul_pos hA e
      omega
  rw [shs_at _ _ _ _ _ hi, hl, hq]
  simp
end Sh
end Go.Proofs.YtdhlmflbefnekaaDoor
