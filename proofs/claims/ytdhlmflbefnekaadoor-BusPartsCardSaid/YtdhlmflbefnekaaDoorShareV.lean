/- The plain law of shares: what is left over goes to those with the greatest remainders, the first of equals first. -/
import Derived.Test.YtdhlmflbefnekaaDoorTurnC
import Derived.Sort.LotA
namespace Go.Proofs.YtdhlmflbefnekaaDoor
namespace Sh
open Go.RowKit Go.Sort
/-- x stands before y. -/
def bef (r : Nat → Nat) (x y : Nat) : Bool := decide (r y < r x) || (r x == r y && decide (x < y))
theorem bef_iff (r : Nat → Nat) (x y : Nat) : bef r x y = true ↔ r y < r x ∨ (r x = r y ∧ x < y) := by
  unfold bef
  simp
theorem bef_swo (r : Nat → Nat) : SWO (bef r) where
  irrefl x := by rw [← Bool.not_eq_true, bef_iff]; omega
  trans x y z h1 h2 := by rw [bef_iff] at *; omega
  ntrans x y z h1 h2 := by rw [← Bool.not_eq_true, bef_iff] at *; omega
theorem bef_tot (r : Nat → Nat) {x y : Nat} (h : x ≠ y) : bef r x y = true ∨ bef r y x = true := by rw [bef_iff, bef_iff]; omega
/-- Who comes when. -/
def ordS (r : Nat → Nat) (n : Nat) : List Nat := (List.range n).mergeSort fun x y => !bef r y x
theorem ordS_perm (r : Nat → Nat) (n : Nat) : (ordS r n).Perm (List.range n) := List.mergeSort_perm _ _
theorem ordS_len (r : Nat → Nat) (n : Nat) : (ordS r n).length = n := by rw [(ordS_perm r n).length_eq, List.length_range]
theorem ordS_mem (r : Nat → Nat) (n x : Nat) : x ∈ ordS r n ↔ x < n := by rw [(ordS_perm r n).mem_iff, List.mem_range]
theorem ordS_nodup (r : Nat → Nat) (n : Nat) : (ordS r n).Nodup := (ordS_perm r n).nodup_iff.2 List.nodup_range
theorem ordS_sorted (r : Nat → Nat) (n : Nat) : (ordS r n).Pairwise fun x y => bef r y x = false := by
  have h := List.pairwise_mergeSort (le := fun x y => !bef r y x) (fun a b c h1 h2 => by
    simp only [Bool.not_eq_true'] at *
    exact (bef_swo r).ntrans _ _ _ h2 h1) (fun a b => by
    by_cases c : bef r b a = true
    · have : bef r a b = false := by rw [← Bool.not_eq_true, bef_iff]; rw [bef_iff] at c; omega
      simp [this]
    · simp at c; simp [c]) (List.range n)
  exact h.imp (fun h => by simpa using h)
def pk (l : List Nat) (k : Nat) : Nat := l.getD k 0
theorem pk_eq {l : List Nat} {k : Nat} (h : k < l.length) : pk l k = l[k] := by simp [pk, List.getD, h]
theorem pk_lt (r : Nat → Nat) (n k : Nat) (h : k < n) : pk (ordS r n) k < n := by
  rw [pk_eq (by rw [ordS_len]; exact h), ← ordS_mem r n]
  exact List.getElem_mem _
theorem pk_new (r : Nat → Nat) (n k : Nat) (h : k < n) : pk (ordS r n) k ∉ (ordS r n).take k := by
  have hn := ordS_nodup r n
  rw [pk_eq (by rw [ordS_len]; exact h)]
  intro hm
  obtain ⟨i, hi, e⟩ := List.getElem_of_mem hm
  have hik : i < k := by simp at hi; omega
  rw [List.getElem_take] at e
  exact absurd ((List.getElem_inj hn).1 e) (by omega)
/-- The next one is the first of all that are left. -/
theorem pk_first (r : Nat → Nat) (n k x : Nat) (h : k < n) (hx : x < n) (hnew : x ∉ (ordS r n).take k) : x = pk (ordS r n) k ∨ bef r (pk (ordS r n) k) x = true := by
  obtain ⟨i, hi, e⟩ := List.getElem_of_mem ((ordS_mem r n x).2 hx)
  have hki : k ≤ i := by
    rcases Nat.lt_or_ge i k with c | c
    · exfalso
      exact hnew (by rw [← e]; exact List.mem_take_iff_getElem.2 ⟨i, by omega, rfl⟩)
    · exact c
  by_cases c : i = k
  · subst c
    exact .inl (by rw [pk_eq hi, e])
  · right
    have hs := List.pairwise_iff_getElem.1 (ordS_sorted r n) k i (by rw [ordS_len]; exact h) hi (by omega)
    rw [e, ← pk_eq (by rw [ordS_len]; exact h)] at hs
    have hne : x ≠ pk (ordS r n) k := fun e2 => by
      rw [pk_eq (by rw [ordS_len]; exact h), ← e] at e2
      exact c ((List.getElem_inj (ordS_nodup r n)).1 e2)
    rcases bef_tot r hne with g | g
    · rw [g] at hs; cases hs
    · exact g
/-- That one is known by it. -/
theorem pk_is (r : Nat → Nat) (n k x : Nat) (h : k < n) (hx : x < n) (hnew : x ∉ (ordS r n).take k) (hmin : ∀ y, y < n → y ∉ (ordS r n).take k → bef r y x = false) : x = pk (ordS r n) k := by
  rcases pk_first r n k x h hx hnew with e | e
  · exact e
  · rw [hmin _ (pk_lt r n k h) (pk_new r n k h)] at e
    cases e
/-- The shares with k of those that are left over handed out. -/
def shs (q r : Nat → Nat) (n k : Nat) : List Int := (List.range n).map fun i => if i ∈ (ordS r n).take k then (q i : Int) + 1 else q i
theorem shs_len (q r : Nat → Nat) (n k : Nat) : (shs q r n k).length = n := by simp [shs]
theorem shs_at (q r : Nat → Nat) (n k i : Nat) (h : i < n) : nth (shs q r n k) i = if i ∈ (ordS r n).take k then (q i : Int) + 1 else q i := by simp [shs, nth, List.getD, h]
theorem shs_step (q r : Nat → Nat) (n k : Nat) (h : k < n) : (shs q r n k).set (pk (ordS r n) k) ((q (pk (ordS r n) k) : Int) + 1) = shs q r n (k + 1) := by
  have hp := pk_lt r n k h
  apply List.ext_getElem (by simp [shs])
  intro i h1 h2
  have hin : i < n := by simpa [shs] using h2
  have e1 := nth_set (shs q r n k) (pk (ordS r n) k) ((q (pk (ordS r n) k) : Int) + 1) i (by rw [shs_len]; exact hp)
  rw [nth_eq h1] at e1
  rw [e1, ← nth_eq h2, shs_at _ _ _ _ _ hin, shs_at _ _ _ _ _ hin]
  have ht : (ordS r n).take (k + 1) = (ordS r n).take k ++ [pk (ordS r n) k] := by
    rw [List.take_succ_eq_append_getElem (by rw [ordS_len]; exact h), pk_eq (by rw [ordS_len]; exact h)]
  by_cases c : i = pk (ordS r n) k
  · rw [if_pos c, if_pos (by rw [ht, c]; simp), c]
  · rw [if_neg c]
    have : i ∈ (ordS r n).take (k + 1) ↔ i ∈ (ordS r n).take k := by rw [ht]; simp [c]
    by_cases c2 : i ∈ (ordS r n).take k
    · rw [if_pos c2, if_pos (this.2 c2)]
    · rw [if_neg c2, if_neg (fun h => c2 (this.1 h))]
theorem shs_new (q r : Nat → Nat) (n k : Nat) (h : k < n) : nth (shs q r n k) (pk (ordS r n) k) = q (pk (ordS r n) k) := by
  rw [shs_at _ _ _ _ _ (pk_lt r n k h), if_neg (pk_new r n k h)]
/-- Sums of Nat functions. -/
def sumN (f : Nat → Nat) : Nat → Nat
  | 0 => 0
  | n + 1 => sumN f n + f n
theorem sumN_le (f : Nat → Nat) (b : Nat) : ∀ n, (∀ i, i < n → f i ≤ b) → sumN f n ≤ n * b
  | 0, _ => by simp [sumN]
  | n + 1, h => by
    have := sumN_le f b n (fun i hi => h i (by omega))
    have := h n (by omega)
    unfold sumN
    rw [Nat.add_mul, Nat.one_mul]
    omega
theorem sumN_lt (f : Nat → Nat) (b : Nat) : ∀ n, 0 < n → (∀ i, i < n → f i < b) → sumN f n < n * b
  | 0, h, _ => by omega
  | n + 1, _, h => by
    have := sumN_le f b n (fun i hi => Nat.le_of_lt (h i (by omega)))
    have := h n (by omega)
    unfold sumN
    rw [Nat.add_mul, Nat.one_mul]
    omega
theorem sumN_mono (f : Nat → Nat) : ∀ {k n : Nat}, k ≤ n → sumN f k ≤ sumN f n
  | k, 0, h => by obtain rfl : k = 0 := by omega
                  exact Nat.le_refl _
  | k, n + 1, h => by
    by_cases c : k = n + 1
    · rw [c]; exact Nat.le_refl _
    · have := sumN_mono f (show k ≤ n by omega)
      have e : sumN f (n + 1) = sumN f n + f n := rfl
      omega
theorem part_sum (T A : Nat) (w : Nat → Nat) : ∀ k, A * sumN (fun i => T * w i / A) k + sumN (fun i => T * w i % A) k = T * sumN w k
  | 0 => by simp [sumN]
  | k + 1 => by
    have ih := part_sum T A w k
    have e := Nat.div_add_mod (T * w k) A
    unfold sumN
    rw [Nat.mul_add, Nat.mul_add]
    omega
section
variable {T A n : Nat} {w : Nat → Nat} (hA : 0 < A) (hw : sumN w n = A)
include hA hw
theorem quo_le (k : Nat) (hk : k ≤ n) : sumN (fun i => T * w i / A) k ≤ T := by
  have e := part_sum T A w k
  have m := sumN_mono w hk
  rw [hw] at m
  have m2 := Nat.mul_le_mul_left T m
  have : A * sumN (fun i => T * w i / A) k ≤ A * T := by rw [Nat.mul_comm A T]; omega
  exact Nat.le_of_mul_le_mul_left this hA
theorem lack_eq : sumN (fun i => T * w i % A) n = A * (T - sumN (fun i => T * w i / A) n) := by
  have e := part_sum T A w n
  have h := quo_le (T := T) hA hw n (Nat.le_refl _)
  rw [hw] at e
  rw [Nat.mul_sub, Nat.mul_comm A T]
  omega
theorem lack_lt (hn : 0 < n) : T - sumN (fun i => T * w i / A) n < n := by
  have e := lack_eq (T := T) hA hw
  have h := sumN_lt (fun i => T * w i % A) A n hn (fun i _ => Nat.mod_lt _ hA)
  rw [e, Nat.mul_comm n A] at h
  exact Nat.lt_of_mul_lt_mul_left h
end
/-- The weights as natural numbers. -/
def wN (zs : List Int) (i : Nat) : Nat := (nth zs i).toNat
theorem sumTo_N (zs : List Int) (h : ∀ i, i < zs.length → 0 ≤ nth zs i) : ∀ k, k ≤ zs.length → sumTo zs k = (sumN (wN zs) k : Nat)
  | 0, _ => by simp [sumTo, sumN]
  | k + 1, hk => by
    rw [sumTo_succ zs k (by omega), sumTo_N zs h k (by omega)]
    have := h k (by omega)
    have e : sumN (wN zs) (k + 1) = sumN (wN zs) k + (nth zs k).toNat := rfl
    omega
def qN (T : Nat) (zs : List Int) (i : Nat) : Nat := T * wN zs i / zs.sum.toNat
def rN (T : Nat) (zs : List Int) (i : Nat) : Nat := T * wN zs i % zs.sum.toNat
def lackN (T : Nat) (zs : List Int) : Nat := T - sumN (qN T zs) zs.length
def okS (T : Int) (zs : List Int) : Bool := decide (zs.length ≤ 64) && decide (0 ≤ T) && decide (T ≤ 4611686018427387904) && okW zs
def resS (T : Int) (zs : List Int) : List Int := if okS T zs then shs (qN T.toNat zs) (rN T.toNat zs) zs.length (lackN T.toNat zs) else []
def errS (T : Int) (zs : List Int) : Int := if okS T zs then 0 else 1
theorem sum_N {zs : List Int} (h : okW zs = true) : zs.sum = (sumN (wN zs) zs.length : Nat) := by
  obtain ⟨h1, _, _⟩ := okW_parts h
  rw [← sumTo_all]
  exact sumTo_N zs (fun i hi => (h1 i hi).1) _ (Nat.le_refl _)
end Sh
end Go.Proofs.YtdhlmflbefnekaaDoor
