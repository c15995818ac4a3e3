/- The plain law of the library's stable sort: the insertion sort under a test that is a total order in the order of the places, and the blocks. -/
import Derived.Test.YtdhlmflbefnekaaDoorStabV
namespace Go.Proofs.YtdhlmflbefnekaaDoor
namespace Stb
open Go.Sort
variable {α : Type} [Inhabited α] {ct lt : α → α → Bool}
theorem insInner_perm (lt : α → α → Bool) (a : Nat) : ∀ (j : Nat) (d : Array α), a ≤ j → j < d.size → PermIn a (j + 1) d (insInner lt a j d)
  | 0, d, _, _ => by unfold insInner; exact permIn_refl d _ _
  | j + 1, d, ha, hj => by
    unfold insInner
    split
    · rename_i hc
      simp only [Bool.and_eq_true, decide_eq_true_eq] at hc
      have h1 := swp_permIn d a (j + 1 + 1) (j + 1) j (by omega) (by omega) (by omega) (by omega) (by omega)
      have h2 := insInner_perm lt a j (swp d (j + 1) j) (by omega) (by rw [swp_size]; omega)
      exact permIn_trans _ _ _ _ _ h1 (permIn_mono _ _ _ _ _ _ (Nat.le_refl _) (by omega) (by rw [swp_size]; omega) h2)
    · exact permIn_refl d _ _
theorem insInner_eq (a : Nat) : ∀ (j : Nat) (d : Array α), j < d.size → (∀ k, a ≤ k → k < j → ct d[j]! d[k]! = lt d[j]! d[k]!) → insInner ct a j d = insInner lt a j d
  | 0, d, _, _ => by unfold insInner; rfl
  | j + 1, d, hj, h => by
    unfold insInner
    by_cases hc : j + 1 > a
    · rw [h j (by omega) (by omega)]
      split
      · have g := swp_get d hj (show j < d.size by omega)
        exact insInner_eq a j _ (by rw [swp_size]; omega) (fun k h1 h2 => by
          rw [g, g, if_pos rfl, if_neg (by omega), if_neg (by omega)]
          exact h k h1 (by omega))
      · rfl
    · simp [hc]
theorem out_stop (lt : α → α → Bool) (a b i : Nat) (d : Array α) (h : ¬ i < b) : insOuter lt a b i d = d := by rw [insOuter, if_neg h]
theorem out_go (lt : α → α → Bool) (a b i : Nat) (d : Array α) (h : i < b) : insOuter lt a b i d = insOuter lt a b (i + 1) (insInner lt a i d) := by
  conv => lhs; rw [insOuter, if_pos h]
theorem insOuter_eq (a b : Nat) (d0 : Array α) (hb : b ≤ d0.size) (hag : ∀ i j, a ≤ i → i < j → j < b → ct d0[j]! d0[i]! = lt d0[j]! d0[i]!) : ∀ (n i : Nat) (d : Array α), b - i = n → a < i → i ≤ b → PermIn a i d0 d → insOuter ct a b i d = insOuter lt a b i d
  | 0, i, d, hn, _, hib, _ => by
    rw [out_stop _ _ _ _ _ (by omega), out_stop _ _ _ _ _ (by omega)]
  | n + 1, i, d, hn, hai, hib, hP => by
    have hlt : i < b := by omega
    have hs : d.size = d0.size := hP.1
    rw [out_go _ _ _ _ _ hlt, out_go _ _ _ _ _ hlt]
    have he : insInner ct a i d = insInner lt a i d := insInner_eq a i d (by omega) (fun k h1 h2 => by
      rw [hP.2.1 i (Or.inr (Nat.le_refl _))]
      exact permIn_all d0 d a i (fun x => ct d0[i]! x = lt d0[i]! x) (by omega) hP (fun k h1 h2 => hag k i h1 h2 hlt) k h1 h2)
    rw [he]
    exact insOuter_eq a b d0 hb hag n (i + 1) _ (by omega) (by omega) (by omega) (permIn_trans _ _ _ _ _ (permIn_mono _ _ _ _ _ _ (Nat.le_refl _) (by omega) (by omega) hP) (insInner_perm lt a i d (by omega) (by omega)))
/-- The insertion sort under the test of the program. -/
theorem ins_holds (hS : SWO lt) (d : Array α) (a b : Nat) (hab : a ≤ b) (hb : b ≤ d.size) (hag : ∀ i j, a ≤ i → i < j → j < b → ct d[j]! d[i]! = lt d[j]! d[i]!) : PermIn a b d (insertionSort ct d a b) ∧ SortedIn lt a b (insertionSort ct d a b) := by
  have he : insertionSort ct d a b = insertionSort lt d a b := by
    unfold insertionSort
    by_cases h : a < b
    · exact insOuter_eq a b d hb hag _ (a + 1) d rfl (by omega) (by omega) (permIn_refl d _ _)
    · rw [out_stop _ _ _ _ _ (by omega), out_stop _ _ _ _ _ (by omega)]
  rw [he]
  exact insertionSort_holds hS d a b hab hb

theorem div_is {B i q : Nat} (hB : 0 < B) : i / B = q ↔ q * B ≤ i ∧ i < q * B + B := by
  have h1 := Nat.div_add_mod i B
  have h2 := Nat.mod_lt i hB
  constructor
  · intro h
    rw [h, Nat.mul_comm] at h1
    omega
  · intro ⟨h3, h4⟩
    exact Nat.div_eq_of_lt_le h3 (by rw [Nat.succ_mul]; exact h4)
theorem div_up {B i j : Nat} (h : i / B = j / B) : i / (2 * B) = j / (2 * B) := by
  rw [Nat.mul_comm, ← Nat.div_div_eq_div_mul, ← Nat.div_div_eq_div_mul, h]
/-- Blocks of B are sorted below a, and nothing is turned from a on. -/
structure In1 (lt : α → α → Bool) (B : Nat) (d dk : Array α) (a : Nat) : Prop where
  mul : ∃ q, a = q * B
  perm : PermIn 0 d.size d dk
  orig : ∀ i, i < d.size → ∃ k, k < d.size ∧ k / B = i / B ∧ dk[i]! = d[k]!
  srt : ∀ i j, i < j → j < a → i / B = j / B → lt dk[j]! dk[i]! = false
  same : ∀ i : Nat, a ≤ i → dk[i]! = d[i]!
structure Done (lt : α → α → Bool) (B : Nat) (d dk : Array α) : Prop where
  perm : PermIn 0 d.size d dk
  orig : ∀ i, i < d.size → ∃ k, k < d.size ∧ k / B = i / B ∧ dk[i]! = d[k]!
  srt : ∀ i j, i < j → j < d.size → i / B = j / B → lt dk[j]! dk[i]! = false
theorem In1.start (B : Nat) (d : Array α) : In1 lt B d d 0 := ⟨⟨0, by simp⟩, permIn_refl d _ _, fun i hi => ⟨i, hi, rfl, rfl⟩, fun i j h1 h2 => by omega, fun i _ => rfl⟩
theorem In1.agree {B : Nat} {d dk : Array α} {a : Nat} (h : In1 lt B d dk a) (hag : ∀ i j, i < j → j < d.size → ct d[j]! d[i]! = lt d[j]! d[i]!) {b : Nat} (hb : b ≤ d.size) : ∀ i j, a ≤ i → i < j → j < b → ct dk[j]! dk[i]! = lt dk[j]! dk[i]! := by
  intro i j h1 h2 h3
  rw [h.same i h1, h.same j (by omega)]
  exact hag i j h2 (by omega)
/-- What one more part, sorted, comes to. -/
theorem In1.more {B : Nat} {d dk dk' : Array α} {a b : Nat} (hB : 0 < B) (h : In1 lt B d dk a) (hab : a ≤ b) (hb : b ≤ d.size) (hbB : b ≤ a + B) (hP : PermIn a b dk dk') (hs : SortedIn lt a b dk') :
    PermIn 0 d.size d dk' ∧ (∀ i, i < d.size → ∃ k, k < d.size ∧ k / B = i / B ∧ dk'[i]! = d[k]!) ∧ (∀ i j, i < j → j < b → i / B = j / B → lt dk'[j]! dk'[i]! = false) ∧ ∀ i : Nat, b ≤ i → dk'[i]! = d[i]! := by
  obtain ⟨q, hq⟩ := h.mul
  have hsz : dk.size = d.size := h.perm.1
  refine ⟨permIn_trans _ _ _ _ _ h.perm (permIn_mono _ _ _ _ _ _ (Nat.zero_le _) hb (by omega) hP), ?_, ?_, fun i hi => by rw [hP.2.1 i (Or.inr hi), h.same i (by omega)]⟩
  · intro i hi
    by_cases c : a ≤ i ∧ i < b
    · have := permIn_all dk dk' a b (fun x => ∃ k, k < d.size ∧ k / B = i / B ∧ x = d[k]!) (by omega) hP (fun k h1 h2 => ⟨k, by omega, by
        rw [(div_is hB).2 ⟨show q * B ≤ k by omega, by omega⟩, (div_is hB).2 ⟨show q * B ≤ i by omega, by omega⟩], h.same k h1⟩) i c.1 c.2
      exact this
    · rw [hP.2.1 i (by omega)]
      exact h.orig i hi
  · intro i j hij hj hd
    by_cases c : a ≤ j
    · by_cases c2 : a ≤ i
      · exact hs i j c2 hij hj
      · exfalso
        have h1 := ((div_is hB).1 (rfl : i / B = i / B))
        have h2 : j / B = q := (div_is hB).2 ⟨by omega, by omega⟩
        rw [hd, h2] at h1
        omega
    · rw [hP.2.1 i (by omega), hP.2.1 j (by omega)]
      exact h.srt i j hij (by omega) hd
theorem In1.step {B : Nat} {d dk dk' : Array α} {a : Nat} (hB : 0 < B) (h : In1 lt B d dk a) (hb : a + B ≤ d.size) (hP : PermIn a (a + B) dk dk') (hs : SortedIn lt a (a + B) dk') : In1 lt B d dk' (a + B) := by
  obtain ⟨h1, h2, h3, h4⟩ := h.more hB (by omega) hb (Nat.le_refl _) hP hs
  obtain ⟨q, hq⟩ := h.mul
  exact ⟨⟨q + 1, by rw [hq, Nat.succ_mul]⟩, h1, h2, h3, h4⟩
theorem In1.last {B : Nat} {d dk dk' : Array α} {a : Nat} (hB : 0 < B) (h : In1 lt B d dk a) (ha : a ≤ d.size) (hb : d.size < a + B) (hP : PermIn a d.size dk dk') (hs : SortedIn lt a d.size dk') : Done lt B d dk' := by
  obtain ⟨h1, h2, h3, _⟩ := h.more hB ha (Nat.le_refl _) (by omega) hP hs
  exact ⟨h1, h2, h3⟩
theorem Done.all {B : Nat} {d dk : Array α} (h : Done lt B d dk) (hn : d.size ≤ B) : SortedIn lt 0 d.size dk := fun i j _ hij hj => h.srt i j hij hj (by
  rw [Nat.div_eq_of_lt (show i < B by omega), Nat.div_eq_of_lt (show j < B by omega)])
/-- Blocks of 2B below a, blocks of B from there on. -/
structure Mg (lt : α → α → Bool) (B : Nat) (d dk : Array α) (a : Nat) : Prop where
  mul : ∃ q, a = q * (2 * B)
  perm : PermIn 0 d.size d dk
  orig2 : ∀ i, i < d.size → ∃ k, k < d.size ∧ k / (2 * B) = i / (2 * B) ∧ dk[i]! = d[k]!
  orig1 : ∀ i, a ≤ i → i < d.size → ∃ k, k < d.size ∧ k / B = i / B ∧ dk[i]! = d[k]!
  srt2 : ∀ i j, i < j → j < a → i / (2 * B) = j / (2 * B) → lt dk[j]! dk[i]! = false
  srt1 : ∀ i j, a ≤ i → i < j → j < d.size → i / B = j / B → lt dk[j]! dk[i]! = false
theorem Done.start {B : Nat} {d dk : Array α} (h : Done lt B d dk) : Mg lt B d dk 0 :=
  ⟨⟨0, by simp⟩, h.perm, fun i hi => by
    obtain ⟨k, h1, h2, h3⟩ := h.orig i hi
    exact ⟨k, h1, div_up h2, h3⟩, fun i _ hi => h.orig i hi, fun i j h1 h2 => by omega, fun i j _ h1 h2 h3 => h.srt i j h1 h2 h3⟩
theorem Mg.blk {B : Nat} {d dk : Array α} {a : Nat} (hB : 0 < B) (h : Mg lt B d dk a) : ∃ q, a = q * B ∧ (∀ i, a ≤ i → i < a + B → i / B = q) ∧ (∀ i, a + B ≤ i → i < a + 2 * B → i / B = q + 1) ∧ ∀ i, a ≤ i → i < a + 2 * B → i / (2 * B) * (2 * B) = a := by
  obtain ⟨q, hq⟩ := h.mul
  have e : a = (2 * q) * B := by rw [hq, Nat.mul_assoc, Nat.mul_left_comm]
  refine ⟨2 * q, e, fun i h1 h2 => (div_is hB).2 ⟨by omega, by omega⟩, fun i h1 h2 => (div_is hB).2 ⟨by rw [Nat.succ_mul]; omega, by rw [Nat.succ_mul]; omega⟩, fun i h1 h2 => ?_⟩
  rw [(div_is (by omega)).2 ⟨show q * (2 * B) ≤ i by omega, by omega⟩, hq]
theorem Mg.halves {B : Nat} {d dk : Array α} {a b : Nat} (hB : 0 < B) (h : Mg lt B d dk a) (hag : ∀ i j, i < j → j < d.size → ct d[j]! d[i]! = lt d[j]! d[i]!) (hb1 : a + B < b) (hb2 : b ≤ a + 2 * B) (hb3 : b ≤ d.size) : Halves ct lt a (a + B) b dk := by
  obtain ⟨q, _, g1, g2, _⟩ := h.blk hB
  refine ⟨fun i j h1 h2 h3 => h.srt1 i j h1 h2 (by omega) (by rw [g1 i h1 (by omega), g1 j (by omega) h3]), fun i j h1 h2 h3 => h.srt1 i j (by omega) h2 (by omega) (by rw [g2 i h1 (by omega), g2 j (by omega) (by omega)]), fun i j h1 h2 h3 h4 => ?_⟩
  obtain ⟨x, x1, x2, x3⟩ := h.orig1 i h1 (by omega)
  obtain ⟨y, y1, y2, y3⟩ := h.orig1 j (by omega) (by omega)
  rw [x3, y3]
  rw [g1 i h1 h2] at x2
  rw [g2 j h3 (by omega)] at y2
  have u := (div_is hB).1 x2
  have v := (div_is hB).1 y2
  rw [Nat.succ_mul] at v
  exact hag x y (by omega) y1
theorem Mg.more {B : Nat} {d dk dk' : Array α} {a b : Nat} (hB : 0 < B) (h : Mg lt B d dk a) (hb2 : b ≤ a + 2 * B) (hb3 : b ≤ d.size) (hP : PermIn a b dk dk') (hs : SortedIn lt a b dk') :
    PermIn 0 d.size d dk' ∧ (∀ i, i < d.size → ∃ k, k < d.size ∧ k / (2 * B) = i / (2 * B) ∧ dk'[i]! = d[k]!) ∧ (∀ i j, i < j → j < b → i / (2 * B) = j / (2 * B) → lt dk'[j]! dk'[i]! = false) := by
  obtain ⟨q, hq, g1, g2, g3⟩ := h.blk hB
  have hB2 : 0 < 2 * B := by omega
  have hsz : dk.size = d.size := h.perm.1
  have g4 : ∀ i, a ≤ i → i < b → ∀ j, a ≤ j → j < b → i / (2 * B) = j / (2 * B) := fun i h1 h2 j h3 h4 => by
    have u := g3 i h1 (by omega)
    have v := g3 j h3 (by omega)
    exact Nat.eq_of_mul_eq_mul_right hB2 (u.trans v.symm)
  refine ⟨permIn_trans _ _ _ _ _ h.perm (permIn_mono _ _ _ _ _ _ (Nat.zero_le _) hb3 (by omega) hP), ?_, ?_⟩
  · intro i hi
    by_cases c : a ≤ i ∧ i < b
    · exact permIn_all dk dk' a b (fun x => ∃ k, k < d.size ∧ k / (2 * B) = i / (2 * B) ∧ x = d[k]!) (by omega) hP (fun t h1 h2 => by
        obtain ⟨k, k1, k2, k3⟩ := h.orig2 t (by omega)
        exact ⟨k, k1, k2.trans (g4 t h1 h2 i c.1 c.2), k3⟩) i c.1 c.2
    · rw [hP.2.1 i (by omega)]
      exact h.orig2 i hi
  · intro i j hij hj hd
    by_cases c : a ≤ j
    · by_cases c2 : a ≤ i
      · exact hs i j c2 hij hj
      · exfalso
        have u := g3 j c (by omega)
        rw [← hd] at u
        have := Nat.div_mul_le_self i (2 * B)
        omega
    · rw [hP.2.1 i (by omega), hP.2.1 j (by omega)]
      exact h.srt2 i j hij (by omega) hd
theorem Mg.step {B : Nat} {d dk dk' : Array α} {a : Nat} (hB : 0 < B) (h : Mg lt B d dk a) (hb : a + 2 * B ≤ d.size) (hP : PermIn a (a + 2 * B) dk dk') (hs : SortedIn lt a (a + 2 * B) dk') : Mg lt B d dk' (a + 2 * B) := by
  obtain ⟨h1, h2, h3⟩ := h.more hB (Nat.le_refl _) hb hP hs
  obtain ⟨q, hq⟩ := h.mul
  refine ⟨⟨q + 1, by rw [hq]; exact (Nat.succ_mul q (2 * B)).symm⟩, h1, h2, fun i hi hi2 => ?_, h3, fun i j g1 g2 g3 g4 => ?_⟩
  · rw [hP.2.1 i (Or.inr hi)]
    exact h.orig1 i (by omega) hi2
  · rw [hP.2.1 i (Or.inr g1), hP.2.1 j (Or.inr (by omega))]
    exact h.srt1 i j (by omega) g2 g3 g4
theorem Mg.last {B : Nat} {d dk dk' : Array α} {a : Nat} (hB : 0 < B) (h : Mg lt B d dk a) (hn : d.size < a + 2 * B) (hP : PermIn a d.size dk dk') (hs : SortedIn lt a d.size dk') : Done lt (2 * B) d dk' := by
  obtain ⟨h1, h2, h3⟩ := h.more hB (by omega) (Nat.le_refl _) hP hs
  exact ⟨h1, h2, h3⟩
theorem Mg.none {B : Nat} {d dk : Array α} {a : Nat} (hB : 0 < B) (h : Mg lt B d dk a) (hn : d.size ≤ a + B) : Done lt (2 * B) d dk := by
  obtain ⟨q, _, g1, _⟩ := h.blk hB
  exact h.last hB (by omega) (permIn_refl dk _ _) (fun i j h1 h2 h3 => h.srt1 i j h1 h2 h3 (by rw [g1 i h1 (by omega), g1 j (by omega) (by omega)]))
end Stb
end Go.Proofs.YtdhlmflbefnekaaDoor
