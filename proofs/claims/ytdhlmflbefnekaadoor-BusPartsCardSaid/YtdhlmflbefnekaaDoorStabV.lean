/- The plain law of the library's stable sort: exchanges of ranges, rotations, the merge in place, and blocks that grow. -/
import Derived.Sort.LotA
namespace Go.Proofs.YtdhlmflbefnekaaDoor
namespace Stb
open Go.Sort
variable {α : Type} [Inhabited α]

/-- 'i' places from a on exchanged with those from b on. -/
def SwR (d dk : Array α) (a b i : Nat) : Prop := dk.size = d.size ∧ ∀ k, dk[k]! = if a ≤ k ∧ k < a + i then d[b + (k - a)]! else if b ≤ k ∧ k < b + i then d[a + (k - b)]! else d[k]!
theorem SwR.start (d : Array α) (a b : Nat) : SwR d d a b 0 := ⟨rfl, fun k => by rw [if_neg (by omega), if_neg (by omega)]⟩
theorem SwR.step {d dk : Array α} {a b i n : Nat} (h : SwR d dk a b i) (hi : i < n) (hab : a + n ≤ b) (hb : b + n ≤ d.size) : SwR d (swp dk (a + i) (b + i)) a b (i + 1) := by
  refine ⟨by rw [swp_size, h.1], fun k => ?_⟩
  rw [swp_get dk (by rw [h.1]; omega) (by rw [h.1]; omega)]
  by_cases e1 : k = b + i
  · subst e1
    rw [if_pos rfl, if_neg (by omega), if_pos (by omega), h.2, if_neg (by omega), if_neg (by omega)]
    congr 1; omega
  · rw [if_neg e1]
    by_cases e2 : k = a + i
    · subst e2
      rw [if_pos rfl, if_pos (by omega), h.2, if_neg (by omega), if_neg (by omega)]
      congr 1; omega
    · rw [if_neg e2, h.2]
      repeat' split
      all_goals first | rfl | (exfalso; omega) | (congr 1; omega)

/-- What lay in [a, m) lies behind what lay in [m, b). -/
def Rot (d e : Array α) (a m b : Nat) : Prop := e.size = d.size ∧ ∀ k, e[k]! = if a ≤ k ∧ k < a + (b - m) then d[m + (k - a)]! else if a + (b - m) ≤ k ∧ k < b then d[k - (b - m)]! else d[k]!
theorem Rot.ex (d : Array α) (a m b : Nat) (h1 : a ≤ m) (h2 : m ≤ b) (h3 : b ≤ d.size) : ∃ e, Rot d e a m b := by
  refine ⟨((List.range d.size).map fun k => if a ≤ k ∧ k < a + (b - m) then d[m + (k - a)]! else if a + (b - m) ≤ k ∧ k < b then d[k - (b - m)]! else d[k]!).toArray, by simp, fun k => ?_⟩
  by_cases hk : k < d.size
  · rw [getElem!_def, List.getElem?_toArray, List.getElem?_map, List.getElem?_range hk]
    rfl
  · rw [getElem!_def, List.getElem?_toArray, List.getElem?_eq_none (by simpa using Nat.le_of_not_lt hk), if_neg (by omega), if_neg (by omega), getElem!_def, Array.getElem?_eq_none (by omega)]
theorem ext_of {d e : Array α} (hs : d.size = e.size) (h : ∀ k : Nat, d[k]! = e[k]!) : d = e := by
  apply Array.ext hs
  intro k h1 h2
  have := h k
  rwa [getElem!_pos d k h1, getElem!_pos e k h2] at this
/-- The rotation is there already where one part is empty. -/
theorem Rot.none_l (d : Array α) (m b : Nat) : Rot d d m m b := ⟨rfl, fun k => by
  by_cases c1 : m ≤ k ∧ k < m + (b - m)
  · rw [if_pos c1]; congr 1; omega
  · rw [if_neg c1, if_neg (by omega)]⟩
theorem Rot.none_r (d : Array α) (a m : Nat) : Rot d d a m m := ⟨rfl, fun k => by
  rw [if_neg (by omega)]
  by_cases c2 : a + (m - m) ≤ k ∧ k < m
  · rw [if_pos c2]; congr 1; omega
  · rw [if_neg c2]⟩
/-- One round of the rotation, the left part the longer. -/
theorem Rot.left {dk dk' e : Array α} {m i j : Nat} (h : Rot dk e (m - i) m (m + j)) (hw : SwR dk dk' (m - i) m j) (hij : j < i) (him : i ≤ m) : Rot dk' e (m - (i - j)) m (m + j) := by
  refine ⟨by rw [h.1, hw.1], fun k => ?_⟩
  rw [h.2 k]
  simp only [hw.2]
  repeat' split
  all_goals first | rfl | (exfalso; omega) | (congr 1; omega)
/-- One round of the rotation, the right part no shorter. -/
theorem Rot.right {dk dk' e : Array α} {m i j : Nat} (h : Rot dk e (m - i) m (m + j)) (hw : SwR dk dk' (m - i) (m + j - i) i) (hij : i < j) (him : i ≤ m) : Rot dk' e (m - i) m (m + (j - i)) := by
  refine ⟨by rw [h.1, hw.1], fun k => ?_⟩
  rw [h.2 k]
  simp only [hw.2]
  repeat' split
  all_goals first | rfl | (exfalso; omega) | (congr 1; omega)
theorem Rot.last {dk dk' e : Array α} {m i : Nat} (h : Rot dk e (m - i) m (m + i)) (hw : SwR dk dk' (m - i) m i) (him : i ≤ m) : dk' = e := by
  refine ext_of (by rw [h.1, hw.1]) fun k => ?_
  rw [h.2 k, hw.2 k]
  repeat' split
  all_goals first | rfl | (exfalso; omega) | (congr 1; omega)
/-- The first place carried up by one. -/
theorem Rot.up {d dk : Array α} {a k : Nat} (h : Rot d dk a (a + 1) (k + 1)) (hak : a ≤ k) (hk : k + 1 < d.size) : Rot d (swp dk k (k + 1)) a (a + 1) (k + 1 + 1) := by
  refine ⟨by rw [swp_size, h.1], fun t => ?_⟩
  rw [swp_get dk (by rw [h.1]; omega) (by rw [h.1]; omega)]
  by_cases e1 : t = k + 1
  · subst e1
    rw [if_pos rfl, if_neg (by omega), if_pos (by omega), h.2, if_neg (by omega), if_pos (by omega)]
    congr 1; omega
  · rw [if_neg e1]
    by_cases e2 : t = k
    · subst e2
      rw [if_pos rfl, if_pos (by omega), h.2, if_neg (by omega), if_neg (by omega)]
      congr 1; omega
    · rw [if_neg e2, h.2]
      repeat' split
      all_goals first | rfl | (exfalso; omega) | (congr 1; omega)
/-- The last place carried down by one. -/
theorem Rot.down {d dk : Array α} {m k : Nat} (h : Rot d dk (k + 1) m (m + 1)) (hkm : k + 1 ≤ m) (hm : m < d.size) : Rot d (swp dk (k + 1) k) k m (m + 1) := by
  refine ⟨by rw [swp_size, h.1], fun t => ?_⟩
  rw [swp_get dk (by rw [h.1]; omega) (by rw [h.1]; omega)]
  by_cases e1 : t = k
  · subst e1
    rw [if_pos rfl, if_pos (by omega), h.2, if_pos (by omega)]
    congr 1; omega
  · rw [if_neg e1]
    by_cases e2 : t = k + 1
    · subst e2
      rw [if_pos rfl, if_neg (by omega), if_pos (by omega), h.2, if_neg (by omega), if_neg (by omega)]
      congr 1; omega
    · rw [if_neg e2, h.2]
      repeat' split
      all_goals first | rfl | (exfalso; omega) | (congr 1; omega)
variable {lt : α → α → Bool}
theorem join {a m b : Nat} {d : Array α} (h1 : SortedIn lt a m d) (h2 : SortedIn lt m b d) (h3 : ∀ i j, a ≤ i → i < m → m ≤ j → j < b → lt d[j]! d[i]! = false) : SortedIn lt a b d := by
  intro i j hi hij hj
  by_cases c1 : j < m
  · exact h1 i j hi hij c1
  · by_cases c2 : m ≤ i
    · exact h2 i j c2 hij hj
    · exact h3 i j hi (by omega) (by omega) hj
/-- What is asked of the two halves. -/
structure Halves (ct lt : α → α → Bool) (a m b : Nat) (d : Array α) : Prop where
  left : SortedIn lt a m d
  right : SortedIn lt m b d
  cross : ∀ i j, a ≤ i → i < m → m ≤ j → j < b → ct d[j]! d[i]! = lt d[j]! d[i]!
variable {ct : α → α → Bool}
/-- The first element goes in among the others. -/
theorem one_left (hS : SWO lt) {a i b : Nat} {d e : Array α} (H : Halves ct lt a (a + 1) b d) (hR : Rot d e a (a + 1) i) (hai : a + 1 ≤ i) (hib : i ≤ b)
    (hlo : ∀ t, a + 1 ≤ t → t < i → lt d[t]! d[a]! = true) (hhi : ∀ t, i ≤ t → t < b → lt d[t]! d[a]! = false) : SortedIn lt a b e := by
  intro p q hp hpq hq
  rw [hR.2 p, hR.2 q]
  by_cases c1 : a ≤ q ∧ q < a + (i - (a + 1))
  · rw [if_pos c1, if_pos (by omega)]
    exact H.right _ _ (by omega) (by omega) (by omega)
  · rw [if_neg c1]
    by_cases c2 : a + (i - (a + 1)) ≤ q ∧ q < i
    · rw [if_pos c2, if_pos (by omega)]
      have := hlo (a + 1 + (p - a)) (by omega) (by omega)
      have e1 : q - (i - (a + 1)) = a := by omega
      rw [e1]
      exact hS.asymmA this
    · rw [if_neg c2]
      by_cases c3 : a ≤ p ∧ p < a + (i - (a + 1))
      · rw [if_pos c3]
        exact H.right _ _ (by omega) (by omega) hq
      · rw [if_neg c3]
        by_cases c4 : a + (i - (a + 1)) ≤ p ∧ p < i
        · rw [if_pos c4]
          have e1 : p - (i - (a + 1)) = a := by omega
          rw [e1]
          exact hhi q (by omega) hq
        · rw [if_neg c4]
          exact H.right _ _ (by omega) hpq hq
/-- The last element goes in among the others. -/
theorem one_right (hS : SWO lt) {a i m : Nat} {d e : Array α} (H : Halves ct lt a m (m + 1) d) (hR : Rot d e i m (m + 1)) (hai : a ≤ i) (him : i ≤ m)
    (hlo : ∀ t, a ≤ t → t < i → lt d[m]! d[t]! = false) (hhi : ∀ t, i ≤ t → t < m → lt d[m]! d[t]! = true) : SortedIn lt a (m + 1) e := by
  intro p q hp hpq hq
  rw [hR.2 p, hR.2 q]
  by_cases c1 : i ≤ q ∧ q < i + (m + 1 - m)
  · rw [if_pos c1, if_neg (by omega), if_neg (by omega)]
    have e1 : m + (q - i) = m := by omega
    rw [e1]
    exact hlo p hp (by omega)
  · rw [if_neg c1]
    by_cases c2 : i + (m + 1 - m) ≤ q ∧ q < m + 1
    · rw [if_pos c2]
      by_cases c3 : i ≤ p ∧ p < i + (m + 1 - m)
      · rw [if_pos c3]
        have e1 : m + (p - i) = m := by omega
        rw [e1]
        exact hS.asymmA (hhi _ (by omega) (by omega))
      · rw [if_neg c3]
        by_cases c4 : i + (m + 1 - m) ≤ p ∧ p < m + 1
        · rw [if_pos c4]
          exact H.left _ _ (by omega) (by omega) (by omega)
        · rw [if_neg c4]
          exact H.left _ _ hp (by omega) (by omega)
    · rw [if_neg c2, if_neg (by omega), if_neg (by omega)]
      exact H.left _ _ hp hpq (by omega)
/-- Both parts behind the rotation: the halves of the two smaller merges, and that nothing in the upper part is less than anything in the lower. -/
theorem parts (hS : SWO lt) {a m b mid s s0 r0 : Nat} {d e : Array α} (H : Halves ct lt a m b d) (h1 : a < m) (h2 : m < b) (hmid : mid = (a + b) / 2) (hs0 : s0 = if mid < m then mid + m - b else a) (hr0 : r0 = if mid < m then mid else m)
    (hs : s0 ≤ s) (hr : s ≤ r0) (hlo : ∀ c, s0 ≤ c → c < s → ct d[mid + m - 1 - c]! d[c]! = false) (hhi : ∀ c, s ≤ c → c < r0 → ct d[mid + m - 1 - c]! d[c]! = true) (hR : Rot d e s m (mid + m - s)) :
    Halves ct lt a s mid e ∧ Halves ct lt mid (mid + m - s) b e ∧ ∀ i j, a ≤ i → i < mid → mid ≤ j → j < b → lt e[j]! e[i]! = false := by
  have k0 : a ≤ s0 ∧ s ≤ m ∧ s ≤ mid ∧ mid < b ∧ mid + m - s ≤ b ∧ m ≤ mid + m - s := by
    by_cases c : mid < m
    · rw [if_pos c] at hs0 hr0; omega
    · rw [if_neg c] at hs0 hr0; omega
  obtain ⟨k1, k2, k3, k4, k5, k6⟩ := k0
  have eA : ∀ k, k < s → e[k]! = d[k]! := fun k hk => by rw [hR.2, if_neg (by omega), if_neg (by omega)]
  have eB : ∀ k, s ≤ k → k < mid → e[k]! = d[m + (k - s)]! := fun k hk hk2 => by rw [hR.2, if_pos (by omega)]
  have eC : ∀ k, mid ≤ k → k < mid + m - s → e[k]! = d[k - (mid - s)]! := fun k hk hk2 => by
    rw [hR.2, if_neg (by omega), if_pos (by omega)]
    congr 1; omega
  have eD : ∀ k, mid + m - s ≤ k → e[k]! = d[k]! := fun k hk => by rw [hR.2, if_neg (by omega), if_neg (by omega)]
  have hlo' : ∀ c, s0 ≤ c → c < s → lt d[mid + m - 1 - c]! d[c]! = false := fun t c1 c2 => by
    have k7 : m ≤ mid + m - 1 - t ∧ mid + m - 1 - t < b := by
      by_cases c : mid < m
      · rw [if_pos c] at hs0 hr0; omega
      · rw [if_neg c] at hs0 hr0; omega
    rw [← H.cross t (mid + m - 1 - t) (by omega) (by omega) k7.1 k7.2]; exact hlo t c1 c2
  have hhi' : ∀ c, s ≤ c → c < r0 → lt d[mid + m - 1 - c]! d[c]! = true := fun t c1 c2 => by
    have k7 : t < m ∧ m ≤ mid + m - 1 - t ∧ mid + m - 1 - t < b := by
      by_cases c : mid < m
      · rw [if_pos c] at hs0 hr0; omega
      · rw [if_neg c] at hs0 hr0; omega
    rw [← H.cross t (mid + m - 1 - t) (by omega) k7.1 k7.2.1 k7.2.2]; exact hhi t c1 c2
  refine ⟨⟨?_, ?_, ?_⟩, ⟨?_, ?_, ?_⟩, ?_⟩
  · intro i j hi hij hj
    rw [eA _ hj, eA _ (by omega)]
    exact H.left _ _ hi hij (by omega)
  · intro i j hi hij hj
    rw [eB _ (by omega) hj, eB _ hi (by omega)]
    exact H.right _ _ (by omega) (by omega) (by omega)
  · intro i j hi hij hj hj2
    rw [eB _ hj hj2, eA _ hij]
    exact H.cross _ _ hi (by omega) (by omega) (by omega)
  · intro i j hi hij hj
    rw [eC _ (by omega) hj, eC _ hi (by omega)]
    exact H.left _ _ (by omega) (by omega) (by omega)
  · intro i j hi hij hj
    rw [eD _ (by omega), eD _ hi]
    exact H.right _ _ (by omega) hij hj
  · intro i j hi hij hj hj2
    rw [eD _ hj, eC _ hi hij]
    exact H.cross _ _ (by omega) (by omega) (by omega) hj2
  · intro i j hi him hj hjb
    by_cases ci : i < s
    · rw [eA _ ci]
      by_cases cj : j < mid + m - s
      · rw [eC _ hj cj]
        exact H.left _ _ hi (by omega) (by omega)
      · rw [eD _ (by omega)]
        have hlt : s0 < s := by
          by_cases c : mid < m
          · rw [if_pos c] at hs0 hr0; omega
          · rw [if_neg c] at hs0 hr0; omega
        have g1 := hlo' (s - 1) (by omega) (by omega)
        have e1 : mid + m - 1 - (s - 1) = mid + m - s := by omega
        rw [e1] at g1
        have g2 : lt d[s - 1]! d[i]! = false := by
          by_cases c : i = s - 1
          · rw [c]; exact hS.irrefl _
          · exact H.left _ _ hi (by omega) (by omega)
        have g3 : lt d[j]! d[mid + m - s]! = false := by
          by_cases c : mid + m - s = j
          · rw [c]; exact hS.irrefl _
          · exact H.right _ _ (by omega) (by omega) hjb
        exact hS.ntrans _ _ _ g3 (hS.ntrans _ _ _ g1 g2)
    · rw [eB _ (by omega) him]
      by_cases cj : j < mid + m - s
      · rw [eC _ hj cj]
        have hlt : s < r0 := by
          by_cases c : mid < m
          · rw [if_pos c] at hs0 hr0; omega
          · rw [if_neg c] at hs0 hr0; omega
        have g1 := hS.asymmA (hhi' s (Nat.le_refl _) hlt)
        have g2 : lt d[mid + m - 1 - s]! d[m + (i - s)]! = false := by
          by_cases c : m + (i - s) = mid + m - 1 - s
          · rw [c]; exact hS.irrefl _
          · exact H.right _ _ (by omega) (by omega) (by omega)
        have g3 : lt d[j - (mid - s)]! d[s]! = false := by
          by_cases c : s = j - (mid - s)
          · rw [← c]; exact hS.irrefl _
          · exact H.left _ _ (by omega) (by omega) (by omega)
        exact hS.ntrans _ _ _ g3 (hS.ntrans _ _ _ g1 g2)
      · rw [eD _ (by omega)]
        exact H.right _ _ (by omega) (by omega) hjb
end Stb
end Go.Proofs.YtdhlmflbefnekaaDoor
