/- What a registry has when cards are entered one by one: plain law (CardOrder). -/
import Derived.Test.YtpafbnmncioppaaSameAllC
namespace Go.Proofs.Ytpafbnmncioppaa
def standsF (l : List Cd) : Nat → List Cd
  | 0 => []
  | i + 1 => if mayB (nthC l i) && !namedB (standsF l i) (nthC l i).name then standsF l i ++ [nthC l i] else standsF l i
def refusedF (l : List Cd) : Nat → List Cd
  | 0 => []
  | i + 1 => if mayB (nthC l i) && namedB (standsF l i) (nthC l i).name then refusedF l i ++ [nthC l i] else refusedF l i
/-- The answer to the i-th. -/
def answerF (l : List Cd) (i : Nat) : Int := if mayB (nthC l i) then (if namedB (standsF l i) (nthC l i).name then 71 else 0) else 70
theorem stands_len (l : List Cd) : ∀ i, (standsF l i).length ≤ i
  | 0 => Nat.le_refl _
  | i + 1 => by
    have := stands_len l i
    unfold standsF
    split
    · simp; omega
    · omega
theorem refused_len (l : List Cd) : ∀ i, (refusedF l i).length ≤ i
  | 0 => Nat.le_refl _
  | i + 1 => by
    have := refused_len l i
    unfold refusedF
    split
    · simp; omega
    · omega
theorem stands_next {l : List Cd} {i : Nat} (h1 : mayB (nthC l i) = true) (h2 : namedB (standsF l i) (nthC l i).name = false) : standsF l (i + 1) = standsF l i ++ [nthC l i] ∧ refusedF l (i + 1) = refusedF l i ∧ answerF l i = 0 := by
  simp [standsF, refusedF, answerF, h1, h2]
theorem stands_taken {l : List Cd} {i : Nat} (h1 : mayB (nthC l i) = true) (h2 : namedB (standsF l i) (nthC l i).name = true) : standsF l (i + 1) = standsF l i ∧ refusedF l (i + 1) = refusedF l i ++ [nthC l i] ∧ answerF l i = 71 := by
  simp [standsF, refusedF, answerF, h1, h2]
theorem stands_bad {l : List Cd} {i : Nat} (h1 : mayB (nthC l i) = false) : standsF l (i + 1) = standsF l i ∧ refusedF l (i + 1) = refusedF l i ∧ answerF l i = 70 := by
  simp [standsF, refusedF, answerF, h1]
theorem nthC_left {a b : List Cd} {j : Nat} (h : j < a.length) : nthC (a ++ b) j = nthC a j := by
  unfold nthC
  simp [List.getD_eq_getElem?_getD, List.getElem?_append_left h]
theorem nthC_last (a : List Cd) (c : Cd) : nthC (a ++ [c]) a.length = c := by
  unfold nthC
  simp [List.getD_eq_getElem?_getD]
/-- What stands may be a list. -/
theorem stands_good (l : List Cd) : ∀ i, i ≤ 64 → ∀ j, j < (standsF l i).length → goodC (standsF l i) j = true
  | 0, _, j, h => by simp [standsF] at h
  | i + 1, hi, j, h => by
    have ih := stands_good l i (by omega)
    have hl := stands_len l i
    by_cases h1 : mayB (nthC l i) = true
    · by_cases h2 : namedB (standsF l i) (nthC l i).name = true
      · rw [(stands_taken h1 h2).1] at h ⊢
        exact ih j h
      · have h2 := Bool.eq_false_iff.2 h2
        rw [(stands_next h1 h2).1] at h ⊢
        by_cases hj : j < (standsF l i).length
        · have := ih j hj
          unfold goodC at this ⊢
          rw [nthC_left hj, List.take_append_of_le_length (by omega)]
          exact this
        · have hj : j = (standsF l i).length := by simp at h; omega
          subst hj
          refine goodC_yes (by omega) ?_ ?_
          · rw [nthC_last]; exact h1
          · rw [nthC_last, List.take_append_of_le_length (Nat.le_refl _), List.take_length]
            exact h2
    · rw [(stands_bad (Bool.eq_false_iff.2 h1)).1] at h ⊢
      exact ih j h
theorem stands_check (l : List Cd) {i : Nat} (h : i ≤ 64) : checkE (standsF l i) = 0 := (firstBad_none (stands_good l i h)).2
/-- Where the list may be, all stand. -/
theorem goodC_parts {cs : List Cd} {k : Nat} (h : goodC cs k = true) : mayB (nthC cs k) = true ∧ namedB (cs.take k) (nthC cs k).name = false := by
  unfold goodC at h
  simp only [Bool.and_eq_true, Bool.not_eq_true'] at h
  exact ⟨h.1.2, h.2⟩
theorem check_good {cs : List Cd} (h : checkE cs = 0) : ∀ k, k < cs.length → goodC cs k = true := by
  intro k hk
  unfold checkE at h
  split at h
  · omega
  · rename_i hn
    unfold firstBad at hn
    rw [List.find?_eq_none] at hn
    have := hn k (List.mem_range.2 hk)
    simpa using this
theorem stands_all {l : List Cd} (h : checkE l = 0) : ∀ i, i ≤ l.length → standsF l i = l.take i ∧ refusedF l i = []
  | 0, _ => ⟨by simp [standsF], rfl⟩
  | i + 1, hi => by
    obtain ⟨e1, e2⟩ := stands_all h i (by omega)
    obtain ⟨g1, g2⟩ := goodC_parts (check_good h i (by omega))
    rw [← e1] at g2
    obtain ⟨a, b, _⟩ := stands_next g1 g2
    rw [a, b, e1, e2, List.take_succ_eq_append_getElem (show i < l.length by omega), ← nthC_eq (show i < l.length by omega)]
    exact ⟨rfl, rfl⟩
theorem standsF_succ (l : List Cd) (i : Nat) : standsF l (i + 1) = if mayB (nthC l i) && !namedB (standsF l i) (nthC l i).name then standsF l i ++ [nthC l i] else standsF l i := rfl
/-- What stands only grows. -/
theorem stands_prefix (l : List Cd) (i : Nat) : ∀ d, ∃ r, standsF l (i + d) = standsF l i ++ r
  | 0 => ⟨[], by simp⟩
  | d + 1 => by
    obtain ⟨r, hr⟩ := stands_prefix l i d
    rw [show i + (d + 1) = (i + d) + 1 by omega, standsF_succ]
    split
    · exact ⟨r ++ [nthC l (i + d)], by rw [hr, List.append_assoc]⟩
    · exact ⟨r, hr⟩
/-- The look in order. -/
def greedF (l got : List Cd) : Nat → Nat
  | 0 => 0
  | i + 1 => if greedF l got i < got.length ∧ sameB (nthC l i) (nthC got (greedF l got i)) = true then greedF l got i + 1 else greedF l got i
theorem greed_le (l got : List Cd) : ∀ i, greedF l got i ≤ got.length
  | 0 => Nat.zero_le _
  | i + 1 => by
    have := greed_le l got i
    unfold greedF
    split <;> omega
theorem greed_yes {l got : List Cd} {i : Nat} (h1 : greedF l got i < got.length) (h2 : sameB (nthC l i) (nthC got (greedF l got i)) = true) : greedF l got (i + 1) = greedF l got i + 1 := by
  rw [greedF, if_pos ⟨h1, h2⟩]
theorem greed_no {l got : List Cd} {i : Nat} (h2 : sameB (nthC l i) (nthC got (greedF l got i)) = false) : greedF l got (i + 1) = greedF l got i := by
  rw [greedF, if_neg (by rw [h2]; simp)]
theorem greed_full {l got : List Cd} {i : Nat} (h : greedF l got i = got.length) : ∀ d, greedF l got (i + d) = got.length
  | 0 => h
  | d + 1 => by
    rw [show i + (d + 1) = (i + d) + 1 by omega, greedF, if_neg (by rw [greed_full h d]; omega)]
    exact greed_full h d
theorem greed_ge (l : List Cd) (n : Nat) : ∀ i, i ≤ n → (standsF l i).length ≤ greedF l (standsF l n) i
  | 0, _ => by simp [standsF]
  | i + 1, hi => by
    have ih := greed_ge l n i (by omega)
    by_cases h1 : mayB (nthC l i) = true
    · by_cases h2 : namedB (standsF l i) (nthC l i).name = true
      · rw [(stands_taken h1 h2).1]
        have : greedF l (standsF l n) i ≤ greedF l (standsF l n) (i + 1) := by
          rw [greedF]
          split <;> omega
        omega
      · have h2 := Bool.eq_false_iff.2 h2
        have e := (stands_next h1 h2).1
        obtain ⟨r, hr⟩ := stands_prefix l (i + 1) (n - (i + 1))
        rw [show i + 1 + (n - (i + 1)) = n by omega, e] at hr
        rw [e, List.length_append, List.length_singleton]
        by_cases hk : greedF l (standsF l n) i = (standsF l i).length
        · have hlt : greedF l (standsF l n) i < (standsF l n).length := by rw [hk, hr]; simp
          have hc : nthC (standsF l n) (greedF l (standsF l n) i) = nthC l i := by
            rw [hk, hr, nthC_left (by simp), nthC_last]
          rw [greed_yes hlt (by rw [hc]; exact sameB_self _), hk]
          exact Nat.le_refl _
        · have : greedF l (standsF l n) i ≤ greedF l (standsF l n) (i + 1) := by
            rw [greedF]
            split <;> omega
          omega
    · rw [(stands_bad (Bool.eq_false_iff.2 h1)).1]
      have : greedF l (standsF l n) i ≤ greedF l (standsF l n) (i + 1) := by
        rw [greedF]
        split <;> omega
      omega
theorem greed_all (l : List Cd) (n : Nat) : greedF l (standsF l n) n = (standsF l n).length :=
  Nat.le_antisymm (greed_le _ _ _) (greed_ge l n n (Nat.le_refl _))
end Go.Proofs.Ytpafbnmncioppaa
