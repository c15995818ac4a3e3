/- The document's order: insertion by hand comes to the sorted list. -/
import Derived.Test.YtdhlmflbefnekaaDoorOrderD
namespace Go.Proofs.YtdhlmflbefnekaaDoor
open Go.RowKit
theorem ext_nth {a b : List Int} (h : a.length = b.length) (h2 : ∀ i, i < a.length → nth a i = nth b i) : a = b := by
  apply List.ext_getElem h
  intro i h3 h4
  have := h2 i h3
  rwa [nth_eq h3, nth_eq h4] at this
theorem nth_range (n : Nat) (f : Nat → Int) (i : Nat) (h : i < n) : nth ((List.range n).map f) i = f i := by simp [nth, List.getD, h]
theorem nth_out {l : List Int} {i : Nat} (h : l.length ≤ i) : nth l i = 0 := by simp [nth, List.getD_eq_getElem?_getD, List.getElem?_eq_none h]
theorem nth_app_l (a b : List Int) (i : Nat) (h : i < a.length) : nth (a ++ b) i = nth a i := by simp [nth, List.getD_eq_getElem?_getD, List.getElem?_append, h]
/-- Where x goes in, looked for from k down. -/
def posD (down : Bool) (out : List Int) (x : Int) : Nat → Nat
  | 0 => 0
  | k + 1 => if gtD down (nth out k) x then posD down out x k else k + 1
def insD (down : Bool) (out : List Int) (x : Int) : List Int := out.take (posD down out x out.length) ++ x :: out.drop (posD down out x out.length)
def accD (down : Bool) (zs : List Int) : Nat → List Int
  | 0 => []
  | k + 1 => insD down (accD down zs k) (nth zs k)
theorem posD_le (down : Bool) (out : List Int) (x : Int) : ∀ k, posD down out x k ≤ k
  | 0 => Nat.le_refl _
  | k + 1 => by
    unfold posD
    split
    · have := posD_le down out x k; omega
    · exact Nat.le_refl _
theorem posD_hi (down : Bool) (out : List Int) (x : Int) : ∀ k i, posD down out x k ≤ i → i < k → gtD down (nth out i) x = true
  | 0, i, _, h => by omega
  | k + 1, i, h1, h2 => by
    unfold posD at h1
    split at h1
    · rename_i hg
      by_cases e : i = k
      · subst e; exact hg
      · exact posD_hi down out x k i h1 (by omega)
    · omega
theorem posD_lo (down : Bool) (out : List Int) (x : Int) : ∀ k, posD down out x k = 0 ∨ gtD down (nth out (posD down out x k - 1)) x = false
  | 0 => .inl rfl
  | k + 1 => by
    unfold posD
    split
    · exact posD_lo down out x k
    · rename_i hg
      exact .inr (by simpa using hg)
def leD (down : Bool) (x y : Int) : Prop := (!gtD down x y) = true
theorem leD_iff (down : Bool) (x y : Int) : leD down x y ↔ if down then y ≤ x else x ≤ y := by
  unfold leD gtD
  cases down <;> simp
theorem insD_len (down : Bool) (out : List Int) (x : Int) : (insD down out x).length = out.length + 1 := by
  have := posD_le down out x out.length
  simp [insD]; omega
theorem insD_perm (down : Bool) (out : List Int) (x : Int) : (insD down out x).Perm (x :: out) := by
  unfold insD
  refine List.perm_middle.trans ?_
  rw [List.take_append_drop]
theorem insD_sorted (down : Bool) (out : List Int) (x : Int) (h : out.Pairwise (leD down)) : (insD down out x).Pairwise (leD down) := by
  unfold insD
  have hle := posD_le down out x out.length
  have hhi := posD_hi down out x out.length
  have hlo := posD_lo down out x out.length
  generalize posD down out x out.length = k at *
  have h' := h
  rw [← List.take_append_drop k out, List.pairwise_append] at h'
  obtain ⟨h1, h2, h3⟩ := h'
  rw [List.pairwise_iff_getElem] at h
  have ha : ∀ a ∈ out.take k, leD down a x := by
    intro a ha
    obtain ⟨i, hi, rfl⟩ := List.getElem_of_mem ha
    have hik : i < k := by simp at hi; omega
    have hio : i < out.length := by omega
    rw [List.getElem_take]
    rcases hlo with e | e
    · omega
    · have e2 : leD down (nth out (k - 1)) x := by unfold leD; rw [e]; rfl
      by_cases c : i = k - 1
      · subst c; rwa [nth_eq hio] at e2
      · have := h i (k - 1) hio (by omega) (by omega)
        rw [nth_eq (show k - 1 < out.length by omega)] at e2
        rw [leD_iff] at *
        cases down <;> simp at * <;> omega
  have hb : ∀ b ∈ out.drop k, leD down x b := by
    intro b hb
    obtain ⟨i, hi, rfl⟩ := List.getElem_of_mem hb
    rw [List.getElem_drop]
    have hio : k + i < out.length := by simp at hi; omega
    have := hhi (k + i) (by omega) hio
    rw [nth_eq hio] at this
    rw [leD_iff]
    unfold gtD at this
    cases down <;> simp at * <;> omega
  rw [List.pairwise_append, List.pairwise_cons]
  refine ⟨h1, ⟨hb, h2⟩, fun a ha' b hb' => ?_⟩
  rcases List.mem_cons.1 hb' with e | e
  · rw [e]; exact ha a ha'
  · exact h3 a ha' b e
theorem accD_perm (down : Bool) (zs : List Int) : ∀ k, k ≤ zs.length → (accD down zs k).Perm (zs.take k)
  | 0, _ => by simp [accD]
  | k + 1, h => by
    unfold accD
    refine (insD_perm down _ _).trans ?_
    rw [List.take_succ_eq_append_getElem (show k < zs.length by omega), nth_eq (show k < zs.length by omega)]
    exact ((accD_perm down zs k (by omega)).cons _).trans (List.perm_append_singleton _ _).symm
theorem accD_sorted (down : Bool) (zs : List Int) : ∀ k, (accD down zs k).Pairwise (leD down)
  | 0 => List.Pairwise.nil
  | k + 1 => insD_sorted down _ _ (accD_sorted down zs k)
theorem accD_len (down : Bool) (zs : List Int) : ∀ k, (accD down zs k).length = k
  | 0 => rfl
  | k + 1 => by unfold accD; rw [insD_len, accD_len down zs k]
theorem accD_rng (down : Bool) (zs : List Int) (h : ∀ k, k < zs.length → 0 ≤ nth zs k ∧ nth zs k < 20) (k : Nat) (hk : k ≤ zs.length) (i : Nat) (hi : i < k) : 0 ≤ nth (accD down zs k) i ∧ nth (accD down zs k) i < 20 := by
  have hm : nth (accD down zs k) i ∈ zs.take k := (accD_perm down zs k hk).mem_iff.1 (nth_mem (by rw [accD_len]; exact hi))
  obtain ⟨j, hj, e⟩ := List.getElem_of_mem (List.mem_of_mem_take hm)
  rw [← e, ← nth_eq hj]
  exact h j hj
theorem accD_all (down : Bool) (zs : List Int) : accD down zs zs.length = ordV down zs := by
  unfold ordV
  have hp := accD_perm down zs zs.length (Nat.le_refl _)
  rw [List.take_length] at hp
  refine List.Perm.eq_of_pairwise (le := leD down) ?_ (accD_sorted down zs _) ?_ (hp.trans (List.mergeSort_perm _ _).symm)
  · intro a b _ _ h1 h2
    rw [leD_iff] at h1 h2
    cases down <;> simp at h1 h2 <;> omega
  · refine List.pairwise_mergeSort ?_ ?_ zs
    · intro a b c h1 h2
      have h1' : leD down a b := h1
      have h2' : leD down b c := h2
      show leD down a c
      rw [leD_iff] at *
      cases down <;> simp at * <;> omega
    · intro a b
      cases down <;> simp [gtD] <;> omega
/-- The cells while those behind j are moved up. -/
def sh (out : List Int) (j : Nat) : List Int := (List.range (out.length + 1)).map fun p => if j < p then nth out (p - 1) else nth out p
theorem sh_len (out : List Int) (j : Nat) : (sh out j).length = out.length + 1 := by simp [sh]
theorem sh_at (out : List Int) (j p : Nat) (h : p < out.length + 1) : nth (sh out j) p = if j < p then nth out (p - 1) else nth out p := nth_range _ _ _ h
theorem sh_start (out : List Int) : sh out out.length = out ++ [0] := by
  refine ext_nth (by simp [sh]) (fun i hi => ?_)
  rw [sh_len] at hi
  rw [sh_at _ _ _ hi, if_neg (by omega)]
  by_cases c : i < out.length
  · rw [nth_app_l _ _ _ c]
  · obtain rfl : i = out.length := by omega
    rw [nth_out (Nat.le_refl _)]
    simp [nth, List.getD_eq_getElem?_getD, List.getElem?_append]
theorem sh_step (out : List Int) (j : Nat) (hj : j + 1 < out.length + 1) : (sh out (j + 1)).set (j + 1) (nth out j) = sh out j := by
  refine ext_nth (by simp [sh]) (fun i hi => ?_)
  rw [List.length_set, sh_len] at hi
  rw [nth_set _ _ _ _ (by rw [sh_len]; exact hj), sh_at _ _ _ hi, sh_at _ _ _ hi]
  by_cases c : i = j + 1
  · subst c; simp
  · rw [if_neg c]
    by_cases c2 : j + 1 < i
    · rw [if_pos c2, if_pos (by omega)]
    · rw [if_neg c2, if_neg (by omega)]
theorem sh_end (out : List Int) (k : Nat) (x : Int) (hk : k ≤ out.length) : (sh out k).set k x = out.take k ++ x :: out.drop k := by
  refine ext_nth (by simp [sh]; omega) (fun i hi => ?_)
  rw [List.length_set, sh_len] at hi
  rw [nth_set _ _ _ _ (by rw [sh_len]; omega), sh_at _ _ _ hi]
  have ht : (out.take k).length = k := by simp; omega
  by_cases c : i = k
  · subst c
    rw [if_pos rfl]
    simp [nth, List.getD_eq_getElem?_getD, List.getElem?_append, ht]
  · rw [if_neg c]
    by_cases c2 : k < i
    · rw [if_pos c2]
      simp only [nth, List.getD_eq_getElem?_getD, List.getElem?_append, ht]
      rw [if_neg (by omega)]
      obtain ⟨q, hq⟩ : ∃ q, i - k = q + 1 := ⟨i - k - 1, by omega⟩
      rw [hq, List.getElem?_cons_succ, List.getElem?_drop]
      congr 2; omega
    · rw [if_neg c2, nth_app_l _ _ _ (by omega)]
      simp only [nth, List.getD_eq_getElem?_getD, List.getElem?_take]
      rw [if_pos (by omega)]
end Go.Proofs.YtdhlmflbefnekaaDoor
