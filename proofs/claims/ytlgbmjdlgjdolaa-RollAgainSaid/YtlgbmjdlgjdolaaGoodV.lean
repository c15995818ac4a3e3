/- Cards that may all be entered, in whatever order: plain law (RollAgain). -/
import Derived.Test.YtlgbmjdlgjdolaaRollCd
namespace Go.Proofs.Ytlgbmjdlgjdolaa
def Good (cs : List Cd) : Prop := cs.length ≤ 64 ∧ (∀ i, i < cs.length → mayB (nthC cs i) = true) ∧ ∀ i j, i < cs.length → j < cs.length → (nthC cs i).name = (nthC cs j).name → i = j
theorem namedB_some {cs : List Cd} {x : ByteArray} (h : namedB cs x = true) : ∃ k, k < cs.length ∧ (nthC cs k).name = x := by
  unfold namedB at h
  rw [List.any_eq_true] at h
  obtain ⟨c, hc, he⟩ := h
  obtain ⟨k, hk, rfl⟩ := List.getElem_of_mem hc
  exact ⟨k, hk, by rw [nthC_eq hk]; simpa using he⟩
theorem Good.goodC {cs : List Cd} (h : Good cs) (i : Nat) (hi : i < cs.length) : goodC cs i = true := by
  refine goodC_yes (by have := h.1; omega) (h.2.1 i hi) ?_
  cases hn : namedB (cs.take i) (nthC cs i).name with
  | false => rfl
  | true =>
    obtain ⟨k, hk, he⟩ := namedB_some hn
    rw [List.length_take] at hk
    rw [nthC_take (by omega)] at he
    have := h.2.2 k i (by omega) hi he
    omega
theorem Good.check {cs : List Cd} (h : Good cs) : checkE cs = 0 := (firstBad_none (fun i hi => h.goodC i hi)).2
theorem good_of {cs : List Cd} (h : checkE cs = 0) (hl : cs.length ≤ 64) : Good cs := by
  have hg := check_good h
  refine ⟨hl, fun i hi => (goodC_parts (hg i hi)).1, fun i j hi hj he => ?_⟩
  have key : ∀ a b, a < cs.length → b < cs.length → a < b → (nthC cs a).name = (nthC cs b).name → False := by
    intro a b ha hb hab he
    have h2 := (goodC_parts (hg b hb)).2
    have h3 : namedB (cs.take b) (nthC cs b).name = true := namedB_yes (k := a) (by rw [List.length_take]; omega) (by rw [nthC_take hab]; exact he)
    rw [h3] at h2
    cases h2
  rcases Nat.lt_trichotomy i j with h | h | h
  · exact (key i j hi hj h he).elim
  · exact h
  · exact (key j i hj hi h he.symm).elim
theorem Good.enter {cs : List Cd} (h : Good cs) (i : Nat) (hi : i < cs.length) : answerF cs i = 0 := by
  obtain ⟨e1, _⟩ := stands_all h.check i (by omega)
  obtain ⟨g1, g2⟩ := goodC_parts (h.goodC i hi)
  rw [← e1] at g2
  exact (stands_next g1 g2).2.2
theorem Good.stands {cs : List Cd} (h : Good cs) : standsF cs cs.length = cs ∧ refusedF cs cs.length = [] := by
  obtain ⟨e1, e2⟩ := stands_all h.check cs.length (Nat.le_refl _)
  exact ⟨by rw [e1, List.take_length], e2⟩
/-- Two cards change places. -/
def swapL (cs : List Cd) (M J : Nat) : List Cd := (cs.set M (nthC cs J)).set J (nthC cs M)
def sig (M J i : Nat) : Nat := if i = J then M else if i = M then J else i
theorem swapL_len (cs : List Cd) (M J : Nat) : (swapL cs M J).length = cs.length := by simp [swapL]
theorem sig_lt {M J i n : Nat} (hM : M < n) (hJ : J < n) (hi : i < n) : sig M J i < n := by
  unfold sig
  split
  · exact hM
  · split
    · exact hJ
    · exact hi
theorem sig_inj {M J i j : Nat} (h : sig M J i = sig M J j) : i = j := by
  unfold sig at h
  split at h <;> split at h <;> try split at h
  all_goals try split at h
  all_goals omega
theorem swapL_at (cs : List Cd) {M J i : Nat} (_ : M < cs.length) (_ : J < cs.length) (hi : i < cs.length) : nthC (swapL cs M J) i = nthC cs (sig M J i) := by
  rw [nthC_eq (by rw [swapL_len]; exact hi)]
  unfold swapL sig
  rw [List.getElem_set]
  by_cases h1 : J = i
  · subst h1; simp
  · rw [if_neg h1, if_neg (fun h => h1 h.symm), List.getElem_set]
    by_cases h2 : M = i
    · subst h2; simp
    · rw [if_neg h2, if_neg (fun h => h2 h.symm), nthC_eq hi]
theorem Good.swap {cs : List Cd} (h : Good cs) (M J : Nat) (hM : M < cs.length) (hJ : J < cs.length) : Good (swapL cs M J) := by
  refine ⟨by rw [swapL_len]; exact h.1, fun i hi => ?_, fun i j hi hj he => ?_⟩
  · rw [swapL_len] at hi
    rw [swapL_at cs hM hJ hi]
    exact h.2.1 _ (sig_lt hM hJ hi)
  · rw [swapL_len] at hi hj
    rw [swapL_at cs hM hJ hi, swapL_at cs hM hJ hj] at he
    exact sig_inj (h.2.2 _ _ (sig_lt hM hJ hi) (sig_lt hM hJ hj) he)
def InL (cs ds : List Cd) : Prop := ∀ i, i < cs.length → ∃ j, j < ds.length ∧ nthC cs i = nthC ds j
theorem InL.self (cs : List Cd) : InL cs cs := fun i hi => ⟨i, hi, rfl⟩
theorem InL.swap {cs ds : List Cd} (h : InL cs ds) (M J : Nat) (hM : M < cs.length) (hJ : J < cs.length) : InL (swapL cs M J) ds := fun i hi => by
  rw [swapL_len] at hi
  rw [swapL_at cs hM hJ hi]
  exact h _ (sig_lt hM hJ hi)
/-- The card of a name. -/
def findF (cs : List Cd) (x : ByteArray) : Option Nat := (List.range cs.length).find? fun i => decide ((nthC cs i).name = x)
theorem swapL_map (l : List (Cd × Value)) (M J : Nat) (hM : M < l.length) (hJ : J < l.length) : ((l.set M l[J]).set J l[M]).map (·.1) = swapL (l.map (·.1)) M J := by
  unfold swapL
  rw [List.map_set, List.map_set, nthC_eq (by simpa using hJ), nthC_eq (by simpa using hM), List.getElem_map, List.getElem_map]
end Go.Proofs.Ytlgbmjdlgjdolaa
