/- Names: the document's test, the program's test. -/
import Derived.Test.YtlgbmjdlgjdolaaBase
import Derived.Test.YtlgbmjdlgjdolaaChecked
import Derived.Lib.Hide
import Derived.Lib.Strings
import Derived.Lib.Slices
import Derived.Deep.LoopGhost
import Derived.LoopTactic
import Derived.Outline
import Derived.WalkLawsBesides
import Derived.WalkSpells
namespace Go.Proofs.Ytlgbmjdlgjdolaa
open Go.RowKit
/-- May this byte stand in a name? -/
def okC (c : Nat) : Bool := (decide (97 ≤ c) && decide (c ≤ 122)) || (decide (48 ≤ c) && decide (c ≤ 57)) || c == 44 || c == 46 || c == 95 || c == 43 || c == 45 || c == 64 || c == 35 || c == 63
def nameB (s : ByteArray) : Bool := decide (1 ≤ s.size) && decide (s.size ≤ 31) && s.data.toList.all fun c => okC c.toNat
theorem okC_yes {c : Nat} (h : okC c = true) : (97 ≤ c ∧ c ≤ 122) ∨ (48 ≤ c ∧ c ≤ 57) ∨ c = 44 ∨ c = 46 ∨ c = 95 ∨ c = 43 ∨ c = 45 ∨ c = 64 ∨ c = 35 ∨ c = 63 := by
  simp only [okC, Bool.or_eq_true, Bool.and_eq_true, decide_eq_true_eq, beq_iff_eq] at h
  omega
theorem okC_no {c : Nat} (h : okC c = false) : ¬ (97 ≤ c ∧ c ≤ 122) ∧ ¬ (48 ≤ c ∧ c ≤ 57) ∧ c ≠ 44 ∧ c ≠ 46 ∧ c ≠ 95 ∧ c ≠ 43 ∧ c ≠ 45 ∧ c ≠ 64 ∧ c ≠ 35 ∧ c ≠ 63 := by
  rw [← Bool.not_eq_true] at h
  simp only [okC, Bool.or_eq_true, Bool.and_eq_true, decide_eq_true_eq, beq_iff_eq] at h
  omega
theorem nameB_all {s : ByteArray} (h1 : 1 ≤ s.size) (h2 : s.size ≤ 31) (h : ∀ k (hk : k < s.size), okC s[k].toNat = true) : nameB s = true := by
  unfold nameB
  rw [decide_eq_true h1, decide_eq_true h2, Bool.true_and, Bool.true_and, List.all_eq_true]
  intro c hc
  obtain ⟨k, hk, rfl⟩ := List.getElem_of_mem hc
  exact h k (by simpa using hk)
theorem nameB_one {s : ByteArray} {k : Nat} (hk : k < s.size) (h : okC s[k].toNat = false) : nameB s = false := by
  unfold nameB
  have : (s.data.toList.all fun c => okC c.toNat) = false := by
    rw [List.all_eq_false]
    exact ⟨s[k], List.mem_of_getElem (i := k) (h := by simpa using hk) rfl, by rw [h]; simp⟩
  rw [this, Bool.and_false]
theorem nameB_short {s : ByteArray} (h : s.size < 1) : nameB s = false := by
  unfold nameB
  rw [decide_eq_false (by omega)]
  rfl
theorem nameB_long {s : ByteArray} (h : 31 < s.size) : nameB s = false := by
  unfold nameB
  rw [decide_eq_false (show ¬ s.size ≤ 31 by omega), Bool.and_false]
  rfl
end Go.Proofs.Ytlgbmjdlgjdolaa
