/- Names: the document's test, the program's test. -/
import Derived.Test.YtnkababhgloclaaBase
import Derived.Test.YtnkababhgloclaaChecked
import Derived.Lib.Hide
import Derived.Lib.Strings
import Derived.Lib.Slices
import Derived.Deep.LoopGhost
import Derived.LoopTactic
import Derived.Outline
import Derived.WalkLawsBesides
import Derived.WalkSpells
namespace Go.Proofs.Ytnkababhgloclaa
open Go.RowKit
/-- May this byte stand in a name? -/
def okC (c : Nat) : Bool := (decide (97 ≤ c) && decide (c ≤ 122)) || (decide (48 ≤ c) && decide (c ≤ 57)) || c == 44 || c == 46 || c == 95 || c == 43 || c == 45 || c == 64 || c == 35 || c == 63
def nameB (s : ByteArray) : Bool := decide (1 ≤ s.size) && decide (s.size ≤ 31) && s.data.toList.all fun c => okC c.toNat
theorem okC_yes {c : Nat} (h : okC c = true) : (97 ≤ c ∧ c ≤ 122) ∨ (48 ≤ c ∧ c ≤ 57) ∨ c = 44 ∨ c = 46 ∨ c = 95 ∨ c = 43 ∨ c = 45 ∨ c = 64 ∨ c = 35 ∨ c = 63 := by
  simp only [okC, Bool.or_eq_true, Bool.and_eq_true, decide_eq_true_eq, beq_iff_eq] at h
  omega
theorem okC_no {c : Nat} (h : okC c = false) : ¬ (97 ≤ c ∧ c ≤ 122) ∧ ¬ (48 ≤ c ∧ c ≤ 57) ∧ c ≠ 44 ∧ c ≠ 46 ∧ c ≠ 95 ∧ c ≠ 43 ∧ c ≠ 45 ∧ c ≠ 64 ∧ c ≠ 35 ∧ c ≠ 63 := by
  rw [← Bool.not_eq_true] at h
  simp only [okC, Bool.or_eq_true, Bool.and_eq_true, decide_eq_true_eq, beq_iff_eq] at h
  omega
theorem nameB_all {s : ByteArray} (h1 : 1 ≤ s.size) (h2 : s.size ≤ 31) (h : ∀ k (hk : k < s.size), okC s[k].toNat = true) : nameB s = true := by
  unfold nameB
  rw [decide_eq_true h1, decide_eq_true h2, Bool.true_and, Bool.true_and, List.all_eq_true]
  intro c hc
  obtain ⟨k, hk, rfl⟩ := List.getElem_of_mem hc
  exact h k (by simpa using hk)
theorem nameB_one {s : ByteArray} {k : Nat} (hk : k < s.size) (h : okC s[k].toNat = false) : nameB s = false := by
  unfold nameB
  have : (s.data.toList.all fun c => okC c.toNat) = false := by
    rw [List.all_eq_false]
    exact ⟨s[k], List.mem_of_getElem (i := k) (h := by simpa using hk) rfl, by rw [h]; simp⟩
  rw [this, Bool.and_false]
theorem nameB_short {s : ByteArray} (h : s.size < 1) : nameB s = false := by
  unfold nameB
  rw [decide_eq_false (by omega)]
  rfl
theorem nameB_long {s : ByteArray} (h : 31 < s.size) : nameB s = false := by
  unfold nameB
  rw [decide_eq_false (show ¬ s.size ≤ 31 by omega), Bool.and_false]
  rfl
set_option maxHeartbeats 4000000 in
theorem rname_any (s : ByteArray) (w : World) :
    Calls Try.prog 72 #[.string s] w fun e w' => e = .returned (.bool (nameB s)) ∧ w = w' := by
  by_cases h0 : s.size < 1
  · have HN := Lib.hid (nameB_short h0)
    have d1 : decide ((s.size : Int) < 1) = true := decide_eq_true (by omega)
    go_enter Try.func72, Try.ntmps72
    go_wp2_with fail
    go_ret
    rw [HN.out]
    exact ⟨rfl, rfl⟩
  by_cases h1 : 31 < s.size
  · have HN := Lib.hid (nameB_long h1)
    have d1 : decide ((s.size : Int) < 1) = false := decide_eq_false (by omega)
    have d2 : (s.size : Int) > 31 := by omega
    go_enter Try.func72, Try.ntmps72
    go_wp2_with fail
    go_ret
    rw [HN.out]
    exact ⟨rfl, rfl⟩
  have d1 : decide ((s.size : Int) < 1) = false := decide_eq_false (by omega)
  have d2 : ¬ (s.size : Int) > 31 := by omega
  go_enter Try.func72, Try.ntmps72
  go_wp2_with fail
  go_loopg [3, 4] s.size (fun r vi v4 wr => ∃ k : Nat, k ≤ s.size ∧ r = s.size - k ∧ vi = .int .i64 k ∧ wr = w ∧ Hid (∀ j (hj : j < s.size), j < k → okC s[j].toNat = true))
  case atStart => exact ⟨0, by omega, by omega, rfl, rfl, Lib.hid (fun j _ h => by omega)⟩
  case round =>
    obtain ⟨k, hk, hr, rfl, rfl, hh⟩ := hrel
    have HR := Lib.hid hr
    clear hr
    by_cases hlt : k < s.size
    · by_cases hc : okC s[k].toNat = true
      · have HN : Hid (∀ j (hj : j < s.size), j < k + 1 → okC s[j].toNat = true) := Lib.hid (fun j hj hjk => by
          by_cases e : j = k
          · subst e; exact hc
          · exact hh.out j hj (by omega))
        have h10 := okC_yes hc
        clear hh hc
        obtain ⟨c, hc⟩ : ∃ c, s[k].toNat = c := ⟨_, rfl⟩
        rw [hc] at h10
        rcases h10 with h | h | h | h | h | h | h | h | h | h
        all_goals first | subst h | skip
        all_goals go_wp2_with fail
        all_goals
          go_roundg (s.size - (k + 1))
          case measure => rw [HR.out]; omega
          case rel => exact ⟨k + 1, by omega, rfl, by first | rfl | simp, rfl, HN⟩
      · have hc' : okC s[k].toNat = false := by simpa using hc
        have HN := Lib.hid (nameB_one hlt hc')
        obtain ⟨h1, h2, h3, h4, h5, h6, h7, h8, h9, h10⟩ := okC_no hc'
        clear hh hc hc'
        obtain ⟨c, hc⟩ : ∃ c, s[k].toNat = c := ⟨_, rfl⟩
        rw [hc] at h1 h2 h3 h4 h5 h6 h7 h8 h9 h10
        have e3 : ((c : Int) == 44) = false := beq_eq_false_iff_ne.2 (by omega)
        have e4 : ((c : Int) == 46) = false := beq_eq_false_iff_ne.2 (by omega)
        have e5 : ((c : Int) == 95) = false := beq_eq_false_iff_ne.2 (by omega)
        have e6 : ((c : Int) == 43) = false := beq_eq_false_iff_ne.2 (by omega)
        have e7 : ((c : Int) == 45) = false := beq_eq_false_iff_ne.2 (by omega)
        have e8 : ((c : Int) == 64) = false := beq_eq_false_iff_ne.2 (by omega)
        have e9 : ((c : Int) == 35) = false := beq_eq_false_iff_ne.2 (by omega)
        have e10 : ((c : Int) == 63) = false := beq_eq_false_iff_ne.2 (by omega)
        have hw : c < 48 ∨ (57 < c ∧ c < 97) ∨ 122 < c := by omega
        clear h1 h2 h3 h4 h5 h6 h7 h8 h9 h10
        rcases hw with h | h | h
        · go_wp2_with fail
          go_ret
          rw [HN.out]
          exact ⟨rfl, rfl⟩
        · have b1 : decide ((c : Int) ≤ 57) = false := decide_eq_false (by omega)
          go_wp2_with fail
          go_ret
          rw [HN.out]
          exact ⟨rfl, rfl⟩
        · have b1 : decide ((c : Int) ≤ 57) = false := decide_eq_false (by omega)
          have b2 : decide ((c : Int) ≤ 122) = false := decide_eq_false (by omega)
          go_wp2_with fail
          go_ret
          rw [HN.out]
          exact ⟨rfl, rfl⟩
    · obtain rfl : k = s.size := by omega
      have HN := Lib.hid (nameB_all (by omega) (by omega) (fun j hj => hh.out j hj hj))
      go_wp2_with fail
      go_ret
      rw [HN.out]
      exact ⟨rfl, rfl⟩
end Go.Proofs.Ytnkababhgloclaa
