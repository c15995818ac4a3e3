/- First: the first entry within a window; the program's and the document's. -/
import Derived.Test.YtnomamimpnogpaaDoorMeetC
namespace Go.Proofs.YtnomamimpnogpaaDoor
open Go.RowKit
/-- Is the entry k within the window? -/
def inW (lo hi : Int) (k : Nat) : Bool := decide (lo ≤ nth supplyL k) && decide (nth supplyL k ≤ hi)
def firstV (lo hi : Int) : Int × Int :=
  if mayB (lo, hi) then (match (List.range 24).find? (inW lo hi) with | some k => ((k : Int), 0) | none => (0, 6)) else (0, 1)
theorem firstV_bad (lo hi : Int) (h : mayB (lo, hi) = false) : firstV lo hi = (0, 1) := by
  unfold firstV; rw [h]; rfl
theorem firstV_at (lo hi : Int) (k : Nat) (h : mayB (lo, hi) = true) (hk : k < 24) (h1 : inW lo hi k = true) (h2 : ∀ j, j < k → inW lo hi j = false) : firstV lo hi = ((k : Int), 0) := by
  have hf : (List.range 24).find? (inW lo hi) = some k := by
    rw [List.find?_range_eq_some]
    exact ⟨h1, by simpa using hk, fun j hj => by rw [h2 j hj]; rfl⟩
  unfold firstV; rw [h, hf]; rfl
theorem firstV_none (lo hi : Int) (h : mayB (lo, hi) = true) (h2 : ∀ j, j < 24 → inW lo hi j = false) : firstV lo hi = (0, 6) := by
  have hf : (List.range 24).find? (inW lo hi) = none := by
    rw [List.find?_range_eq_none]
    exact fun j hj => by rw [h2 j hj]; rfl
  unfold firstV; rw [h, hf]; rfl
theorem inW_next {lo hi : Int} {k : Nat} (h : ∀ j, j < k → inW lo hi j = false) (hk : inW lo hi k = false) : ∀ j, j < k + 1 → inW lo hi j = false := fun j hj => by
  rcases Nat.lt_succ_iff_lt_or_eq.1 hj with h1 | rfl
  · exact h j h1
  · exact hk

theorem index_tab (w : World) (k : Nat) (hk : k < 24) : (Instr.index 36 (.agg (arrV supplyL)) (.int .i64 k)).run Tryd.prog w = .ok (.int .i64 (nth supplyL k)) w := by
  have hn : (0 : Int) ≤ k ∧ (k : Int) < 24 := by omega
  have ha := arrV_at supplyL k hk
  generalize arrV supplyL = A at ha ⊢
  simp [Instr.index, run_underlying Tryd.underlying36, asIntOf, hn, go_sem]
  rw [if_pos hk, ha]
  rfl

theorem first_bad (lo hi : Int) (w : World) (h : mayB (lo, hi) = false) :
    Calls Tryd.prog 14 #[.agg #[.int .i64 lo, .int .i64 hi]] w fun e w' => e = .returned (.tuple #[.int .i64 (firstV lo hi).1, .int .i64 (firstV lo hi).2]) ∧ Below w.heap.size w w' := by
  have HV := Lib.hid (firstV_bad lo hi h)
  have HN := Lib.hid h
  clear h
  go_enter Tryd.func14, Tryd.ntmps14
  go_wp2_with fail
  refine (may_no lo hi _ HN.out).mono ?_
  rintro e w' ⟨rfl, rfl⟩
  go_wp2_with fail
  go_ret2
  exact ⟨by rw [HV.out]; rfl, ((Below.refl _ _).alloc (Nat.le_refl _) _).alloc (by rw [size_alloc]; omega) _⟩

set_option maxHeartbeats 1000000 in
set_option maxRecDepth 100000 in
theorem first_ok (lo hi : Int) (w : World) (h : mayB (lo, hi) = true) (hT : supplyAt w) :
    Calls Tryd.prog 14 #[.agg #[.int .i64 lo, .int .i64 hi]] w fun e w' => e = .returned (.tuple #[.int .i64 (firstV lo hi).1, .int .i64 (firstV lo hi).2]) ∧ Below w.heap.size w w' := by
  have HY := Lib.hid h
  have HT := Lib.hid hT
  obtain ⟨m1, m2, m3⟩ := (mayB_iff _).1 h
  have M := Lib.hid (And.intro m1 (And.intro m2 m3))
  have hB := ((Below.refl w.heap.size w).alloc (Nat.le_refl _) (.cells #[.int .i64 lo, .int .i64 hi] 26)).alloc (by rw [size_alloc]; omega) (.cells #[.int .i64 lo, .int .i64 hi] 26)
  obtain ⟨t, fr, hg⟩ := hT.grown hB
  have HG := Lib.hid hg
  have HB := Lib.hid hB
  have hc0 : ((w.alloc (.cells #[.int .i64 lo, .int .i64 hi] 26)).alloc (.cells #[.int .i64 lo, .int .i64 hi] 26)).cell? ⟨w.heap.size, 0, none⟩ = some (.int .i64 lo) := by simp [go_sem]
  have hc1 : ((w.alloc (.cells #[.int .i64 lo, .int .i64 hi] 26)).alloc (.cells #[.int .i64 lo, .int .i64 hi] 26)).cell? ⟨w.heap.size, 1, none⟩ = some (.int .i64 hi) := by simp [go_sem]
  have C := Lib.hid (And.intro hc0 hc1)
  clear h hT m1 m2 m3 hB hg hc0 hc1
  go_enter Tryd.func14, Tryd.ntmps14
  go_wp2_with fail
  obtain ⟨m1, m2, m3⟩ := M.out
  refine (may_yes lo hi _ m1 m2 m3).mono ?_
  rintro e w' ⟨rfl, rfl⟩
  go_wp2_with (first | (refine wpList_load_row rfl 36 _ rfl 0 rfl t _ fr _ HG.out Tryd.underlying36 rfl supply_cells ?_))
  have HA : ∀ k : Nat, k < 24 → ∀ w, (Instr.index 36 (.agg (arrV supplyL)) (.int .i64 k)).run Tryd.prog w = .ok (.int .i64 (nth supplyL k)) w := fun k hk w => index_tab w k hk
  generalize arrV supplyL = A at HA ⊢
  replace HA := Lib.hid HA
  go_loop [10] (fun i => ∃ k : Nat, k ≤ 24 ∧ i = .int .i64 k ∧ Hid (∀ j, j < k → inW lo hi j = false)) (fun i => 24 - (intOf i).toNat)
  case atStart => exact ⟨0, by omega, rfl, Lib.hid (fun j hj => by omega)⟩
  case round =>
    obtain ⟨k, hk, rfl, hq⟩ := hrel
    obtain ⟨c0, c1⟩ := C.out
    by_cases hlt : k < 24
    · have hat := HA.out k hlt
      by_cases hin : inW lo hi k = true
      · have HV := Lib.hid (firstV_at lo hi k HY.out hlt hin hq.out)
        have hin' := hin
        simp only [inW, Bool.and_eq_true, decide_eq_true_eq] at hin'
        obtain ⟨i1, i2⟩ := hin'
        clear hin
        go_wp2_with fail
        go_ret2
        exact ⟨by rw [HV.out]; rfl, HB.out⟩
      · have hn : inW lo hi k = false := by simpa using hin
        have HQ := Lib.hid (inW_next hq.out hn)
        have hn' : ¬ (lo ≤ nth supplyL k ∧ nth supplyL k ≤ hi) := by simpa [inW] using hin
        clear hin hn
        by_cases i1 : lo ≤ nth supplyL k
        · have i2 : ¬ nth supplyL k ≤ hi := fun h => hn' ⟨i1, h⟩
          clear hn'
          go_wp2_with fail
          go_round
          case rel => exact ⟨k + 1, by omega, by go_num, HQ.out⟩
          case measure => simp [intOf]; omega
        · clear hn'
          go_wp2_with fail
          go_round
          case rel => exact ⟨k + 1, by omega, by go_num, HQ.out⟩
          case measure => simp [intOf]; omega
    · obtain rfl : k = 24 := by omega
      have HV := Lib.hid (firstV_none lo hi HY.out hq.out)
      go_wp2_with fail
      go_ret2
      exact ⟨by rw [HV.out]; rfl, HB.out⟩
theorem first_any (lo hi : Int) (w : World) (hT : supplyAt w) :
    Calls Tryd.prog 14 #[.agg #[.int .i64 lo, .int .i64 hi]] w fun e w' => e = .returned (.tuple #[.int .i64 (firstV lo hi).1, .int .i64 (firstV lo hi).2]) ∧ Below w.heap.size w w' := by
  cases h : mayB (lo, hi) with
  | true => exact first_ok lo hi w h hT
  | false => exact first_bad lo hi w h

/-- The document's entry. -/
theorem ticks_at (k : Nat) (w : World) (hk : k < 24) (h0 : k ≠ 0) :
    Calls Tryd.prog 53 #[.int .i64 k] w fun e w' => e = .returned (.int .i64 (1000000 + 1000000 * k)) ∧ w = w' := by
  have a0 : ¬ (k : Int) = 0 := by omega
  have a1 : ¬ (k : Int) = 31 := by omega
  go_enter Tryd.func53, Tryd.ntmps53
  go_wp2_with fail
  go_ret
  exact ⟨rfl, rfl⟩
end Go.Proofs.YtnomamimpnogpaaDoor
