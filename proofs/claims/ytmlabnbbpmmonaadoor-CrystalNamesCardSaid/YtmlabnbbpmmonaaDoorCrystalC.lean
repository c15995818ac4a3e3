/- Contracts of the functions of crystal over its table: what each returns. -/
import Derived.Test.YtmlabnbbpmmonaaDoorRows
import Derived.WalkKit
import Derived.WalkLawsBesides
import Derived.WalkSpells
import Derived.Outline
import Derived.LoopTactic
import Derived.Below
import Derived.Deep.QuietTactic
import Derived.BigQuiet
import Derived.Handy
import Derived.Laws.Rows
import Derived.Laws.FloatArith
namespace Go.Proofs.YtmlabnbbpmmonaaDoor
open Go.RowKit

/-- The family's table, as numbers. -/
def tabL : List Int := [32768, 2000000, 3000000, 4000000, 5000000, 6000000, 7000000, 8000000, 9000000, 10000000, 11000000, 12000000, 13000000, 14000000, 15000000, 16000000, 17000000, 18000000, 19000000, 20000000, 21000000, 22000000, 23000000, 24000000, 25000000, 26000000, 27000000, 28000000, 29000000, 30000000, 31000000, 100000000]
def tab (k : Nat) : Int := tabL.getD k 0

theorem rate_in (k : Nat) (w : World) (hk : k < 32) (hc : w.cell? ⟨0, k, none⟩ = some (.int .i64 (tab k))) :
    Calls Tryd.prog 9 #[.int .i64 k] w fun e w' => e = .returned (.tuple #[.int .i64 (tab k), .int .i64 0]) ∧ w = w' := by
  go_enter Tryd.func9, Tryd.ntmps9
  go_wp2
  go_ret2
  exact ⟨rfl, rfl⟩

theorem rate_out (i : Int) (w : World) (hk : i < 0 ∨ 32 ≤ i) :
    Calls Tryd.prog 9 #[.int .i64 i] w fun e w' => e = .returned (.tuple #[.int .i64 0, .int .i64 1]) ∧ w = w' := by
  rcases hk with h | h
  · go_enter Tryd.func9, Tryd.ntmps9
    go_wp2
    go_ret2
    exact ⟨rfl, rfl⟩
  · have h' : ¬ i < 0 := by omega
    go_enter Tryd.func9, Tryd.ntmps9
    go_wp2
    go_ret2
    exact ⟨rfl, rfl⟩

/-- Divider: both in range and the quotient small. -/
theorem divider_ok (f t : Int) (w : World) (h1 : 1 ≤ f) (h2 : f ≤ 1099511627776) (h3 : 1 ≤ t) (h4 : t ≤ 1099511627776) (h5 : (f + t - 1) / t ≤ 65535) :
    Calls Tryd.prog 11 #[.int .i64 f, .int .i64 t] w fun e w' => e = .returned (.tuple #[.int .i64 ((f + t - 1) / t), .int .i64 0]) ∧ w = w' := by
  have a1 : ¬ f < 1 := by omega
  have a2 : ¬ 1099511627776 < f := by omega
  have a3 : ¬ t < 1 := by omega
  have a4 : ¬ 1099511627776 < t := by omega
  have a5 : ¬ 65535 < (f + t - 1) / t := by omega
  go_enter Tryd.func11, Tryd.ntmps11
  go_wp2
  go_ret2
  exact ⟨rfl, rfl⟩

theorem divider_none (f t : Int) (w : World) (h1 : 1 ≤ f) (h2 : f ≤ 1099511627776) (h3 : 1 ≤ t) (h4 : t ≤ 1099511627776) (h5 : 65535 < (f + t - 1) / t) :
    Calls Tryd.prog 11 #[.int .i64 f, .int .i64 t] w fun e w' => e = .returned (.tuple #[.int .i64 0, .int .i64 6]) ∧ w = w' := by
  have a1 : ¬ f < 1 := by omega
  have a2 : ¬ 1099511627776 < f := by omega
  have a3 : ¬ t < 1 := by omega
  have a4 : ¬ 1099511627776 < t := by omega
  go_enter Tryd.func11, Tryd.ntmps11
  go_wp2
  go_ret2
  exact ⟨rfl, rfl⟩

theorem divider_arg (f t : Int) (w : World) (h : f < 1 ∨ 1099511627776 < f ∨ t < 1 ∨ 1099511627776 < t) :
    Calls Tryd.prog 11 #[.int .i64 f, .int .i64 t] w fun e w' => e = .returned (.tuple #[.int .i64 0, .int .i64 1]) ∧ w = w' := by
  by_cases b1 : f < 1
  · go_enter Tryd.func11, Tryd.ntmps11
    go_wp2
    go_ret2
    exact ⟨rfl, rfl⟩
  by_cases b2 : 1099511627776 < f
  · go_enter Tryd.func11, Tryd.ntmps11
    go_wp2
    go_ret2
    exact ⟨rfl, rfl⟩
  by_cases b3 : t < 1
  · go_enter Tryd.func11, Tryd.ntmps11
    go_wp2
    go_ret2
    exact ⟨rfl, rfl⟩
  have b4 : 1099511627776 < t := by omega
  go_enter Tryd.func11, Tryd.ntmps11
  go_wp2
  go_ret2
  exact ⟨rfl, rfl⟩

/-- Period. -/
theorem period_out (i : Int) (w : World) (hk : i < 0 ∨ 32 ≤ i) :
    Calls Tryd.prog 10 #[.int .i64 i] w fun e w' => e = .returned (.tuple #[.float .f64 0, .int .i64 1]) ∧ w = w' := by
  go_enter Tryd.func10, Tryd.ntmps10
  go_wp2_with (go_at_call 9; refine (rate_out _ _ hk).mono ?_; rintro e w' ⟨rfl, rfl⟩)
  go_ret2
  exact ⟨rfl, rfl⟩
/-- 1e9 divided by an entry, bit by bit. -/
def per (k : Nat) : Nat := (floatBits .quo .f64 4741671816366391296 (floatOfInt .f64 (tab k))).getD 0
theorem per_eq : ∀ k, k < 32 → floatBits .quo .f64 4741671816366391296 (floatOfInt .f64 (tab k)) = some (per k) := by decide +kernel
theorem period_in (k : Nat) (w : World) (hk : k < 32) (hc : w.cell? ⟨0, k, none⟩ = some (.int .i64 (tab k))) :
    Calls Tryd.prog 10 #[.int .i64 k] w fun e w' => e = .returned (.tuple #[.float .f64 (per k), .int .i64 0]) ∧ w = w' := by
  have hq := fun w => run_float_arith (P := Tryd.prog) w .quo 25 .f64 _ _ _ (per_eq k hk)
  go_enter Tryd.func10, Tryd.ntmps10
  go_wp2_with (go_at_call 9; refine (rate_in _ _ hk hc).mono ?_; rintro e w' ⟨rfl, rfl⟩)
  go_ret2
  exact ⟨rfl, rfl⟩


/-- The table lies in block 0. -/
def Tab (w : World) : Prop := ∀ k, k < 32 → w.cell? ⟨0, k, none⟩ = some (.int .i64 (tab k))
theorem Tab.at {w : World} (h : Tab w) (k : Nat) (hk : k < 32) : w.cell? ⟨0, k, none⟩ = some (.int .i64 (tab k)) := h k hk
theorem Tab.below {B : Nat} {w w' : World} (h : Tab w) (hb : Below B w w') (hB : 0 < B) : Tab w' := fun k hk => (hb.cell (p := ⟨0, k, none⟩) hB).trans (h k hk)
theorem Tab.drewN {w : World} (h : Tab w) (n : Nat) : Tab (w.drewN n) := fun k hk => by simpa [go_sem] using h k hk
theorem tab_bd : ∀ k, k < 32 → 0 ≤ tab k ∧ tab k ≤ 100000000 := by decide +kernel


theorem ret_int {k : IntKind} {a b : Int} (h : a = b) : Ending.returned (.int k a) = .returned (.int k b) := by rw [h]
theorem max_if (a b : Int) : (if a < b then b else a) = max a b := by rw [Int.max_def]; split <;> split <;> omega

theorem near1 (k : Nat) (b : Nat) (v : Int) (w : World) (hk : k < 32) (hT : Tab w) (hv0 : 0 ≤ v) (hv1 : v ≤ 9223372036854775807) (hb : w.cell? ⟨b, 0, none⟩ = some (.int .i64 v)) :
    Calls Tryd.prog 20 #[.int .i64 k, .pointer (some ⟨b, 0, none⟩)] w fun e w' => e = .returned (.int .i64 (max (v - tab k) (tab k - v))) ∧ ∃ n, w' = w.drewN n := by
  obtain ⟨ht0, ht1⟩ := tab_bd k hk
  have hc := hT.at k hk
  go_enter Tryd.func20, Tryd.ntmps20
  go_wp2
  go_quiet (fail)
  go_wp2
  all_goals
    go_ret
    exact ⟨ret_int (by omega), _, rfl⟩

/-- The place that is found after k rounds. -/
def nearTo (v : Int) : Nat → Nat
  | 0 => 0
  | k + 1 => if max (v - tab k) (tab k - v) < max (v - tab (nearTo v k)) (tab (nearTo v k) - v) then k else nearTo v k
theorem nearTo_lt (v : Int) : ∀ k, k ≤ 32 → nearTo v k < 32
  | 0, _ => by simp [nearTo]
  | k + 1, h => by have := nearTo_lt v k (by omega); simp only [nearTo]; split <;> omega

theorem near_arg (v : Int) (w : World) (hv : v < 0) :
    Calls Tryd.prog 13 #[.int .i64 v] w fun e w' => e = .returned (.tuple #[.int .i64 0, .int .i64 1]) ∧ Below w.heap.size w w' := by
  go_enter Tryd.func13, Tryd.ntmps13
  go_wp2
  go_ret2
  exact ⟨rfl, (Below.refl _ _).alloc (Nat.le_refl _) _⟩

set_option maxHeartbeats 1000000 in
theorem near_ok (v : Int) (w : World) (hT : Tab w) (h0 : 0 < w.heap.size) (hv0 : 0 ≤ v) (hv1 : v ≤ 9223372036854775807) :
    Calls Tryd.prog 13 #[.int .i64 v] w fun e w' => e = .returned (.tuple #[.int .i64 (nearTo v 32), .int .i64 0]) ∧ Below w.heap.size w w' := by
  have a1 : ¬ v < 0 := by omega
  go_enter Tryd.func13, Tryd.ntmps13
  go_wp2
  go_loopw [5, 10] (fun at' i wr => ∃ k n : Nat, k ≤ 32 ∧ i = .int .i64 k ∧ at' = .int .i64 (nearTo v k) ∧ wr = (w.alloc (.cells #[.int .i64 v] 2)).drewN n) (fun _ i _ => 32 - (intOf i).toNat)
  case atStart => exact ⟨0, 0, by omega, rfl, rfl, rfl⟩
  case round =>
    obtain ⟨k, n, hk, rfl, rfl, rfl⟩ := hrel
    have hTn := (hT.below (below_drewN ((Below.refl w.heap.size w).alloc (Nat.le_refl _) (.cells #[.int .i64 v] 2)) n) h0)
    have hcell : ((w.alloc (.cells #[.int .i64 v] 2)).drewN n).cell? ⟨w.heap.size, 0, none⟩ = some (.int .i64 v) := by simp [go_sem]
    by_cases hlt : k < 32
    · have hn := nearTo_lt v k hk
      go_wp2_with fail
      refine (near1 k _ v _ hlt hTn hv0 hv1 hcell).mono ?_
      rintro e w1 ⟨rfl, n1, rfl⟩
      go_wp2_with fail
      refine (near1 (nearTo v k) w.heap.size v ((w.alloc (.cells #[.int .i64 v] 2)).drewN (n + n1)) hn (hT.below (below_drewN ((Below.refl w.heap.size w).alloc (Nat.le_refl _) _) _) h0) hv0 hv1 (by simp [go_sem])).mono ?_
      rintro e w1 ⟨rfl, n2, rfl⟩
      by_cases hc : max (v - tab k) (tab k - v) < max (v - tab (nearTo v k)) (tab (nearTo v k) - v)
      · have HS : Hid (nearTo v (k + 1) = k) := by unfold Hid; simp only [nearTo]; rw [if_pos hc]
        go_wp2
        go_roundw
        case rel => exact ⟨k + 1, n + n1 + n2, by omega, by go_num, by rw [HS.out], rfl⟩
        case measure => simp [intOf]; omega
      · have HS : Hid (nearTo v (k + 1) = nearTo v k) := by unfold Hid; simp only [nearTo]; rw [if_neg hc]
        go_wp2
        go_roundw
        case rel => exact ⟨k + 1, n + n1 + n2, by omega, by go_num, by rw [HS.out], rfl⟩
        case measure => simp [intOf]; omega
    · obtain rfl : k = 32 := by omega
      go_wp2
      go_ret2
      exact ⟨rfl, below_drewN ((Below.refl _ _).alloc (Nat.le_refl _) _) n⟩
end Go.Proofs.YtmlabnbbpmmonaaDoor
