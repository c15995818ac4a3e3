/- Contracts of the functions of crystal over its table: what each returns. -/
import Derived.Test.YtmlabnbbpmmonaaDoorRows
import Derived.Test.YtmlabnbbpmmonaaDoorRowsLib
import Derived.Test.YtmlabnbbpmmonaaDoorDivC
import Derived.WalkKit
import Derived.WalkLawsBesides
import Derived.WalkSpells
import Derived.Outline
import Derived.LoopTactic
import Derived.Below
import Derived.Deep.QuietTactic
import Derived.BigQuiet
import Derived.Handy
import Derived.Laws.Rows
import Derived.Lib.LaidTab
import Derived.Laws.FloatArith
namespace Go.Proofs.YtmlabnbbpmmonaaDoor
open Go.RowKit

/-- The family's table, as numbers. -/
def tabL : List Int := [32768, 2000000, 3000000, 4000000, 5000000, 6000000, 7000000, 8000000, 9000000, 10000000, 11000000, 12000000, 13000000, 14000000, 15000000, 16000000, 17000000, 18000000, 19000000, 20000000, 21000000, 22000000, 23000000, 24000000, 25000000, 26000000, 27000000, 28000000, 29000000, 30000000, 31000000, 100000000]
def tab (k : Nat) : Int := tabL.getD k 0

theorem rate_in (k : Nat) (w : World) (hk : k < 32) (hc : w.cell? ⟨0, k, none⟩ = some (.int .i64 (tab k))) :
    Calls Tryd.prog 9 #[.int .i64 k] w fun e w' => e = .returned (.tuple #[.int .i64 (tab k), .int .i64 0]) ∧ w = w' := by
  go_enter Tryd.func9, Tryd.ntmps9
  go_wp2
  go_ret2
  exact ⟨rfl, rfl⟩

theorem rate_out (i : Int) (w : World) (hk : i < 0 ∨ 32 ≤ i) :
    Calls Tryd.prog 9 #[.int .i64 i] w fun e w' => e = .returned (.tuple #[.int .i64 0, .int .i64 1]) ∧ w = w' := by
  rcases hk with h | h
  · go_enter Tryd.func9, Tryd.ntmps9
    go_wp2
    go_ret2
    exact ⟨rfl, rfl⟩
  · have h' : ¬ i < 0 := by omega
    go_enter Tryd.func9, Tryd.ntmps9
    go_wp2
    go_ret2
    exact ⟨rfl, rfl⟩

/-- Period. -/
theorem period_out (i : Int) (w : World) (hk : i < 0 ∨ 32 ≤ i) :
    Calls Tryd.prog 10 #[.int .i64 i] w fun e w' => e = .returned (.tuple #[.float .f64 0, .int .i64 1]) ∧ w = w' := by
  go_enter Tryd.func10, Tryd.ntmps10
  go_wp2_with (go_at_call 9; refine (rate_out _ _ hk).mono ?_; rintro e w' ⟨rfl, rfl⟩)
  go_ret2
  exact ⟨rfl, rfl⟩
/-- 1e9 divided by an entry, bit by bit. -/
def per (k : Nat) : Nat := (floatBits .quo .f64 4741671816366391296 (floatOfInt .f64 (tab k))).getD 0
theorem per_eq : ∀ k, k < 32 → floatBits .quo .f64 4741671816366391296 (floatOfInt .f64 (tab k)) = some (per k) := by decide +kernel
theorem period_in (k : Nat) (w : World) (hk : k < 32) (hc : w.cell? ⟨0, k, none⟩ = some (.int .i64 (tab k))) :
    Calls Tryd.prog 10 #[.int .i64 k] w fun e w' => e = .returned (.tuple #[.float .f64 (per k), .int .i64 0]) ∧ w = w' := by
  have hq := fun w => run_float_arith (P := Tryd.prog) w .quo 25 .f64 _ _ _ (per_eq k hk)
  go_enter Tryd.func10, Tryd.ntmps10
  go_wp2_with (go_at_call 9; refine (rate_in _ _ hk hc).mono ?_; rintro e w' ⟨rfl, rfl⟩)
  go_ret2
  exact ⟨rfl, rfl⟩


/-- The table lies in block 0. -/
def tabV : Array Value := (tabL.map fun n => Value.int .i64 n).toArray
def Tab (w : World) : Prop := ∃ t fr, w.heap[0]? = some (.cells tabV t fr)
theorem Vars.mk {W : World} (h : Lib.TabIs Tryd.prog W "reveille/crystal.table" .i64 tabL) : Tab W := by
  have hg : Tryd.prog.globalNamed "reveille/crystal.table" = some 0 := by kernel_rfl
  unfold Lib.TabIs World.var? at h
  rw [hg] at h
  simp only [Option.bind_some] at h
  split at h
  · rename_i c t fr hh
    cases h
    exact ⟨t, fr, hh⟩
  · cases h
theorem tabV_at : ∀ k, k < 32 → tabV[k]? = some (.int .i64 (tab k)) := by
  intro k hk
  have : tabL.length = 32 := rfl
  simp [tabV, tab, List.getD, show k < tabL.length by omega]
theorem Tab.at {w : World} (h : Tab w) (k : Nat) (hk : k < 32) : w.cell? ⟨0, k, none⟩ = some (.int .i64 (tab k)) := by
  obtain ⟨t, fr, h⟩ := h
  rw [cell_of_row w 0 k _ t fr h]
  exact tabV_at k hk
theorem Tab.pos {w : World} (h : Tab w) : 0 < w.heap.size := by
  obtain ⟨t, fr, h⟩ := h
  exact (Array.getElem?_eq_some_iff.1 h).1
theorem Tab.below {B : Nat} {w w' : World} (h : Tab w) (hb : Below B w w') (hB : 0 < B) : Tab w' := by
  obtain ⟨t, fr, h⟩ := h
  exact ⟨t, fr, (hb.block 0 hB).trans h⟩
theorem Tab.grown {w w' : World} (h : Tab w) (hb : Below w.heap.size w w') : Tab w' := h.below hb h.pos
theorem Tab.drewN {w : World} (h : Tab w) (n : Nat) : Tab (w.drewN n) := h.grown (below_drewN (Below.refl _ _) n)
theorem tab_bd : ∀ k, k < 32 → 0 ≤ tab k ∧ tab k ≤ 100000000 := by decide +kernel


theorem near1 (k : Nat) (b : Nat) (v : Int) (w : World) (hk : k < 32) (hT : Tab w) (hv0 : 0 ≤ v) (hv1 : v ≤ 9223372036854775807) (hb : w.cell? ⟨b, 0, none⟩ = some (.int .i64 v)) :
    Calls Tryd.prog 20 #[.int .i64 k, .pointer (some ⟨b, 0, none⟩)] w fun e w' => e = .returned (.int .i64 (max (v - tab k) (tab k - v))) ∧ ∃ n, w' = w.drewN n := by
  obtain ⟨ht0, ht1⟩ := tab_bd k hk
  have hc := hT.at k hk
  go_enter Tryd.func20, Tryd.ntmps20
  go_wp2
  go_quiet (fail)
  go_wp2
  all_goals
    go_ret
    exact ⟨ret_int (by omega), _, rfl⟩

/-- The place that is found after k rounds. -/
def nearTo (v : Int) : Nat → Nat
  | 0 => 0
  | k + 1 => if max (v - tab k) (tab k - v) < max (v - tab (nearTo v k)) (tab (nearTo v k) - v) then k else nearTo v k
theorem nearTo_lt (v : Int) : ∀ k, k ≤ 32 → nearTo v k < 32
  | 0, _ => by simp [nearTo]
  | k + 1, h => by have := nearTo_lt v k (by omega); simp only [nearTo]; split <;> omega

theorem near_arg (v : Int) (w : World) (hv : v < 0) :
    Calls Tryd.prog 13 #[.int .i64 v] w fun e w' => e = .returned (.tuple #[.int .i64 0, .int .i64 1]) ∧ Below w.heap.size w w' := by
  go_enter Tryd.func13, Tryd.ntmps13
  go_wp2
  go_ret2
  exact ⟨rfl, (Below.refl _ _).alloc (Nat.le_refl _) _⟩

set_option maxHeartbeats 1000000 in
theorem near_ok (v : Int) (w : World) (hT : Tab w) (h0 : 0 < w.heap.size) (hv0 : 0 ≤ v) (hv1 : v ≤ 9223372036854775807) :
    Calls Tryd.prog 13 #[.int .i64 v] w fun e w' => e = .returned (.tuple #[.int .i64 (nearTo v 32), .int .i64 0]) ∧ Below w.heap.size w w' := by
  have a1 : ¬ v < 0 := by omega
  go_enter Tryd.func13, Tryd.ntmps13
  go_wp2
  go_loopw [5, 10] (fun at' i wr => ∃ k n : Nat, k ≤ 32 ∧ i = .int .i64 k ∧ at' = .int .i64 (nearTo v k) ∧ wr = (w.alloc (.cells #[.int .i64 v] 2)).drewN n) (fun _ i _ => 32 - (intOf i).toNat)
  case atStart => exact ⟨0, 0, by omega, rfl, rfl, rfl⟩
  case round =>
    obtain ⟨k, n, hk, rfl, rfl, rfl⟩ := hrel
    have hTn := (hT.below (below_drewN ((Below.refl w.heap.size w).alloc (Nat.le_refl _) (.cells #[.int .i64 v] 2)) n) h0)
    have hcell : ((w.alloc (.cells #[.int .i64 v] 2)).drewN n).cell? ⟨w.heap.size, 0, none⟩ = some (.int .i64 v) := by simp [go_sem]
    by_cases hlt : k < 32
    · have hn := nearTo_lt v k hk
      go_wp2_with fail
      refine (near1 k _ v _ hlt hTn hv0 hv1 hcell).mono ?_
      rintro e w1 ⟨rfl, n1, rfl⟩
      go_wp2_with fail
      refine (near1 (nearTo v k) w.heap.size v ((w.alloc (.cells #[.int .i64 v] 2)).drewN (n + n1)) hn (hT.below (below_drewN ((Below.refl w.heap.size w).alloc (Nat.le_refl _) _) _) h0) hv0 hv1 (by simp [go_sem])).mono ?_
      rintro e w1 ⟨rfl, n2, rfl⟩
      by_cases hc : max (v - tab k) (tab k - v) < max (v - tab (nearTo v k)) (tab (nearTo v k) - v)
      · have HS : Hid (nearTo v (k + 1) = k) := by unfold Hid; simp only [nearTo]; rw [if_pos hc]
        go_wp2
        go_roundw
        case rel => exact ⟨k + 1, n + n1 + n2, by omega, by go_num, by rw [HS.out], rfl⟩
        case measure => simp [intOf]; omega
      · have HS : Hid (nearTo v (k + 1) = nearTo v k) := by unfold Hid; simp only [nearTo]; rw [if_neg hc]
        go_wp2
        go_roundw
        case rel => exact ⟨k + 1, n + n1 + n2, by omega, by go_num, by rw [HS.out], rfl⟩
        case measure => simp [intOf]; omega
    · obtain rfl : k = 32 := by omega
      go_wp2
      go_ret2
      exact ⟨rfl, below_drewN ((Below.refl _ _).alloc (Nat.le_refl _) _) n⟩

theorem cellsArr : (Tryd.prog.info? 30).map (·.size) = some tabV.size := by kernel_rfl
theorem tabV_all : tabV.all (·.oneCell') = true := by decide +kernel
/-- Table: a copy of the array. -/
theorem table_any (w : World) (hT : Tab w) :
    Calls Tryd.prog 12 #[] w fun e w' => e = .returned (.agg tabV) ∧ w' = w.alloc (.cells tabV 30) := by
  have hp := hT.pos
  obtain ⟨t, fr, hT⟩ := hT
  have hg : ∀ o, (w.alloc o).heap[0]? = some (.cells tabV t fr) := fun o => (Below.heap_alloc w o 0 hp).trans hT
  go_enter Tryd.func12, Tryd.ntmps12
  go_wp2_with (first | (refine wpList_load_row rfl 30 _ rfl 0 rfl t _ fr _ (hg _) Tryd.underlying30 rfl cellsArr ?_) | (refine wpList_store_row rfl 30 _ _ rfl w.heap.size tabV rfl rfl 30 _ (heap_alloc_new w _) cellsArr rfl tabV_all ?_; rw [setRow_alloc]))
  refine bodyPost_ret (v := .agg tabV) (results_cell_row rfl _ _ w.heap.size 30 tabV (0, 0) _ rfl (heap_alloc_new w _) Tryd.underlying30 rfl cellsArr) rfl ⟨rfl, rfl⟩
end Go.Proofs.YtmlabnbbpmmonaaDoor
