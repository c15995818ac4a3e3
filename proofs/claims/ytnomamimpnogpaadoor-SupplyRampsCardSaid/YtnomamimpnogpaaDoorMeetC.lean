/- Contracts: windows that may be, Meet and the document's Meet over a list of pairs. -/
import Derived.Test.YtnomamimpnogpaaDoorTables
import Derived.Test.YtnomamimpnogpaaDoorPairLib
import Derived.Deep.LoopGhost
import Derived.Laws.ResultCell
import Derived.Handy
namespace Go.Proofs.YtnomamimpnogpaaDoor
open Go.RowKit

def mayB (p : Int × Int) : Bool := decide (0 ≤ p.1) && decide (p.1 ≤ p.2) && decide (p.2 ≤ 1099511627776)
theorem mayB_iff (p : Int × Int) : mayB p = true ↔ 0 ≤ p.1 ∧ p.1 ≤ p.2 ∧ p.2 ≤ 1099511627776 := by
  simp [mayB, and_assoc]
def meetTo (ps : List (Int × Int)) : Int × Int := ps.foldl (fun s p => (max s.1 p.1, min s.2 p.2)) (0, 1099511627776)
/-- What Meet answers: from, to, the error. -/
def meetV (ps : List (Int × Int)) : Int × Int × Int :=
  if ps.all mayB then (if (meetTo ps).2 < (meetTo ps).1 then (0, 0, 6) else ((meetTo ps).1, (meetTo ps).2, 0)) else (0, 0, 1)

theorem all_take_succ (ps : List (Int × Int)) (k : Nat) (hk : k < ps.length) : (ps.take (k + 1)).all mayB = ((ps.take k).all mayB && mayB (p1 ps k, p2 ps k)) := by
  rw [List.take_succ_eq_append_getElem hk, List.all_append, pair_at ps k hk]
  simp
theorem meetTo_succ (ps : List (Int × Int)) (k : Nat) (hk : k < ps.length) : meetTo (ps.take (k + 1)) = (max (meetTo (ps.take k)).1 (p1 ps k), min (meetTo (ps.take k)).2 (p2 ps k)) := by
  rw [List.take_succ_eq_append_getElem hk, pair_at ps k hk]
  simp [meetTo, List.foldl_append]
theorem all_false (ps : List (Int × Int)) (k : Nat) (hk : k < ps.length) (h : mayB (p1 ps k, p2 ps k) = false) : ps.all mayB = false := by
  rw [List.all_eq_false]
  exact ⟨ps[k], List.getElem_mem hk, by rw [pair_at ps k hk, h]; simp⟩
theorem meetTo_bd : ∀ (ps : List (Int × Int)), 0 ≤ (meetTo ps).1 ∧ (meetTo ps).2 ≤ 1099511627776 := by
  intro ps
  unfold meetTo
  suffices h : ∀ (s : Int × Int), 0 ≤ s.1 → s.2 ≤ 1099511627776 → 0 ≤ (ps.foldl (fun s p => (max s.1 p.1, min s.2 p.2)) s).1 ∧ (ps.foldl (fun s p => (max s.1 p.1, min s.2 p.2)) s).2 ≤ 1099511627776 from h _ (by simp) (by simp)
  induction ps with
  | nil => intro s h1 h2; exact ⟨h1, h2⟩
  | cons p r ih => intro s h1 h2; exact ih _ (by simp; omega) (by simp; omega)

theorem may_yes (lo hi : Int) (w : World) (h1 : 0 ≤ lo) (h2 : lo ≤ hi) (h3 : hi ≤ 1099511627776) :
    Calls Tryd.prog 40 #[.agg #[.int .i64 lo, .int .i64 hi]] w fun e w' => e = .returned (.bool true) ∧ w' = w.alloc (.cells #[.int .i64 lo, .int .i64 hi] 26) := by
  go_enter Tryd.func40, Tryd.ntmps40
  go_wp2
  go_ret
  exact ⟨rfl, rfl⟩
theorem may_no (lo hi : Int) (w : World) (h : mayB (lo, hi) = false) :
    Calls Tryd.prog 40 #[.agg #[.int .i64 lo, .int .i64 hi]] w fun e w' => e = .returned (.bool false) ∧ w' = w.alloc (.cells #[.int .i64 lo, .int .i64 hi] 26) := by
  have h' : ¬ (0 ≤ lo ∧ lo ≤ hi ∧ hi ≤ 1099511627776) := fun hh => by rw [(mayB_iff _).2 hh] at h; cases h
  clear h
  by_cases h1 : 0 ≤ lo
  · by_cases h2 : lo ≤ hi
    · have h3 : ¬ hi ≤ 1099511627776 := by omega
      clear h'
      go_enter Tryd.func40, Tryd.ntmps40
      go_wp2
      go_ret
      exact ⟨rfl, rfl⟩
    · clear h'
      go_enter Tryd.func40, Tryd.ntmps40
      go_wp2
      go_ret
      exact ⟨rfl, rfl⟩
  · clear h'
    go_enter Tryd.func40, Tryd.ntmps40
    go_wp2
    go_ret
    exact ⟨rfl, rfl⟩
theorem refMay_yes (lo hi : Int) (w : World) (h1 : 0 ≤ lo) (h2 : lo ≤ hi) (h3 : hi ≤ 1099511627776) :
    Calls Tryd.prog 44 #[.int .i64 lo, .int .i64 hi] w fun e w' => e = .returned (.bool true) ∧ w' = w := by
  go_enter Tryd.func44, Tryd.ntmps44
  go_wp2
  go_ret
  exact ⟨rfl, rfl⟩
theorem refMay_no (lo hi : Int) (w : World) (h : mayB (lo, hi) = false) :
    Calls Tryd.prog 44 #[.int .i64 lo, .int .i64 hi] w fun e w' => e = .returned (.bool false) ∧ w' = w := by
  have h' : ¬ (0 ≤ lo ∧ lo ≤ hi ∧ hi ≤ 1099511627776) := fun hh => by rw [(mayB_iff _).2 hh] at h; cases h
  clear h
  by_cases h1 : 0 ≤ lo
  · by_cases h2 : lo ≤ hi
    · have h3 : ¬ hi ≤ 1099511627776 := by omega
      clear h'
      go_enter Tryd.func44, Tryd.ntmps44
      go_wp2
      go_ret
      exact ⟨rfl, rfl⟩
    · clear h'
      go_enter Tryd.func44, Tryd.ntmps44
      go_wp2
      go_ret
      exact ⟨rfl, rfl⟩
  · clear h'
    go_enter Tryd.func44, Tryd.ntmps44
    go_wp2
    go_ret
    exact ⟨rfl, rfl⟩

theorem max_if (a b : Int) : (if a < b then b else a) = max a b := by rw [Int.max_def]; split <;> split <;> omega
theorem min_if (a b : Int) : (if b < a then b else a) = min a b := by rw [Int.min_def]; split <;> split <;> omega
set_option maxHeartbeats 2000000 in
theorem refMeet_any (v : Value) (ps : List (Int × Int)) (w : World) (hv : Pairs w v ps) :
    Calls Tryd.prog 39 #[v] w fun e w' => e = .returned (.tuple #[.int .i64 (meetV ps).1, .int .i64 (meetV ps).2.1, .int .i64 (meetV ps).2.2]) ∧ ∃ n, w' = w.drewN n := by
  obtain ⟨a, cap, rfl, hm, _, hc⟩ := hv
  have HC := Lib.hid hc
  clear hc
  unfold maxLen at hm
  go_enter Tryd.func39, Tryd.ntmps39
  go_wp2_with fail
  go_loopw [5, 6, 7] (fun lo hi i wr => ∃ k n : Nat, k ≤ ps.length ∧ i = .int .i64 k ∧ lo = .int .i64 (meetTo (ps.take k)).1 ∧ hi = .int .i64 (meetTo (ps.take k)).2 ∧ wr = w.drewN n ∧ Hid ((ps.take k).all mayB = true)) (fun _ _ i _ => ps.length - (intOf i).toNat)
  case atStart => exact ⟨0, 0, by omega, rfl, rfl, rfl, rfl, rfl⟩
  case round =>
    obtain ⟨k, n, hk, rfl, rfl, rfl, rfl, hall⟩ := hrel
    by_cases hlt : k < ps.length
    · obtain ⟨b, off, hp, g1, g2⟩ := HC.out k hlt
      subst hp
      by_cases hmy : mayB (p1 ps k, p2 ps k) = true
      · obtain ⟨m1, m2, m3⟩ := (mayB_iff _).1 hmy
        have HS := Lib.hid (meetTo_succ ps k hlt)
        have HA : Hid ((ps.take (k + 1)).all mayB = true) := by unfold Hid; rw [all_take_succ ps k hlt, hall.out, hmy]; rfl
        generalize hs : meetTo (ps.take k) = s at *
        clear hs
        have e1 := max_if s.1 (p1 ps k)
        have e2 := min_if s.2 (p2 ps k)
        clear hmy hall
        go_wp2_with fail
        go_quiet ((go_at_call 44; exact quiet_at (refMay_yes _ _ _ m1 m2 m3)))
        go_wp2_with fail
        go_roundw
        case rel => exact ⟨k + 1, _, by omega, by go_num, by rw [HS.out], by rw [HS.out], rfl, HA.out⟩
        case measure => simp [intOf]; omega
      · have HA : Hid (meetV ps = (0, 0, 1)) := by unfold Hid meetV; rw [all_false ps k hlt (by simpa using hmy)]; rfl
        have hmn : mayB (p1 ps k, p2 ps k) = false := by simpa using hmy
        have HN := Lib.hid hmn
        clear hmy hmn
        go_wp2_with fail
        go_quiet ((go_at_call 44; exact quiet_at (refMay_no _ _ _ HN.out)))
        go_wp2_with fail
        go_ret3
        exact ⟨by rw [HA.out]; rfl, _, by rw [World.drewN_drewN]⟩
    · have hke : k = ps.length := by omega
      subst hke
      rw [List.take_length] at hall ⊢
      by_cases hlo : (meetTo ps).2 < (meetTo ps).1
      · have HA : Hid (meetV ps = (0, 0, 6)) := by unfold Hid meetV; rw [if_pos hall.out, if_pos hlo]
        clear hall
        go_wp2_with fail
        go_ret3
        exact ⟨by rw [HA.out]; rfl, _, rfl⟩
      · have HA : Hid (meetV ps = ((meetTo ps).1, (meetTo ps).2, 0)) := by unfold Hid meetV; rw [if_pos hall.out, if_neg hlo]
        clear hall
        go_wp2_with fail
        go_ret3
        exact ⟨by rw [HA.out]; rfl, _, rfl⟩

theorem winInfo : (Tryd.prog.info? 26).map (·.size) = some 2 := by kernel_rfl
/-- A result that is a window in a variable, and an error in a slot. -/
theorem ret_win {fn : Func} {p u : Tmp} (h : fn.results = #[.cell p 26, .tmp u]) (tmps : Array Value) (w : World) (g : Nat) (a b e : Value) (t : TypeId) (hp : tmps.getD p undef = .pointer (some ⟨g, 0, none⟩)) (he : tmps.getD u undef = e)
    (hg : w.heap[g]? = some (.cells #[a, b] t (0, 0))) : (results fn tmps).run Tryd.prog w = .ok (.tuple #[.agg #[a, b], e]) w := by
  rw [results_cell_tmp h, hp]
  have hl := run_loadVar_row (P := Tryd.prog) w g t 26 #[a, b] (0, 0) _ hg Tryd.underlying26 rfl winInfo
  simp only [asAddr, Sem.run_pure, Result.andThen_ok, hl, he]
set_option maxHeartbeats 2000000 in
theorem meet_any (v : Value) (ps : List (Int × Int)) (w : World) (hv : Pairs w v ps) :
    Calls Tryd.prog 13 #[v] w fun e w' => e = .returned (.tuple #[.agg #[.int .i64 (meetV ps).1, .int .i64 (meetV ps).2.1], .int .i64 (meetV ps).2.2]) ∧ Below w.heap.size w w' := by
  obtain ⟨a, cap, rfl, hm, _, hc⟩ := hv
  have HC := Lib.hid hc
  clear hc
  unfold maxLen at hm
  go_enter Tryd.func13, Tryd.ntmps13
  go_wp2_with fail
  go_loopw [10] (fun i wr => ∃ k : Nat, k ≤ ps.length ∧ i = .int .i64 k ∧ Hid ((ps.take k).all mayB = true) ∧ Hid (Below w.heap.size w wr ∧ w.heap.size + 1 < wr.heap.size ∧ wr.heap[w.heap.size]? = some (.cells #[.int .i64 0, .int .i64 0] 26 (0, 0)) ∧
    wr.heap[w.heap.size + 1]? = some (.cells #[.int .i64 (meetTo (ps.take k)).1, .int .i64 (meetTo (ps.take k)).2] 26 (0, 0)))) (fun i _ => ps.length - (intOf i).toNat)
  case atStart => exact ⟨0, by omega, rfl, rfl, (((Below.refl _ _).alloc (Nat.le_refl _) _).alloc (by rw [size_alloc]; omega) _), by rw [size_alloc, size_alloc]; omega, heap_alloc2_old _ _ _, heap_alloc2_new _ _ _⟩
  case round =>
    obtain ⟨k, hk, rfl, hall, hq⟩ := hrel
    obtain ⟨q1, q2, q3, q4⟩ := hq.out
    have Q1 := Lib.hid q1
    have Q3 := Lib.hid q3
    have Q4 := Lib.hid q4
    clear q1 q3 q4 hq
    have c0 : wr.cell? ⟨w.heap.size + 1, 0, none⟩ = some (.int .i64 (meetTo (ps.take k)).1) := cell_of_row _ _ 0 _ _ _ Q4.out
    have c1 : wr.cell? ⟨w.heap.size + 1, 1, none⟩ = some (.int .i64 (meetTo (ps.take k)).2) := cell_of_row _ _ 1 _ _ _ Q4.out
    have f0 : wr.frozen? ⟨w.heap.size + 1, 0, none⟩ = false := frozen_of_row _ _ 0 _ _ Q4.out
    have f1 : wr.frozen? ⟨w.heap.size + 1, 1, none⟩ = false := frozen_of_row _ _ 1 _ _ Q4.out
    by_cases hlt : k < ps.length
    · obtain ⟨b, off, hp, g1, g2⟩ := HC.out k hlt
      subst hp
      have hbz : b < w.heap.size := World.block_lt_of_cell? w _ g1
      have g1 : wr.cell? ⟨b, off + k * 2, none⟩ = some (.int .i64 (p1 ps k)) := (Q1.out.cell (p := ⟨b, off + k * 2, none⟩) hbz).trans g1
      have g2 : wr.cell? ⟨b, off + k * 2 + 1, none⟩ = some (.int .i64 (p2 ps k)) := (Q1.out.cell (p := ⟨b, off + k * 2 + 1, none⟩) hbz).trans g2
      clear hbz
      by_cases hmy : mayB (p1 ps k, p2 ps k) = true
      · obtain ⟨m1, m2, m3⟩ := (mayB_iff _).1 hmy
        have HS := Lib.hid (meetTo_succ ps k hlt)
        have HA : Hid ((ps.take (k + 1)).all mayB = true) := by unfold Hid; rw [all_take_succ ps k hlt, hall.out, hmy]; rfl
        generalize hs : meetTo (ps.take k) = s at *
        clear hs
        have e1 := max_if s.1 (p1 ps k)
        have e2 := min_if s.2 (p2 ps k)
        clear hmy hall
        go_wp2_with fail
        refine (may_yes _ _ _ m1 m2 m3).mono ?_
        rintro e w' ⟨rfl, rfl⟩
        obtain ⟨l1, l2, l3⟩ := local_facts wr #[.int .i64 (p1 ps k), .int .i64 (p2 ps k)] 26
        have x0 : ((wr.alloc (.cells #[.int .i64 (p1 ps k), .int .i64 (p2 ps k)] 26)).alloc (.cells #[.int .i64 (p1 ps k), .int .i64 (p2 ps k)] 26)).heap[wr.heap.size]? = some (.cells #[.int .i64 (p1 ps k), .int .i64 (p2 ps k)] 26 (0, 0)) := heap_alloc2_old _ _ _
        generalize (wr.alloc (.cells #[.int .i64 (p1 ps k), .int .i64 (p2 ps k)] 26)).alloc (.cells #[.int .i64 (p1 ps k), .int .i64 (p2 ps k)] 26) = w6 at *
        have d0 := (l1.cell (p := ⟨w.heap.size + 1, 0, none⟩) q2).trans c0
        have d1 := (l1.cell (p := ⟨w.heap.size + 1, 1, none⟩) q2).trans c1
        have h0 := (l1.frozen (p := ⟨w.heap.size + 1, 0, none⟩) q2).trans f0
        have h1 := (l1.frozen (p := ⟨w.heap.size + 1, 1, none⟩) q2).trans f1
        have y0 : w6.cell? ⟨wr.heap.size, 0, none⟩ = some (.int .i64 (p1 ps k)) := cell_of_row _ _ 0 _ _ _ x0
        have y1 : w6.cell? ⟨wr.heap.size, 1, none⟩ = some (.int .i64 (p2 ps k)) := cell_of_row _ _ 1 _ _ _ x0
        have L1 := Lib.hid l1
        have L3 := Lib.hid l3
        have D4 : Hid (w6.heap[w.heap.size + 1]? = some (.cells #[.int .i64 s.1, .int .i64 s.2] 26 (0, 0))) := (l1.block _ q2).trans Q4.out
        have D3 : Hid (w6.heap[w.heap.size]? = some (.cells #[.int .i64 0, .int .i64 0] 26 (0, 0))) := (l1.block _ (by omega)).trans Q3.out
        clear l1 l2 l3 x0 c0 c1 f0 f1 g1 g2
        go_wp2_with fail
        go_roundw
        case rel =>
          refine ⟨k + 1, by omega, by go_num, HA.out, ?_, ?_, ?_, ?_⟩
          · exact ((Q1.out.trans (L1.out.mono Q1.out.size)).setCell (Nat.le_succ _) _).setCell (Nat.le_succ _) _
          · simp [World.setCell]; have := L3.out; omega
          · rw [heap_setCell_other _ _ _ _ (by simp), heap_setCell_other _ _ _ _ (by simp)]; exact D3.out
          · rw [heap_setCell_same _ _ _ _ _ _ (heap_setCell_same _ _ _ _ _ _ D4.out), HS.out]
            rfl
        case measure => simp [intOf]; omega
      · have HA : Hid (meetV ps = (0, 0, 1)) := by unfold Hid meetV; rw [all_false ps k hlt (by simpa using hmy)]; rfl
        have hmn : mayB (p1 ps k, p2 ps k) = false := by simpa using hmy
        have HN := Lib.hid hmn
        clear hmy hmn
        go_wp2_with fail
        refine (may_no _ _ _ HN.out).mono ?_
        rintro e w' ⟨rfl, rfl⟩
        obtain ⟨l1, l2, l3⟩ := local_facts wr #[.int .i64 (p1 ps k), .int .i64 (p2 ps k)] 26
        generalize (wr.alloc (.cells #[.int .i64 (p1 ps k), .int .i64 (p2 ps k)] 26)).alloc (.cells #[.int .i64 (p1 ps k), .int .i64 (p2 ps k)] 26) = w6 at *
        have D3 : w6.heap[w.heap.size]? = some (.cells #[.int .i64 0, .int .i64 0] 26 (0, 0)) := (l1.block _ (by omega)).trans Q3.out
        have d0 : w6.cell? ⟨w.heap.size, 0, none⟩ = some (.int .i64 0) := cell_of_row _ _ 0 _ _ _ D3
        have d1 : w6.cell? ⟨w.heap.size, 1, none⟩ = some (.int .i64 0) := cell_of_row _ _ 1 _ _ _ D3
        have h0 := frozen_of_row w6 w.heap.size 0 _ _ D3
        have h1 := frozen_of_row w6 w.heap.size 1 _ _ D3
        have L1 := Lib.hid l1
        have D3 := Lib.hid D3
        clear l1 l2 l3
        go_wp2_with fail
        have E3 : ∀ (w6 : World) (A B : Value), w6.heap[w.heap.size]? = some (.cells #[A, B] 26 (0, 0)) → ∀ x y, ((w6.setCell ⟨w.heap.size, 0, none⟩ x).setCell ⟨w.heap.size, 1, none⟩ y).heap[w.heap.size]? = some (.cells #[x, y] 26 (0, 0)) := fun w6 A B h x y => by
          rw [heap_setCell_same _ _ _ _ _ _ (heap_setCell_same _ _ _ _ _ _ h)]
          rfl
        refine bodyPost_ret (v := .tuple #[.agg #[.int .i64 0, .int .i64 0], .int .i64 1]) (ret_win rfl _ _ w.heap.size _ _ _ 26 rfl rfl (E3 _ _ _ D3.out _ _)) rfl ⟨by rw [HA.out], ?_⟩
        exact ((Q1.out.trans (L1.out.mono Q1.out.size)).setCell (Nat.le_refl _) _).setCell (Nat.le_refl _) _
    · have hke : k = ps.length := by omega
      subst hke
      rw [List.take_length] at hall Q4 c0 c1
      have D3 := Q3
      have E3 : Hid (∀ x y, ((wr.setCell ⟨w.heap.size, 0, none⟩ x).setCell ⟨w.heap.size, 1, none⟩ y).heap[w.heap.size]? = some (.cells #[x, y] 26 (0, 0))) := fun x y => by
        rw [heap_setCell_same _ _ _ _ _ _ (heap_setCell_same _ _ _ _ _ _ Q3.out)]
        rfl
      have d0 : wr.cell? ⟨w.heap.size, 0, none⟩ = some (.int .i64 0) := cell_of_row _ _ 0 _ _ _ Q3.out
      have d1 : wr.cell? ⟨w.heap.size, 1, none⟩ = some (.int .i64 0) := cell_of_row _ _ 1 _ _ _ Q3.out
      have h0 := frozen_of_row wr w.heap.size 0 _ _ Q3.out
      have h1 := frozen_of_row wr w.heap.size 1 _ _ Q3.out
      by_cases hlo : (meetTo ps).2 < (meetTo ps).1
      · have HA : Hid (meetV ps = (0, 0, 6)) := by unfold Hid meetV; rw [if_pos hall.out, if_pos hlo]
        clear hall
        go_wp2_with fail
        refine bodyPost_ret (v := .tuple #[.agg #[.int .i64 0, .int .i64 0], .int .i64 6]) (ret_win rfl _ _ w.heap.size _ _ _ 26 rfl rfl (E3.out _ _)) rfl ⟨by rw [HA.out], ?_⟩
        exact (Q1.out.setCell (Nat.le_refl _) _).setCell (Nat.le_refl _) _
      · have HA : Hid (meetV ps = ((meetTo ps).1, (meetTo ps).2, 0)) := by unfold Hid meetV; rw [if_pos hall.out, if_neg hlo]
        clear hall
        go_wp2_with fail
        refine bodyPost_ret (v := .tuple #[.agg #[.int .i64 (meetTo ps).1, .int .i64 (meetTo ps).2], .int .i64 0]) (ret_win rfl _ _ w.heap.size _ _ _ 26 rfl rfl (E3.out _ _)) rfl ⟨by rw [HA.out], ?_⟩
        exact (Q1.out.setCell (Nat.le_refl _) _).setCell (Nat.le_refl _) _
end Go.Proofs.YtnomamimpnogpaaDoor
