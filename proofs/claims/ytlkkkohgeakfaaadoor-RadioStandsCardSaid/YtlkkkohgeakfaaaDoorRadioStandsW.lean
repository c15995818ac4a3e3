/- The walk of RadioStands. -/
import Derived.Test.YtlkkkohgeakfaaaDoorRadioA
import Derived.Deep.DeepCutAuto
import Derived.Deep.LoopGhost
namespace Go.Proofs.YtlkkkohgeakfaaaDoor
open Go.RowKit
namespace rstands
theorem mid : ∀ k : Nat, k < 20 → k ≠ 0 → k ≠ 19 → 160000000 + 25000 * (k : Int) + nth busL k + 2 * nth sensorL (k % 16) = nth radioL k := by decide +kernel
theorem rises : ∀ k : Nat, k < 16 → 1 ≤ k → nth radioL (k - 1) < nth radioL k := by decide +kernel
theorem at0 : ∀ k : Nat, k = 0 → 160000000 + 25000 * (k : Int) + nth busL k + 2 * nth sensorL (k % 16) - 2320 = nth radioL k := by intro k h; subst h; decide +kernel
theorem at19 : ∀ k : Nat, k = 19 → 160000000 + 25000 * (k : Int) + nth busL k + 2 * nth sensorL (k % 16) - 30640 = nth radioL k := by intro k h; subst h; decide +kernel
end rstands
open rstands
theorem Vars.mk {W : World} (h : Lib.TabIs Tryd.prog W "reveille/bus.table" .i64 busL) (h2 : Lib.TabIs Tryd.prog W "reveille/radio.table" .i64 radioL) (h3 : Lib.TabIs Tryd.prog W "reveille/sensor.table" .i64 sensorL) : busAt W ∧ radioAt W ∧ sensorAt W :=
  ⟨bus_mk h, radio_mk h2, sensor_mk h3⟩

set_option maxHeartbeats 4000000 in
set_option maxRecDepth 100000 in
theorem radioStands_walk (W : World) (_ : W.ShapedOpen Tryd.prog) (hv : busAt W ∧ radioAt W ∧ sensorAt W) :
    Calls Tryd.prog 3 #[] W fun e w' => e = .returned (.bool true) ∧ Below W.heap.size W w' := by
  obtain ⟨hB, hR, hS⟩ := hv
  go_enter Tryd.func3, Tryd.ntmps3
  go_wp2_with fail
  refine (radio_table W hR).mono ?_
  rintro e w' ⟨rfl, rfl⟩
  have L1 := Lib.hid (local_facts W (arrV radioL) 22)
  go_wp2_with (refine wpList_store_row rfl 22 _ _ rfl _ (arrV radioL) rfl rfl 22 _ (heap_alloc2_new _ _ _) radio_cells rfl (arrV_all _) ?_; rw [setRow_alloc2]; generalize (W.alloc (.cells (arrV radioL) 22)).alloc (.cells (arrV radioL) 22) = w1 at L1 ⊢; revert w1)
  intro w1 L1
  go_wp2_with fail
  refine (bus_table w1 (hB.grown L1.out.1)).mono ?_
  rintro e w' ⟨rfl, rfl⟩
  have L2 := Lib.hid (local_facts w1 (arrV busL) 22)
  go_wp2_with (refine wpList_store_row rfl 22 _ _ rfl _ (arrV busL) rfl rfl 22 _ (heap_alloc2_new _ _ _) bus_cells rfl (arrV_all _) ?_; rw [setRow_alloc2]; generalize (w1.alloc (.cells (arrV busL) 22)).alloc (.cells (arrV busL) 22) = w2 at L2 ⊢; revert w2)
  intro w2 L2
  have B12 : Hid (Below W.heap.size W w2) := L1.out.1.trans (L2.out.1.mono (by have := L1.out.2.2; omega))
  go_wp2_with fail
  refine (sensor_table w2 (hS.grown B12.out)).mono ?_
  rintro e w' ⟨rfl, rfl⟩
  have L3 := Lib.hid (local_facts w2 (arrV sensorL) 24)
  go_wp2_with (refine wpList_store_row rfl 24 _ _ rfl _ (arrV sensorL) rfl rfl 24 _ (heap_alloc2_new _ _ _) sensor_cells rfl (arrV_all _) ?_; rw [setRow_alloc2]; generalize (w2.alloc (.cells (arrV sensorL) 24)).alloc (.cells (arrV sensorL) 24) = w3 at L3 ⊢; revert w3)
  intro w3 L3
  have hz1 : Hid (w1.heap.size = W.heap.size + 2) := L1.out.2.2
  have hz2 : Hid (w2.heap.size = w1.heap.size + 2) := L2.out.2.2
  have B13 : Hid (Below W.heap.size W w3) := B12.out.trans (L3.out.1.mono (by have := hz1.out; have := hz2.out; omega))
  have B1 : Hid (Below w1.heap.size w1 w3) := L2.out.1.trans (L3.out.1.mono (by have := hz2.out; omega))
  have R1 : Hid (∀ k, k < 20 → w3.cell? ⟨W.heap.size + 1, k, none⟩ = some (.int .i64 (nth radioL k))) := fun k hk => row_at L1.out.2.1 B1.out k hk
  have R2 : Hid (∀ k, k < 20 → w3.cell? ⟨w1.heap.size + 1, k, none⟩ = some (.int .i64 (nth busL k))) := fun k hk => row_at L2.out.2.1 L3.out.1 k hk
  have R3 : Hid (∀ k, k < 16 → w3.cell? ⟨w2.heap.size + 1, k, none⟩ = some (.int .i64 (nth sensorL k))) := fun k hk => row_at L3.out.2.1 (Below.refl _ _) k hk
  go_wp2_with fail
  go_loopw [4] (fun i wr => ∃ k n : Nat, k ≤ 20 ∧ i = .int .i64 k ∧ wr = w3.drewN n) (fun i _ => 20 - (intOf i).toNat)
  case atStart => exact ⟨0, 0, by omega, rfl, rfl⟩
  case round =>
    obtain ⟨k, n, hk, rfl, rfl⟩ := hrel
    by_cases hlt : k < 20
    · have r1 := R1.out k hlt
      have r2 := R2.out k hlt
      have r3 := R3.out (k % 16) (Nat.mod_lt _ (by omega))
      obtain ⟨b1, b1'⟩ := radio_bd k hlt
      obtain ⟨b2, b2'⟩ := bus_bd k hlt
      obtain ⟨b3, b3'⟩ := sensor_bd (k % 16) (Nat.mod_lt _ (by omega))
      by_cases h0 : k = 0
      · have hm := at0 k h0
        have n0 : ((k : Int) == 0) = true := by simp [h0]
        have n19 : ((k : Int) == 19) = false := by simp [h0]
        have p0 : decide (0 < k) = false := by simp [h0]
        clear h0
        go_wp2_with fail
        go_quiet (fail)
        go_wp2_with fail
        go_quiet (fail)
        go_wp2_with fail
        go_roundw
        case rel => exact ⟨k + 1, _, by omega, by go_num, rfl⟩
        case measure => simp [intOf]; omega
      by_cases h19 : k = 19
      · have hm := at19 k h19
        have n0 : ((k : Int) == 0) = false := by simp [h0]
        have n19 : ((k : Int) == 19) = true := by simp [h19]
        have p0 : decide (0 < k) = true := by simp; omega
        have p1 : decide ((k : Int) < 16) = false := by simp; omega
        clear h0 h19
        go_wp2_with fail
        go_quiet (fail)
        go_wp2_with fail
        go_quiet (fail)
        go_wp2_with fail
        go_roundw
        case rel => exact ⟨k + 1, _, by omega, by go_num, rfl⟩
        case measure => simp [intOf]; omega
      have hm := mid k hlt h0 h19
      have n0 : ((k : Int) == 0) = false := by simp [h0]
      have n19 : ((k : Int) == 19) = false := by simp; omega
      have p0 : decide (0 < k) = true := by simp; omega
      clear h0 h19
      by_cases h16 : k < 16
      · have r4 := R1.out (k - 1) (by omega)
        have c := rises k h16 (by have := of_decide_eq_true p0; omega)
        have p2 : 1 ≤ k := of_decide_eq_true p0
        have p1 : decide ((k : Int) < 16) = true := by simp; omega
        go_wp2_with fail
        go_quiet (fail)
        go_wp2_with fail
        go_quiet (fail)
        go_wp2_with fail
        go_roundw
        case rel => exact ⟨k + 1, _, by omega, by go_num, rfl⟩
        case measure => simp [intOf]; omega
      · have p1 : decide ((k : Int) < 16) = false := by simp; omega
        go_wp2_with fail
        go_quiet (fail)
        go_wp2_with fail
        go_quiet (fail)
        go_wp2_with fail
        go_roundw
        case rel => exact ⟨k + 1, _, by omega, by go_num, rfl⟩
        case measure => simp [intOf]; omega
    · have hke : k = 20 := by omega
      subst hke
      have hz3 : Hid (w3.heap.size = w2.heap.size + 2) := L3.out.2.2
      have g1 : Hid (w3.heap[W.heap.size + 1]? = some (.cells (arrV radioL) 22 (0, 0))) := (B1.out.block _ (by have := hz1.out; omega)).trans L1.out.2.1
      have g2 : Hid (w3.heap[w1.heap.size + 1]? = some (.cells (arrV busL) 22 (0, 0))) := (L3.out.1.block _ (by have := hz2.out; omega)).trans L2.out.2.1
      have hne : Hid (W.heap.size + 1 ≠ w1.heap.size + 1) := by unfold Hid; have := hz1.out; omega
      have hn6 : Hid (W.heap.size + 1 < w3.heap.size ∧ w1.heap.size + 1 < w3.heap.size ∧ W.heap.size < w3.heap.size) := by unfold Hid; have := hz1.out; have := hz2.out; have := hz3.out; omega
      have hs1 : Hid (W.heap.size ≤ W.heap.size + 1 ∧ W.heap.size ≤ w1.heap.size + 1) := by unfold Hid; have := hz1.out; omega
      have A5 : Hid (Below W.heap.size W ((w3.drewN n).alloc (.cells (arrV radioL) 22))) := (below_drewN B13.out n).alloc (Nat.le_of_lt hn6.out.2.2) _
      have g15 : Hid (((w3.drewN n).alloc (.cells (arrV radioL) 22)).heap[W.heap.size + 1]? = some (.cells (arrV radioL) 22 (0, 0))) := (Below.heap_alloc (w3.drewN n) _ _ hn6.out.1).trans g1.out
      have g25 : Hid (((w3.drewN n).alloc (.cells (arrV radioL) 22)).heap[w1.heap.size + 1]? = some (.cells (arrV busL) 22 (0, 0))) := (Below.heap_alloc (w3.drewN n) _ _ hn6.out.2.1).trans g2.out
      have g65 : Hid (((w3.drewN n).alloc (.cells (arrV radioL) 22)).heap[w3.heap.size]? = some (.cells (arrV radioL) 22 (0, 0))) := heap_alloc_new (w3.drewN n) _
      have hl : Hid (RowAt (w3.drewN n) (.pointer (some ⟨W.heap.size + 1, 0, none⟩)) (arrV radioL)) := ⟨_, _, _, rfl, g1.out⟩
      clear R1 R2 R3 B1 B12 L1 L2 L3
      generalize hp1 : W.heap.size + 1 = p1 at *
      generalize hp2 : w1.heap.size + 1 = p2 at *
      have hP := Lib.hid (And.intro hp1 hp2)
      clear hp1 hp2 hz1 hz2 hz3
      have hsr : Hid (∀ old, ((w3.drewN n).alloc (.cells old 22)).setRow w3.heap.size (arrV radioL) = (w3.drewN n).alloc (.cells (arrV radioL) 22)) := fun old => setRow_alloc (w3.drewN n) old _ _ _
      go_wp2_with (first
        | (refine wpList_load_row rfl 22 _ rfl p1 rfl 22 (arrV radioL) (0, 0) _ g1.out Tryd.underlying22 rfl radio_cells ?_)
        | (refine wpList_store_row rfl 22 _ _ rfl w3.heap.size (arrV radioL) rfl rfl 22 _ (heap_alloc_new (w3.drewN n) _) radio_cells rfl (arrV_all _) ?_; rw [hsr.out]; generalize (w3.drewN n).alloc (.cells (arrV radioL) 22) = w5 at A5 g15 g25 g65 ⊢; revert w5))
      intro w5 A5 g15 g25 g65
      generalize hp6 : w3.heap.size = p6 at *
      have hP6 := Lib.hid hp6
      clear hp6 hl hsr
      go_wp2_with fail
      go_loopw [7] (fun i wr => ∃ k : Nat, k ≤ 20 ∧ i = .int .i64 k ∧ Hid (Below W.heap.size W wr ∧ wr.heap[p6]? = some (.cells (arrV radioL) 22 (0, 0)) ∧
        (∃ cs : Array Value, cs.size = 20 ∧ wr.heap[p1]? = some (.cells cs 22 (0, 0))) ∧ ∃ cs : Array Value, cs.size = 20 ∧ wr.heap[p2]? = some (.cells cs 22 (0, 0)))) (fun i _ => 20 - (intOf i).toNat)
      case atStart => exact ⟨0, by omega, rfl, A5.out, g65.out, ⟨_, arrV_size _, g15.out⟩, ⟨_, arrV_size _, g25.out⟩⟩
      case round =>
        obtain ⟨k, hk, rfl, hq⟩ := hrel
        obtain ⟨q1, q2, ⟨c1, s1, q3⟩, ⟨c2, s2, q4⟩⟩ := hq.out
        have Q1 := Lib.hid q1
        have Q2 := Lib.hid q2
        have Q3 := Lib.hid q3
        have Q4 := Lib.hid q4
        clear q1 q2 q3 q4 hq
        by_cases hlt : k < 20
        · obtain ⟨u1, hu1⟩ : ∃ v, c1[k]? = some v := ⟨c1[k]'(by omega), by simp⟩
          obtain ⟨u2, hu2⟩ : ∃ v, c2[k]? = some v := ⟨c2[k]'(by omega), by simp⟩
          have e1 : wr.cell? ⟨p1, k, none⟩ = some u1 := (cell_of_row wr p1 k c1 _ _ Q3.out).trans hu1
          have f1 : wr.frozen? ⟨p1, k, none⟩ = false := frozen_of_row wr p1 k c1 _ Q3.out
          have Q4' : Hid ((wr.setCell ⟨p1, k, none⟩ (.int .i64 (-1))).heap[p2]? = some (.cells c2 22 (0, 0))) := (heap_setCell_other wr ⟨p1, k, none⟩ p2 _ (fun e => hne.out e.symm)).trans Q4.out
          have e2 : (wr.setCell ⟨p1, k, none⟩ (.int .i64 (-1))).cell? ⟨p2, k, none⟩ = some u2 := (cell_of_row _ p2 k c2 _ _ Q4'.out).trans hu2
          have f2 : (wr.setCell ⟨p1, k, none⟩ (.int .i64 (-1))).frozen? ⟨p2, k, none⟩ = false := frozen_of_row _ p2 k c2 _ Q4'.out
          go_wp2_with fail
          go_roundw
          case rel =>
            refine ⟨k + 1, by omega, by go_num, (Q1.out.setCell hs1.out.1 _).setCell hs1.out.2 _, ?_, ⟨c1.setIfInBounds k (.int .i64 (-1)), by simpa using s1, ?_⟩, ⟨c2.setIfInBounds k (.int .i64 (-1)), by simpa using s2, ?_⟩⟩
            · rw [heap_setCell_other _ _ _ _ (show p6 ≠ p2 from fun e => by have := hn6.out; omega), heap_setCell_other _ _ _ _ (show p6 ≠ p1 from fun e => by have := hn6.out; omega)]
              exact Q2.out
            · rw [heap_setCell_other _ _ _ _ (show p1 ≠ p2 from hne.out)]
              exact heap_setCell_same wr p1 k c1 _ _ Q3.out
            · exact heap_setCell_same _ p2 k c2 _ _ Q4'.out
          case measure => simp [intOf]; omega
        · have hke : k = 20 := by omega
          subst hke
          have hRr : radioAt wr := hR.grown Q1.out
          have R6 : RowAt wr (.pointer (some ⟨p6, 0, none⟩)) (arrV radioL) := ⟨_, _, _, rfl, Q2.out⟩
          have c5 : wr.cell? ⟨p6, 5, none⟩ = some (.int .i64 (nth radioL 5)) := (R6.cell 5).trans (arrV_at _ 5 (by decide))
          have te := radio_eql
          go_wp2_with fail
          refine (radio_in 5 wr (by omega) hRr).mono ?_
          rintro e w' ⟨rfl, rfl⟩
          go_wp2_with fail
          have hTd : radioAt wr.drew := hRr.grown (Below.refl _ _).drew
          have hT2 : Hid (radioAt (wr.drew.alloc (.cells (arrV radioL) 22))) := hTd.grown ((Below.refl _ _).alloc (Nat.le_refl _) _)
          have HBs : Hid (Below W.heap.size W (wr.drew.alloc (.cells (arrV radioL) 22))) := Q1.out.drew.alloc Q1.out.size _
          have c5' : (wr.drew.alloc (.cells (arrV radioL) 22)).cell? ⟨p6, 5, none⟩ = some (.int .i64 (nth radioL 5)) := ((R6.drew.alloc _).cell 5).trans (arrV_at _ 5 (by decide))
          refine wp_region_any (by kernel_rfl) ?_
          change wpAny _ _ _ _ _ _ _ (World.drew _)
          refine wpAny_ready (rs := [0, 1]) (by kernel_rfl) (by simp) ?_
          refine AllReady.cons rfl (fun K hK => ?_) (AllReady.cons rfl (fun K hK => ?_) AllReady.nil)
          · go_simp
            go_at_call 9
            refine (radio_table _ hTd).mono ?_
            rintro e w' ⟨rfl, rfl⟩
            show K _ _
            refine hK _ _ ?_
            clear hK K
            refine wpAny_ready (rs := [1]) (by kernel_rfl) (by simp) ?_
            refine AllReady.cons rfl (fun K hK => ?_) AllReady.nil
            refine step_load_rowAt rfl 22 _ rfl (arrV radioL) _ (R6.drew.alloc _) Tryd.underlying22 rfl radio_cells ?_
            refine hK _ _ ?_
            clear hK K
            generalize wr.drew.alloc (.cells (arrV radioL) 22) = w9 at *
            refine wpAny_ready (rs := [2]) (by kernel_rfl) (by simp) ?_
            refine AllReady.cons rfl (fun K hK => ?_) AllReady.nil
            go_simp
            refine hK _ _ ?_
            clear hK K
            refine wpAny_ready (rs := [3]) (by kernel_rfl) (by simp) ?_
            refine AllReady.cons rfl (fun K hK => ?_) AllReady.nil
            go_simp
            refine hK _ _ ?_
            clear hK K
            refine wpAny_ready (rs := [4]) (by kernel_rfl) (by simp) ?_
            refine AllReady.cons rfl (fun K hK => ?_) AllReady.nil
            go_simp
            refine hK _ _ ?_
            clear hK K
            refine wpAny_ready (rs := [5]) (by kernel_rfl) (by simp) ?_
            refine AllReady.cons rfl (fun K hK => ?_) AllReady.nil
            go_simp
            refine hK _ _ ?_
            clear hK K
            refine wpAny_ready (rs := [6]) (by kernel_rfl) (by simp) ?_
            refine AllReady.cons rfl (fun K hK => ?_) AllReady.nil
            go_simp
            refine hK _ _ ?_
            clear hK K
            refine wpAny_ready (rs := [7]) (by kernel_rfl) (by simp) ?_
            refine AllReady.cons rfl (fun K hK => ?_) AllReady.nil
            go_simp
            refine hK _ _ ?_
            clear hK K
            refine wpAny_take (i := 8) (v := .int .i64 (nth radioL 5)) rfl (by kernel_rfl) (by kernel_rfl) (by kernel_rfl) (fun _ _ _ h => h) (Or.inl ⟨by rfl, fun w => by go_simp⟩) ?_
            refine wpAny_ready (rs := [9]) (by kernel_rfl) (by simp) ?_
            refine AllReady.cons rfl (fun K hK => ?_) AllReady.nil
            go_simp
            refine hK _ _ ?_
            clear hK K
            refine wpAny_ready (rs := [10]) (by kernel_rfl) (by simp) ?_
            refine AllReady.cons rfl (fun K hK => ?_) AllReady.nil
            go_simp
            refine hK _ _ ?_
            clear hK K
            refine wpAny_ready (rs := [11]) (by kernel_rfl) (by simp) ?_
            refine AllReady.cons rfl (fun K hK => ?_) AllReady.nil
            go_simp
            refine hK _ _ ?_
            clear hK K
            refine wpAny_ready (rs := [12]) (by kernel_rfl) (by simp) ?_
            refine AllReady.cons rfl (fun K hK => ?_) AllReady.nil
            go_simp
            refine hK _ _ ?_
            clear hK K
            refine wpAny_ready (rs := [13]) (by kernel_rfl) (by simp) ?_
            refine AllReady.cons rfl (fun K hK => ?_) AllReady.nil
            go_simp
            refine hK _ _ ?_
            clear hK K
            refine wpAny_ready (rs := [14]) (by kernel_rfl) (by simp) ?_
            refine AllReady.cons rfl (fun K hK => ?_) AllReady.nil
            go_simp
            go_at_call 13
            refine (awake_any _ hT2.out).mono ?_
            rintro e w' ⟨rfl, rfl⟩
            show K _ _
            refine hK _ _ ?_
            clear hK K
            refine wpAny_ready (rs := [15]) (by kernel_rfl) (by simp) ?_
            refine AllReady.cons rfl (fun K hK => ?_) AllReady.nil
            go_simp
            refine hK _ _ ?_
            clear hK K
            refine wpAny_ready (rs := [16]) (by kernel_rfl) (by simp) ?_
            refine AllReady.cons rfl (fun K hK => ?_) AllReady.nil
            go_simp
            refine hK _ _ ?_
            clear hK K
            refine wpAny_done (by kernel_rfl) ?_ _
            go_wp2_with fail
            go_ret
            exact ⟨rfl, HBs.out⟩
          · refine step_load_rowAt rfl 22 _ rfl (arrV radioL) _ R6.drew Tryd.underlying22 rfl radio_cells ?_
            refine hK _ _ ?_
            clear hK K
            refine wpAny_ready (rs := [0]) (by kernel_rfl) (by simp) ?_
            refine AllReady.cons rfl (fun K hK => ?_) AllReady.nil
            go_simp
            go_at_call 9
            refine (radio_table _ hTd).mono ?_
            rintro e w' ⟨rfl, rfl⟩
            show K _ _
            refine hK _ _ ?_
            clear hK K
            generalize wr.drew.alloc (.cells (arrV radioL) 22) = w9 at *
            refine wpAny_ready (rs := [2]) (by kernel_rfl) (by simp) ?_
            refine AllReady.cons rfl (fun K hK => ?_) AllReady.nil
            go_simp
            refine hK _ _ ?_
            clear hK K
            refine wpAny_ready (rs := [3]) (by kernel_rfl) (by simp) ?_
            refine AllReady.cons rfl (fun K hK => ?_) AllReady.nil
            go_simp
            refine hK _ _ ?_
            clear hK K
            refine wpAny_ready (rs := [4]) (by kernel_rfl) (by simp) ?_
            refine AllReady.cons rfl (fun K hK => ?_) AllReady.nil
            go_simp
            refine hK _ _ ?_
            clear hK K
            refine wpAny_ready (rs := [5]) (by kernel_rfl) (by simp) ?_
            refine AllReady.cons rfl (fun K hK => ?_) AllReady.nil
            go_simp
            refine hK _ _ ?_
            clear hK K
            refine wpAny_ready (rs := [6]) (by kernel_rfl) (by simp) ?_
            refine AllReady.cons rfl (fun K hK => ?_) AllReady.nil
            go_simp
            refine hK _ _ ?_
            clear hK K
            refine wpAny_ready (rs := [7]) (by kernel_rfl) (by simp) ?_
            refine AllReady.cons rfl (fun K hK => ?_) AllReady.nil
            go_simp
            refine hK _ _ ?_
            clear hK K
            refine wpAny_take (i := 8) (v := .int .i64 (nth radioL 5)) rfl (by kernel_rfl) (by kernel_rfl) (by kernel_rfl) (fun _ _ _ h => h) (Or.inl ⟨by rfl, fun w => by go_simp⟩) ?_
            refine wpAny_ready (rs := [9]) (by kernel_rfl) (by simp) ?_
            refine AllReady.cons rfl (fun K hK => ?_) AllReady.nil
            go_simp
            refine hK _ _ ?_
            clear hK K
            refine wpAny_ready (rs := [10]) (by kernel_rfl) (by simp) ?_
            refine AllReady.cons rfl (fun K hK => ?_) AllReady.nil
            go_simp
            refine hK _ _ ?_
            clear hK K
            refine wpAny_ready (rs := [11]) (by kernel_rfl) (by simp) ?_
            refine AllReady.cons rfl (fun K hK => ?_) AllReady.nil
            go_simp
            refine hK _ _ ?_
            clear hK K
            refine wpAny_ready (rs := [12]) (by kernel_rfl) (by simp) ?_
            refine AllReady.cons rfl (fun K hK => ?_) AllReady.nil
            go_simp
            refine hK _ _ ?_
            clear hK K
            refine wpAny_ready (rs := [13]) (by kernel_rfl) (by simp) ?_
            refine AllReady.cons rfl (fun K hK => ?_) AllReady.nil
            go_simp
            refine hK _ _ ?_
            clear hK K
            refine wpAny_ready (rs := [14]) (by kernel_rfl) (by simp) ?_
            refine AllReady.cons rfl (fun K hK => ?_) AllReady.nil
            go_simp
            go_at_call 13
            refine (awake_any _ hT2.out).mono ?_
            rintro e w' ⟨rfl, rfl⟩
            show K _ _
            refine hK _ _ ?_
            clear hK K
            refine wpAny_ready (rs := [15]) (by kernel_rfl) (by simp) ?_
            refine AllReady.cons rfl (fun K hK => ?_) AllReady.nil
            go_simp
            refine hK _ _ ?_
            clear hK K
            refine wpAny_ready (rs := [16]) (by kernel_rfl) (by simp) ?_
            refine AllReady.cons rfl (fun K hK => ?_) AllReady.nil
            go_simp
            refine hK _ _ ?_
            clear hK K
            refine wpAny_done (by kernel_rfl) ?_ _
            go_wp2_with fail
            go_ret
            exact ⟨rfl, HBs.out⟩
end Go.Proofs.YtlkkkohgeakfaaaDoor
