/- The walk of CrystalStands. -/
import Derived.Test.YtmlabnbbpmmonaaDoorCrystalA
import Derived.Deep.RegionLaw
namespace Go.Proofs.YtmlabnbbpmmonaaDoor
open Go.RowKit
namespace stands
theorem near_self : ∀ k, k < 32 → nearTo (tab k) 32 = k := by decide +kernel
theorem per_same : ∀ k, k < 32 → (FloatKind.f64.format.order (per k) (per k) != some .eq) = false := by decide +kernel
theorem tab_eql (w : World) : (binOp .eql 30 (.agg tabV) (.agg tabV)).run Tryd.prog w = .ok (.bool true) w := by kernel_rfl
theorem tab_neq (w : World) : (binOp .neq 30 (.agg tabV) (.agg tabV)).run Tryd.prog w = .ok (.bool false) w := by kernel_rfl
theorem refEntry' (k : Nat) (w : World) (hk : k < 32) : Calls Tryd.prog 15 #[.int .i64 k] w fun e w' => e = .returned (.int .i64 (tab k)) ∧ w' = w :=
  (refEntry k w hk).mono fun _ _ ⟨h, e⟩ => ⟨h, e.symm⟩
end stands
open stands
set_option maxHeartbeats 2000000 in
set_option maxRecDepth 100000 in
theorem crystalStands_walk (W : World) (_ : W.ShapedOpen Tryd.prog) (hT : Tab W) :
    Calls Tryd.prog 4 #[] W fun e w' => e = .returned (.bool true) ∧ Below W.heap.size W w' := by
  have hpos := hT.pos
  go_enter Tryd.func4, Tryd.ntmps4
  go_wp2_with fail
  refine (table_any W hT).mono ?_
  rintro e w' ⟨rfl, rfl⟩
  go_wp2_with (refine wpList_store_row rfl 30 _ _ rfl _ tabV rfl rfl 30 _ (heap_alloc2_new _ _ _) cellsArr rfl tabV_all ?_; rw [setRow_alloc2])
  have hb2 : Hid (Below W.heap.size W ((W.alloc (.cells tabV 30)).alloc (.cells tabV 30))) :=
    ((Below.refl _ _).alloc (Nat.le_refl _) _).alloc (by rw [size_alloc]; omega) _
  have hR : Hid (RowAt ((W.alloc (.cells tabV 30)).alloc (.cells tabV 30)) (.pointer (some ⟨W.heap.size + 1, 0, none⟩)) tabV) := ⟨_, _, _, rfl, heap_alloc2_new W _ _⟩
  have hz : Hid (W.heap.size + 2 = ((W.alloc (.cells tabV 30)).alloc (.cells tabV 30)).heap.size) := by unfold Hid; rw [size_alloc, size_alloc]
  generalize (W.alloc (.cells tabV 30)).alloc (.cells tabV 30) = w2 at *
  go_wp2_with fail
  go_loopw [2] (fun i wr => ∃ k : Nat, k ≤ 32 ∧ i = .int .i64 k ∧ Hid (Below w2.heap.size w2 wr)) (fun i _ => 32 - (intOf i).toNat)
  case atStart => exact ⟨0, by omega, rfl, Below.refl _ _⟩
  case round =>
    obtain ⟨k, hk, rfl, hb⟩ := hrel
    have hTr : Tab wr := (hT.grown hb2.out).grown hb.out
    have hRr : Hid (RowAt wr (.pointer (some ⟨W.heap.size + 1, 0, none⟩)) tabV) := hR.out.block hb.out
    by_cases hlt : k < 32
    · have ck : wr.cell? ⟨W.heap.size + 1, k, none⟩ = some (.int .i64 (tab k)) := (hRr.out.cell k).trans (tabV_at k hlt)
      obtain ⟨kb0, kb1⟩ := tab_bd k hlt
      go_wp2_with fail
      refine (rate_in k wr hlt (hTr.at k hlt)).mono ?_
      rintro e w' ⟨rfl, rfl⟩
      go_wp2_with fail
      refine (near_ok (tab k) wr hTr hTr.pos kb0 (by omega)).mono ?_
      rw [near_self k hlt]
      rintro e w3 ⟨rfl, hb3⟩
      have hT3 := hTr.grown hb3
      have ck3 : w3.cell? ⟨W.heap.size + 1, k, none⟩ = some (.int .i64 (tab k)) := ((hRr.out.block hb3).cell k).trans (tabV_at k hlt)
      have hbb : Hid (Below w2.heap.size w2 w3) := hb.out.trans (hb3.mono hb.out.size)
      clear hb3 ck hb hRr
      go_wp2_with fail
      refine (period_in k w3 hlt (hT3.at k hlt)).mono ?_
      rintro e w' ⟨rfl, rfl⟩
      go_wp2_with fail
      refine (refPeriod_in k w3 hlt).mono ?_
      rintro e w' ⟨rfl, rfl⟩
      have ps := per_same k hlt
      go_wp2_with fail
      go_quiet ((go_at_call 15; exact Calls.quiet_of_same (refEntry' k _ hlt)))
      go_wp2_with fail
      go_roundw
      case rel => exact ⟨k + 1, by omega, by go_num, below_drewN hbb.out nq⟩
      case measure => simp [intOf]; omega
    · obtain rfl : k = 32 := by omega
      go_wp2_with fail
      refine (table_any wr hTr).mono ?_
      rintro e w' ⟨rfl, rfl⟩
      go_wp2_with (refine wpList_store_row rfl 30 _ _ rfl _ tabV rfl rfl 30 _ (heap_alloc2_new _ _ _) cellsArr rfl tabV_all ?_; rw [setRow_alloc2])
      have hb4 : Hid (Below w2.heap.size w2 ((wr.alloc (.cells tabV 30)).alloc (.cells tabV 30))) :=
        hb.out.trans (((Below.refl _ _).alloc hb.out.size _).alloc (by have := hb.out.size; rw [size_alloc]; omega) _)
      have hz4 : w2.heap.size < wr.heap.size + 1 := by have := hb.out.size; omega
      have hu : Hid (((wr.alloc (.cells tabV 30)).alloc (.cells tabV 30)).heap[wr.heap.size + 1]? = some (.cells tabV 30 (0, 0))) := heap_alloc2_new wr _ _
      generalize (wr.alloc (.cells tabV 30)).alloc (.cells tabV 30) = w4 at *
      generalize hB : wr.heap.size + 1 = B at *
      have HB := Lib.hid hB
      clear hB
      go_wp2_with fail
      go_loopw [12] (fun i w5 => ∃ k : Nat, k ≤ 32 ∧ i = .int .i64 k ∧ Hid (Below w2.heap.size w2 w5 ∧ ∃ cs : Array Value, cs.size = 32 ∧ w5.heap[B]? = some (.cells cs 30 (0, 0)))) (fun i _ => 32 - (intOf i).toNat)
      case atStart => exact ⟨0, by omega, rfl, hb4.out, tabV, rfl, hu.out⟩
      case round =>
        obtain ⟨k, hk, rfl, h5⟩ := hrel
        obtain ⟨hb5, cs, hcs, hg5⟩ := h5.out
        have HB5 := Lib.hid hb5
        have HG5 := Lib.hid hg5
        clear hb5 hg5 h5
        by_cases hlt : k < 32
        · obtain ⟨v, hv⟩ : ∃ v, cs[k]? = some v := ⟨cs[k]'(by omega), by simp⟩
          have ck : wr.cell? ⟨B, k, none⟩ = some v := (cell_of_row wr B k cs _ _ HG5.out).trans hv
          have fk : wr.frozen? ⟨B, k, none⟩ = false := frozen_of_row wr B k cs _ HG5.out
          go_wp2_with fail
          go_roundw
          case rel => exact ⟨k + 1, by omega, by go_num, HB5.out.setCell (by show w2.heap.size ≤ B; omega) _, cs.setIfInBounds k (.int .i64 (-1)), by simpa using hcs, heap_setCell_same wr B k cs _ _ HG5.out⟩
          case measure => simp [intOf]; omega
        · obtain rfl : k = 32 := by omega
          have hT5 : Tab wr := (hT.grown hb2.out).grown HB5.out
          have hR5 : RowAt wr (.pointer (some ⟨W.heap.size + 1, 0, none⟩)) tabV := hR.out.block HB5.out
          have te := tab_eql
          go_wp2_with fail
          have hTd : Tab wr.drew := hT5.grown (Below.refl _ _).drew
          have hbW : Hid (Below W.heap.size W wr) := hb2.out.trans (HB5.out.mono hb2.out.size)
          have HBs : Hid (W.heap.size ≤ wr.drew.heap.size) := Nat.le_trans hb2.out.size HB5.out.size
          clear hb4 hu hb2 hR hz hz4
          refine wp_region_any (by kernel_rfl) ?_
          change wpAny _ _ _ _ _ _ _ (World.drew _)
          refine wpAny_ready (rs := [0, 1]) (by kernel_rfl) (by simp) ?_
          refine AllReady.cons rfl (fun K hK => ?_) (AllReady.cons rfl (fun K hK => ?_) AllReady.nil)
          · go_simp
            go_at_call 12
            refine (table_any _ hTd).mono ?_
            rintro e w' ⟨rfl, rfl⟩
            show K _ _
            refine hK _ _ ?_
            clear hK K
            refine wpAny_ready (rs := [1]) (by kernel_rfl) (by simp) ?_
            refine AllReady.cons rfl (fun K hK => ?_) AllReady.nil
            refine step_load_rowAt rfl 30 _ rfl tabV _ (hR5.drew.alloc _) Tryd.underlying30 rfl cellsArr ?_
            refine hK _ _ ?_
            clear hK K
            refine wpAny_ready (rs := [2]) (by kernel_rfl) (by simp) ?_
            refine AllReady.cons rfl (fun K hK => ?_) AllReady.nil
            go_simp
            refine hK _ _ ?_
            clear hK K
            refine wpAny_ready (rs := [3]) (by kernel_rfl) (by simp) ?_
            refine AllReady.cons rfl (fun K hK => ?_) AllReady.nil
            go_simp
            refine hK _ _ ?_
            clear hK K
            refine wpAny_done (by kernel_rfl) ?_ _
            go_wp2
            go_ret
            exact ⟨rfl, hbW.out.drew.alloc HBs.out _⟩
          · refine step_load_rowAt rfl 30 _ rfl tabV _ hR5.drew Tryd.underlying30 rfl cellsArr ?_
            refine hK _ _ ?_
            clear hK K
            refine wpAny_ready (rs := [0]) (by kernel_rfl) (by simp) ?_
            refine AllReady.cons rfl (fun K hK => ?_) AllReady.nil
            go_simp
            go_at_call 12
            refine (table_any _ hTd).mono ?_
            rintro e w' ⟨rfl, rfl⟩
            show K _ _
            refine hK _ _ ?_
            clear hK K
            refine wpAny_ready (rs := [2]) (by kernel_rfl) (by simp) ?_
            refine AllReady.cons rfl (fun K hK => ?_) AllReady.nil
            go_simp
            refine hK _ _ ?_
            clear hK K
            refine wpAny_ready (rs := [3]) (by kernel_rfl) (by simp) ?_
            refine AllReady.cons rfl (fun K hK => ?_) AllReady.nil
            go_simp
            refine hK _ _ ?_
            clear hK K
            refine wpAny_done (by kernel_rfl) ?_ _
            go_wp2
            go_ret
            exact ⟨rfl, hbW.out.drew.alloc HBs.out _⟩
end Go.Proofs.YtmlabnbbpmmonaaDoor
