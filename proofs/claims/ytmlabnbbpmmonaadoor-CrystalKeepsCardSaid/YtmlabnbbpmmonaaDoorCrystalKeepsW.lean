/- The walk of CrystalKeeps. -/
import Derived.Test.YtmlabnbbpmmonaaDoorCrystalStandsW
import Derived.Test.YtmlabnbbpmmonaaDoorOpenLib
import Derived.Test.YtmlabnbbpmmonaaDoorDivV
import Derived.OpenShut
import Derived.Deep.DeepCutAuto
import Derived.Deep.CutBlock
import Derived.Deep.LoopGhost
import Derived.Deep.RegionHeld3
namespace Go.Proofs.YtmlabnbbpmmonaaDoor
open Go.RowKit Go.ChangeShapes
namespace keeps
theorem rises : ∀ k, k < 32 → 1 ≤ k → tab (k - 1) < tab k := by decide +kernel
/-- The calls, whatever they are asked. -/
theorem rate_any (i : Int) (w : World) (hT : Tab w) : Calls Tryd.prog 9 #[.int .i64 i] w fun e w' => (∃ r x : Int, e = .returned (.tuple #[.int .i64 r, .int .i64 x])) ∧ w = w' := by
  by_cases h : i < 0 ∨ 32 ≤ i
  · exact (rate_out i w h).mono fun _ _ ⟨h, e⟩ => ⟨⟨_, _, h⟩, e⟩
  · obtain ⟨k, rfl⟩ := Int.eq_ofNat_of_zero_le (show 0 ≤ i by omega)
    exact (rate_in k w (by omega) (hT.at k (by omega))).mono fun _ _ ⟨h, e⟩ => ⟨⟨_, _, h⟩, e⟩
theorem near_any (v : Int) (w : World) (hT : Tab w) (hv : v ≤ 9223372036854775807) : Calls Tryd.prog 13 #[.int .i64 v] w fun e w' => (∃ r x : Int, e = .returned (.tuple #[.int .i64 r, .int .i64 x])) ∧ Below w.heap.size w w' := by
  by_cases h : v < 0
  · exact (near_arg v w h).mono fun _ _ ⟨h, e⟩ => ⟨⟨_, _, h⟩, e⟩
  · exact (near_ok v w hT hT.pos (by omega) hv).mono fun _ _ ⟨h, e⟩ => ⟨⟨_, _, h⟩, e⟩
end keeps
open keeps stands

theorem steps_arg {H : Type} {enc : TypeId × Value → H} {P : Program} {w : World} {base b0 : Nat} {spare : Nat → Bool} {held : Bool} {r : Reach} {v : Value} {d : DataW H} {ps : List MemPlace}
    (hv : Value.okWide Tryd.prog w r b0 42 v) (h : DataW.Trod enc Tryd.prog w base spare held 42 v d ps) : Ints3 .i64 w v :=
  ints3 Tryd.underlying42 Tryd.underlying44 (by kernel_rfl) (by kernel_rfl) Tryd.underlying3 Tryd.underlying2 Tryd.underlying2 hv h

set_option maxHeartbeats 8000000 in
set_option maxRecDepth 100000 in
theorem crystalKeeps_walk {H : Type} {enc : TypeId × Value → H} (v : Value) (d : DataW H) (ps : List MemPlace) (W : World)
    (h : DataW.Trod enc Tryd.prog W 0 (fun _ => true) true 42 v d ps) {base : Nat} (hok : Value.okWide Tryd.prog W .any base 42 v) (_ : ∀ n ∈ DataW.weights Tryd.prog 42 d, n ≤ reachBytes) (_ : W.ShapedOpen Tryd.prog) (hT : Tab W) :
    Calls Tryd.prog 8 #[v] W fun e w' => e = .returned (.bool true) ∧ Below W.heap.size W w' := by
  obtain ⟨a, len, cap, rfl, hm, hs⟩ := steps_arg (P := Tryd.prog) hok h
  have HS := Lib.hid hs
  clear h hok hs
  unfold maxLen at hm
  have hpos := hT.pos
  go_enter Tryd.func8, Tryd.ntmps8
  go_wp2_with fail
  refine (awake_any W hT).mono ?_
  rintro e w' ⟨rfl, rfl⟩
  go_wp2_with fail
  refine (table_any W hT).mono ?_
  rintro e w' ⟨rfl, rfl⟩
  go_wp2_with (refine wpList_store_row rfl 30 _ _ rfl _ tabV rfl rfl 30 _ (heap_alloc2_new _ _ _) cellsArr rfl tabV_all ?_; rw [setRow_alloc2])
  have hb2 : Hid (Below W.heap.size W ((W.alloc (.cells tabV 30)).alloc (.cells tabV 30))) :=
    ((Below.refl _ _).alloc (Nat.le_refl _) _).alloc (by rw [size_alloc]; omega) _
  have hR : Hid (RowAt ((W.alloc (.cells tabV 30)).alloc (.cells tabV 30)) (.pointer (some ⟨W.heap.size + 1, 0, none⟩)) tabV) := ⟨_, _, _, rfl, heap_alloc2_new W _ _⟩
  generalize (W.alloc (.cells tabV 30)).alloc (.cells tabV 30) = w2 at *
  go_wp2_with fail
  go_loopw [4] (fun i wr => ∃ k n : Nat, 1 ≤ k ∧ k ≤ 32 ∧ i = .int .i64 k ∧ wr = w2.drewN n) (fun i _ => 32 - (intOf i).toNat)
  case atStart => exact ⟨1, 0, by omega, by omega, rfl, rfl⟩
  case round =>
    obtain ⟨k, n, hk1, hk, rfl, rfl⟩ := hrel
    by_cases hlt : k < 32
    · have c1 : w2.cell? ⟨W.heap.size + 1, k - 1, none⟩ = some (.int .i64 (tab (k - 1))) := (hR.out.cell (k - 1)).trans (tabV_at (k - 1) (by omega))
      have c2 : w2.cell? ⟨W.heap.size + 1, k, none⟩ = some (.int .i64 (tab k)) := (hR.out.cell k).trans (tabV_at k hlt)
      have c3 := rises k hlt hk1
      go_wp2_with fail
      go_quiet (fail)
      go_wp2_with fail
      go_roundw
      case rel => exact ⟨k + 1, _, by omega, by omega, by go_num, rfl⟩
      case measure => simp [intOf]; omega
    · have hke : k = 32 := by omega
      subst hke
      go_wp2_with fail
      go_loopg [5] len (fun r i wr => ∃ j : Nat, j ≤ len ∧ r = len - j ∧ i = .int .i64 j ∧ Hid (Below w2.heap.size w2 wr))
      case atStart => exact ⟨0, by omega, by omega, rfl, below_drewN (Below.refl _ _) n⟩
      case round =>
        obtain ⟨j, hj, hr, rfl, hb⟩ := hrel
        have HR := Lib.hid hr
        clear hr
        by_cases hlt : j < len
        · obtain ⟨b, off, hp, z0, z1, z2, f0, f1, f2, g0, g1, g2⟩ := HS.out j hlt
          subst hp
          have hTr : Tab wr := (hT.grown hb2.out).grown hb.out
          have hbl : Hid (b < W.heap.size) := World.block_lt_of_cell? W _ g0
          have G0 := Lib.hid g0
          have G1 := Lib.hid g1
          have G2 := Lib.hid g2
          clear g0 g1 g2
          go_wp2_with fail
          refine (table_any wr hTr).mono ?_
          rintro e w' ⟨rfl, rfl⟩
          have hb4 : Hid (Below w2.heap.size w2 ((wr.alloc (.cells tabV 30)).alloc (.cells tabV 30))) :=
            hb.out.trans (((Below.refl _ _).alloc hb.out.size _).alloc (by have := hb.out.size; rw [size_alloc]; omega) _)
          have hz4 : Hid (w2.heap.size < wr.heap.size + 1 ∧ wr.heap.size + 1 < ((wr.alloc (.cells tabV 30)).alloc (.cells tabV 30)).heap.size) := by
            unfold Hid; rw [size_alloc, size_alloc]; have := hb.out.size; omega
          have hu : Hid (((wr.alloc (.cells tabV 30)).alloc (.cells tabV 30)).heap[wr.heap.size + 1]? = some (.cells tabV 30 (0, 0))) := heap_alloc2_new wr _ _
          go_wp2_with (refine wpList_store_row rfl 30 _ _ rfl _ tabV rfl rfl 30 _ (heap_alloc2_new _ _ _) cellsArr rfl tabV_all ?_; rw [setRow_alloc2]; generalize (wr.alloc (.cells tabV 30)).alloc (.cells tabV 30) = w4 at hb4 hz4 hu ⊢; revert w4)
          intro w4 hb4 hz4 hu
          have hT4 : Tab w4 := (hT.grown hb2.out).grown hb4.out
          have hbW : Hid (Below W.heap.size W w4) := hb2.out.trans (hb4.out.mono hb2.out.size)
          have k0 : w4.cell? ⟨b, off + j * 3, none⟩ = some (.int .i64 z0) := (hbW.out.cell (p := ⟨b, off + j * 3, none⟩) hbl.out).trans G0.out
          have k1 : w4.cell? ⟨b, off + j * 3 + 1, none⟩ = some (.int .i64 z1) := (hbW.out.cell (p := ⟨b, off + (j * 3 + 1), none⟩) hbl.out).trans G1.out
          have k2 : w4.cell? ⟨b, off + j * 3 + 2, none⟩ = some (.int .i64 z2) := (hbW.out.cell (p := ⟨b, off + (j * 3 + 2), none⟩) hbl.out).trans G2.out
          generalize hB : wr.heap.size + 1 = B at *
          go_upto_block 4 with fail
          go_cut [] (fun wx => Hid (Below w4.heap.size w4 wx))
          case first =>
            have bd1 := (bounds_i64 f1).2
            by_cases e0 : z0 = 0
            · subst e0
              go_wp2_with fail
              refine (near_any z1 w4 hT4 bd1).mono ?_
              rintro e w' ⟨⟨r, x, rfl⟩, hbx⟩
              have HBX := Lib.hid hbx
              clear hbx
              go_wp2_with fail
              go_meet
              exact HBX.out
            by_cases e1 : z0 = 1
            · subst e1
              go_wp2_with fail
              refine (rate_any z1 w4 hT4).mono ?_
              rintro e w' ⟨⟨r, x, rfl⟩, rfl⟩
              go_wp2_with fail
              go_meet
              exact Below.refl _ _
            have n0 : (z0 == 0) = false := by simp [e0]
            have n1 : (z0 == 1) = false := by simp [e1]
            clear e0 e1
            by_cases e2 : z0 = 2
            · subst e2
              go_wp2_with fail
              go_quiet ((go_at_call 11; exact Calls.quiet_of_same ((divider_any z1 z2 _).mono fun _ _ ⟨h, e⟩ => ⟨h, e.symm⟩)))
              go_wp2_with fail
              go_meet
              exact below_drewN (Below.refl _ _) _
            have n2 : (z0 == 2) = false := by simp [e2]
            clear e2
            have cl : Hid (∀ B w, w.cell? ⟨B, 0, none⟩ = some (.int .i64 z2) → Calls Tryd.prog 19 #[.int .i64 z1, .slice (some ⟨B, 0, none⟩) 1 1] w fun e w' => e = .returned (.tuple #[.int .i64 (chainV z1 [z2]).1, .int .i64 (chainV z1 [z2]).2]) ∧ w = w') := fun B w h =>
              chain_any z1 _ [z2] w (Ints.mk rfl (by simp [maxLen]) fun i hi => by
                obtain rfl : i = 0 := by simpa using hi
                simpa [nth] using h)
            go_wp2_with fail
            go_region_held3 (fun w' => w'.cell? ⟨b, off + j * 3 + 1, none⟩ = some (.int .i64 z1) ∧ w'.cell? ⟨b, off + j * 3 + 2, none⟩ = some (.int .i64 z2)) (go_keep)
              (first | (go_at_call 19; refine (cl.out _ _ (by simp [go_sem])).mono ?_; rintro e w' ⟨rfl, rfl⟩))
            go_wp2_with fail
            go_meet
            show Below _ _ _
            repeat (first | exact Below.refl _ _ | refine Below.drew ?_ | refine Below.alloc ?_ (by simp) _)
          case rest =>
            have hb5 : Hid (Below w2.heap.size w2 wc) := hb4.out.trans (hcut.out.mono hb4.out.size)
            have hu5 : Hid (wc.heap[B]? = some (.cells tabV 30 (0, 0))) := (hcut.out.block B hz4.out.2).trans hu.out
            have hBz : Hid (w2.heap.size ≤ B) := Nat.le_of_lt hz4.out.1
            clear hb4 hu hcut k0 k1 k2 hT4 hbW hz4
            go_wp2_with fail
            obtain ⟨wo, hwo⟩ : ∃ wo : World, wo = wr := ⟨_, rfl⟩
            clear hwo
            go_loopw [7] (fun i w6 => ∃ k : Nat, k ≤ 32 ∧ i = .int .i64 k ∧ Hid (Below w2.heap.size w2 w6 ∧ ∃ cs : Array Value, cs.size = 32 ∧ w6.heap[B]? = some (.cells cs 30 (0, 0)))) (fun i _ => 32 - (intOf i).toNat)
            case atStart => exact ⟨0, by omega, rfl, hb5.out, tabV, rfl, hu5.out⟩
            case round =>
              obtain ⟨k, hk, rfl, h6⟩ := hrel
              obtain ⟨hb6, cs, hcs, hg6⟩ := h6.out
              have HB6 := Lib.hid hb6
              have HG6 := Lib.hid hg6
              clear hb6 hg6 h6
              have hbW : Hid (Below W.heap.size W wr) := hb2.out.trans (HB6.out.mono hb2.out.size)
              by_cases hlt : k < 32
              · obtain ⟨v, hv⟩ : ∃ v, cs[k]? = some v := ⟨cs[k]'(by omega), by simp⟩
                have k1 : wr.cell? ⟨b, off + j * 3 + 1, none⟩ = some (.int .i64 z1) := (hbW.out.cell (p := ⟨b, off + (j * 3 + 1), none⟩) hbl.out).trans G1.out
                have ck : wr.cell? ⟨B, k, none⟩ = some v := (cell_of_row wr B k cs _ _ HG6.out).trans hv
                have fk : wr.frozen? ⟨B, k, none⟩ = false := frozen_of_row wr B k cs _ HG6.out
                go_wp2_with fail
                go_roundw
                case rel => exact ⟨k + 1, by omega, by go_num, HB6.out.setCell hBz.out _, cs.setIfInBounds k (.int .i64 z1), by simpa using hcs, heap_setCell_same wr B k cs _ _ HG6.out⟩
                case measure => simp [intOf]; omega
              · have hke : k = 32 := by omega
                subst hke
                have hT5 : Tab wr := hT.grown hbW.out
                have hR5 : RowAt wr (.pointer (some ⟨W.heap.size + 1, 0, none⟩)) tabV := hR.out.block HB6.out
                have te := tab_neq
                go_wp2_with fail
                have hTd : Tab wr.drew := hT5.grown (Below.refl _ _).drew
                have HBs : Hid (w2.heap.size ≤ wr.drew.heap.size) := HB6.out.size
                refine wp_region_any (by kernel_rfl) ?_
                change wpAny _ _ _ _ _ _ _ (World.drew _)
                refine wpAny_ready (rs := [0, 1]) (by kernel_rfl) (by simp) ?_
                refine AllReady.cons rfl (fun K hK => ?_) (AllReady.cons rfl (fun K hK => ?_) AllReady.nil)
                · go_simp
                  go_at_call 12
                  refine (table_any _ hTd).mono ?_
                  rintro e w' ⟨rfl, rfl⟩
                  show K _ _
                  refine hK _ _ ?_
                  clear hK K
                  refine wpAny_ready (rs := [1]) (by kernel_rfl) (by simp) ?_
                  refine AllReady.cons rfl (fun K hK => ?_) AllReady.nil
                  refine step_load_rowAt rfl 30 _ rfl tabV _ (hR5.drew.alloc _) Tryd.underlying30 rfl cellsArr ?_
                  refine hK _ _ ?_
                  clear hK K
                  refine wpAny_ready (rs := [2]) (by kernel_rfl) (by simp) ?_
                  refine AllReady.cons rfl (fun K hK => ?_) AllReady.nil
                  go_simp
                  refine hK _ _ ?_
                  clear hK K
                  refine wpAny_done (by kernel_rfl) ?_ _
                  go_wp2_with fail
                  go_roundg (len - (j + 1))
                  case measure => have := HR.out; omega
                  case rel => exact ⟨j + 1, by omega, rfl, by go_num, HB6.out.drew.alloc HBs.out _⟩
                · refine step_load_rowAt rfl 30 _ rfl tabV _ hR5.drew Tryd.underlying30 rfl cellsArr ?_
                  refine hK _ _ ?_
                  clear hK K
                  refine wpAny_ready (rs := [0]) (by kernel_rfl) (by simp) ?_
                  refine AllReady.cons rfl (fun K hK => ?_) AllReady.nil
                  go_simp
                  go_at_call 12
                  refine (table_any _ hTd).mono ?_
                  rintro e w' ⟨rfl, rfl⟩
                  show K _ _
                  refine hK _ _ ?_
                  clear hK K
                  refine wpAny_ready (rs := [2]) (by kernel_rfl) (by simp) ?_
                  refine AllReady.cons rfl (fun K hK => ?_) AllReady.nil
                  go_simp
                  refine hK _ _ ?_
                  clear hK K
                  refine wpAny_done (by kernel_rfl) ?_ _
                  go_wp2_with fail
                  go_roundg (len - (j + 1))
                  case measure => have := HR.out; omega
                  case rel => exact ⟨j + 1, by omega, rfl, by go_num, HB6.out.drew.alloc HBs.out _⟩
        · have hje : j = len := by omega
          subst hje
          go_wp2_with fail
          go_ret
          exact ⟨rfl, hb2.out.trans (hb.out.mono hb2.out.size)⟩
end Go.Proofs.YtmlabnbbpmmonaaDoor
