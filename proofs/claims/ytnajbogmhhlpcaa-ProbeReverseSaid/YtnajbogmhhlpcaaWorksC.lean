/- works answers true. -/
import Derived.Test.YtnajbogmhhlpcaaWorksB
namespace Go.Proofs.Ytnajbogmhhlpcaa
open Go.RowKit Go.ChangeShapes Tx Nm
theorem Cnt.below {p : Nat} {n : Int} {w w' : World} (h : Cnt p n w) (hb : Below w.heap.size w w') : Cnt p n w' := (hb.block p (Array.getElem?_eq_some_iff.1 h).1).trans h
theorem SB_int {b : Nat} (k : Nat) (C : Array Value) (z : Nat × Nat) : ¬ SB b k (.cells C 3 z) := SB_not (by decide) (by decide)
theorem res_at {w : World} {B : Nat} {g c : Nat} {r : Rs} (h : w.ownsRow B 77 5 (.slice (some ⟨g, 0, none⟩) 1 c) 1 (rl [r])) : ∀ j u, (rcells r.id r.name r.bh)[j]? = some u → w.cell? ⟨g, j, none⟩ = some u := fun j u hu => by
  have h3 : j < 5 := by have := (List.getElem?_eq_some_iff.1 hu).1; simpa [rcells] using this
  rw [h.cellAt j (by omega)]
  have := rl_at [r] 0 (by simp) j u hu
  simpa using this
set_option maxHeartbeats 16000000 in
set_option maxRecDepth 100000 in
theorem works_any {W : World} (hsh : W.ShapedOpen Try.prog) (w : World) (hW : Below W.heap.size W w) : Calls Try.prog 23 #[] w fun e w' => e = .returned (.bool true) ∧ Below w.heap.size w w' := by
  have HSH := Lib.hid hsh
  have HW := Lib.hid hW
  clear hsh hW
  go_enter Try.func23, Try.ntmps23
  go_wp2_with fail
  refine (bnew_any w).mono ?_
  rintro er w1 ⟨rfl, hw1⟩
  have ba := (Below.refl w.heap.size w).alloc (Nat.le_refl _) (.cells #[.slice none 0 0, .int .i64 0, .bool false, .bool false] 86)
  obtain ⟨b, hbb⟩ : ∃ p, p = w.heap.size := ⟨_, rfl⟩
  have BG : Hid (BagAt w1 w.heap.size b [] 0 false false) := Lib.hid (by rw [hw1, hbb]; exact bag_new w _ (Nat.le_refl _))
  rw [← hw1] at ba
  rw [← hbb]
  have B1 := Lib.hid ba
  clear ba hw1 hbb
  have b2 := (Below.refl w1.heap.size w1).alloc (Nat.le_refl _) (.cells #[.int .i64 0] 3)
  have C2 : Hid (Cnt w1.heap.size 0 (w1.alloc (.cells #[.int .i64 0] 3))) := Lib.hid (heap_alloc_new w1 _)
  have BG2 := Lib.hid (BG.out.below b2)
  have B2 := Lib.hid (B1.out.trans (b2.mono B1.out.size))
  have PB := Lib.hid B1.out.size
  clear b2 BG B1
  have CA := Lib.hid (works_add1 (p := w1.heap.size) BG2.out B2.out.size)
  go_wp2_with fail
  refine CA.out.mono ?_
  rintro er w3 ⟨rfl, hbag, hrel⟩
  obtain ⟨p, hp⟩ : ∃ p, w1.heap.size = p := ⟨_, rfl⟩
  have C3 := Lib.hid (C2.out.rel hrel SB_int)
  have BG3 := Lib.hid hbag
  have B3 := Lib.hid (hrel.out B2.out B2.out.size)
  clear CA C2 BG2 B2 hbag hrel
  rw [hp] at C3 BG3 PB ⊢
  clear hp
  have CA := Lib.hid (works_mark BG3.out B3.out.size)
  go_wp2_with fail
  refine CA.out.mono ?_
  rintro er w4 ⟨rfl, hbag, hrel⟩
  have C4 := Lib.hid (C3.out.rel hrel SB_int)
  have BG4 := Lib.hid hbag
  have B4 := Lib.hid (hrel.out B3.out B3.out.size)
  clear CA C3 BG3 B3 hbag hrel
  have CA := Lib.hid (works_add2 BG4.out B4.out.size)
  go_wp2_with fail
  refine CA.out.mono ?_
  rintro er w5 ⟨rfl, hbag, hrel⟩
  have C5 := Lib.hid (C4.out.rel hrel SB_int)
  have BG5 := Lib.hid hbag
  have B5 := Lib.hid (hrel.out B4.out B4.out.size)
  clear CA C4 BG4 B4 hbag hrel
  have CA := Lib.hid (works_back BG5.out B5.out.size PB.out C5.out)
  go_wp2_with fail
  refine CA.out.mono ?_
  rintro er w6 ⟨v6, rfl, hown, hbag, hc6, hrel⟩
  obtain ⟨g6, cap6, rfl, hg6, hg6'⟩ := hown.form (by omega)
  have r3 := res_at hown 3 (.bool true) rfl
  have r4 := res_at hown 4 (.string ⟨#[120]⟩) rfl
  have B6 := Lib.hid (hrel.out B5.out B5.out.size)
  have C6 := Lib.hid hc6
  have BG6 := Lib.hid hbag
  have R3 := Lib.hid r3
  have R4 := Lib.hid r4
  have O6 := Lib.hid (own_base hown B5.out.size)
  clear CA C5 BG5 B5 hown hbag hc6 hrel r3 r4 hg6 hg6'
  have CA := Lib.hid (works_close BG6.out B6.out.size PB.out C6.out)
  go_wp2_with fail
  refine CA.out.mono ?_
  rintro er w7 ⟨v7, rfl, hown, hbag, hc7, hrel⟩
  obtain ⟨g7, cap7, rfl, hg7, hg7'⟩ := hown.form (by omega)
  have s0 := res_at hown 0 (.int .i64 1) rfl
  have hb6 : Hid (w6.cell? ⟨g6, 3, none⟩ = some (.bool true) ∧ w6.cell? ⟨g6, 4, none⟩ = some (.string ⟨#[120]⟩)) := Lib.hid ⟨R3.out, R4.out⟩
  have O7 := own_rel O6.out hrel (fun k C hk ho h => by
    rcases h with ⟨C, z, e⟩ | ⟨C, z, e⟩ | ⟨hk, C, z, e⟩ | ⟨C, z, e⟩
    · cases e
    · cases e
    · have := (O6.out.lt k ho).2
      omega
    · cases e)
  have B7 := Lib.hid (hrel.out B6.out B6.out.size)
  have C7 := Lib.hid hc7
  have t3 := res_at O7 3 (.bool true) rfl
  have t4 := res_at O7 4 (.string ⟨#[120]⟩) rfl
  have S0 := Lib.hid s0
  have R3 := Lib.hid t3
  have R4 := Lib.hid t4
  clear CA C6 BG6 B6 O6 hb6 O7 hown hbag hc7 hrel s0 t3 t4 hg7 hg7'
  go_wp2_with fail
  refine (sample_any ⟨#[98, 117, 115]⟩ w7).mono ?_
  rintro er w8 ⟨sl, rfl, hsl, hb⟩
  have SL := Lib.hid hsl
  have B8 := Lib.hid (B7.out.trans (hb.mono B7.out.size))
  have C8 := Lib.hid (C7.out.below hb)
  have S8 := Lib.hid ((hb.cell (p := ⟨g7, 0, none⟩) (World.block_lt_of_cell? w7 _ S0.out)).trans S0.out)
  have R38 := Lib.hid ((hb.cell (p := ⟨g6, 3, none⟩) (World.block_lt_of_cell? w7 _ R3.out)).trans R3.out)
  have R48 := Lib.hid ((hb.cell (p := ⟨g6, 4, none⟩) (World.block_lt_of_cell? w7 _ R4.out)).trans R4.out)
  clear hsl hb B7 C7 S0 R3 R4
  have b9 := (Below.refl w8.heap.size w8).alloc (Nat.le_refl _) (.cells #[.int .i64 2, .int .u8 2, .int .u8 0] 67)
  have hf9 := heap_alloc_new w8 (.cells #[.int .i64 2, .int .u8 2, .int .u8 0] 67)
  have FA : FatesAt (w8.alloc (.cells #[.int .i64 2, .int .u8 2, .int .u8 0] 67)) (.slice (some ⟨w8.heap.size, 0, none⟩) 1 1) [⟨2, 2, 0⟩] := ⟨_, 1, rfl, by simp, fun i hi => by
    have hi0 : i = 0 := by simpa using hi
    subst hi0
    refine ⟨w8.heap.size, 0, rfl, fun j u hu => ?_⟩
    rw [cell_of_row _ _ _ _ _ _ hf9]
    simpa [Ft.cells] using hu⟩
  have B9 := Lib.hid (B8.out.trans (b9.mono B8.out.size))
  have PO := Lib.hid (probe_ok HSH.out ⟨#[120]⟩ ⟨#[98, 117, 115]⟩ ⟨#[]⟩ 0 0 (-1) [⟨#[97]⟩] sl _ [⟨2, 2, 0⟩] _ (HW.out.trans (B9.out.mono HW.out.size)) (SL.out.below b9) (by unfold Cd.ok; decide) mayB_sample FA (by simp) (by decide) (fun f hf => by
    have e : f = ⟨2, 2, 0⟩ := by simpa using hf
    subst e
    unfold Ft.ok
    decide))
  have C9 := Lib.hid (C8.out.below b9)
  have S9 := Lib.hid ((b9.cell (p := ⟨g7, 0, none⟩) (World.block_lt_of_cell? w8 _ S8.out)).trans S8.out)
  have R39 := Lib.hid ((b9.cell (p := ⟨g6, 3, none⟩) (World.block_lt_of_cell? w8 _ R38.out)).trans R38.out)
  have R49 := Lib.hid ((b9.cell (p := ⟨g6, 4, none⟩) (World.block_lt_of_cell? w8 _ R48.out)).trans R48.out)
  clear b9 hf9 FA B8 C8 S8 R38 R48 SL
  go_wp2_with fail
  refine PO.out.mono ?_
  rintro er w10 ⟨m, g, at_, how, vd, vg, vs, far, rfl, hd, hgv, hst, hb⟩
  obtain ⟨rfl, rfl, rfl⟩ := works_far rfl (by rw [steps_bus]; simp) far
  have hgv2 : w10.ownsRow (w8.alloc (.cells #[.int .i64 2, .int .u8 2, .int .u8 0] 67)).heap.size 9 1 vg 2 (sc [⟨#[114, 101, 115, 101, 116]⟩, ⟨#[119, 105, 110, 100, 111, 119]⟩]) := by
    rw [steps_bus] at hgv
    exact hgv
  obtain ⟨ad, cd, rfl⟩ := own_slice hd
  obtain ⟨ag, cg, rfl⟩ := own_slice hgv2
  obtain ⟨az, cs2, hvs⟩ := own_slice hst
  generalize (namesR true _).length = ns at hvs
  subst hvs
  have SG := Lib.hid (strs_own (zs := [⟨#[114, 101, 115, 101, 116]⟩, ⟨#[119, 105, 110, 100, 111, 119]⟩]) hgv2 (by unfold maxLen; simp))
  have B10 := Lib.hid (B9.out.trans (hb.mono B9.out.size))
  have C10 := Lib.hid (C9.out.below hb)
  have S10 := Lib.hid ((hb.cell (p := ⟨g7, 0, none⟩) (World.block_lt_of_cell? _ _ S9.out)).trans S9.out)
  have R310 := Lib.hid ((hb.cell (p := ⟨g6, 3, none⟩) (World.block_lt_of_cell? _ _ R39.out)).trans R39.out)
  have R410 := Lib.hid ((hb.cell (p := ⟨g6, 4, none⟩) (World.block_lt_of_cell? _ _ R49.out)).trans R49.out)
  clear hd hgv hst hb far hgv2 B9 C9 S9 R39 R49 PO
  have TZ : Hid ((w10.alloc (.cells #[.bool false, .int .i64 0, .int .u8 0, .slice none 0 0, .slice none 0 0, .slice none 0 0] 56)).there w10.heap.size 0 6) := Lib.hid (fun j hj => ⟨by
    rw [cell_of_row _ _ _ _ _ _ (heap_alloc_new w10 (.cells #[.bool false, .int .i64 0, .int .u8 0, .slice none 0 0, .slice none 0 0, .slice none 0 0] 56))]
    exact Option.isSome_iff_exists.2 ⟨_, Array.getElem?_eq_getElem (by simp; omega)⟩, frozen_of_row _ _ _ _ _ (heap_alloc_new w10 (.cells #[.bool false, .int .i64 0, .int .u8 0, .slice none 0 0, .slice none 0 0, .slice none 0 0] 56))⟩)
  go_wp2_with (refine wpList_store_all (by rfl) 56 (.tmp 13) (.tmp 51) (by rfl) w10.heap.size 0 [.bool false, .int .i64 2, .int .u8 how, .slice ad 2 cd, .slice ag 2 cg, .slice az ns cs2] (by kernel_rfl) (by kernel_rfl) TZ.out (by kernel_rfl) (by simp [Value.oneCell']) ?_)
  intro W4 HW4
  have hh4 := heap_setCells_same [.bool false, .int .i64 2, .int .u8 how, .slice ad 2 cd, .slice ag 2 cg, .slice az ns cs2] _ 0 _ (heap_alloc_new w10 (.cells #[.bool false, .int .i64 0, .int .u8 0, .slice none 0 0, .slice none 0 0, .slice none 0 0] 56))
  rw [← HW4.out] at hh4
  have hb4 : Below w10.heap.size w10 W4 := by
    rw [HW4.out]
    exact ((Below.refl w10.heap.size w10).alloc (Nat.le_refl _) _).trans (below_lay (Nat.le_refl _) _ _ _)
  have o0 := (cell_of_row W4 _ 0 _ _ _ hh4).trans (show (#[Value.bool false, .int .i64 2, .int .u8 how, .slice ad 2 cd, .slice ag 2 cg, .slice az ns cs2] : Array Value)[0]? = some (.bool false) from rfl)
  have o1 := (cell_of_row W4 _ 1 _ _ _ hh4).trans (show (#[Value.bool false, .int .i64 2, .int .u8 how, .slice ad 2 cd, .slice ag 2 cg, .slice az ns cs2] : Array Value)[1]? = some (.int .i64 2) from rfl)
  have o4 := (cell_of_row W4 _ 4 _ _ _ hh4).trans (show (#[Value.bool false, .int .i64 2, .int .u8 how, .slice ad 2 cd, .slice ag 2 cg, .slice az ns cs2] : Array Value)[4]? = some (.slice ag 2 cg) from rfl)
  have B4 := Lib.hid (B10.out.trans (hb4.mono B10.out.size))
  have SG4 := Lib.hid (SG.out.below hb4)
  have n4 := (cell_of_row W4 p 0 _ _ _ (C10.out.below hb4)).trans (show (#[Value.int .i64 2] : Array Value)[0]? = some (.int .i64 2) from rfl)
  have s4 := (hb4.cell (p := ⟨g7, 0, none⟩) (World.block_lt_of_cell? _ _ S10.out)).trans S10.out
  have r34 := (hb4.cell (p := ⟨g6, 3, none⟩) (World.block_lt_of_cell? _ _ R310.out)).trans R310.out
  have r44 := (hb4.cell (p := ⟨g6, 4, none⟩) (World.block_lt_of_cell? _ _ R410.out)).trans R410.out
  obtain ⟨p13, hp13⟩ : ∃ p, p = w10.heap.size := ⟨_, rfl⟩
  rw [← hp13] at o0 o1 o4 ⊢
  have b5 := (Below.refl W4.heap.size W4).alloc (Nat.le_refl _) (.cells #[.string ⟨#[114, 101, 115, 101, 116]⟩, .string ⟨#[119, 105, 110, 100, 111, 119]⟩] 9)
  have hs5 := heap_alloc_new W4 (.cells #[.string ⟨#[114, 101, 115, 101, 116]⟩, .string ⟨#[119, 105, 110, 100, 111, 119]⟩] 9)
  have ST : Strs (W4.alloc (.cells #[.string ⟨#[114, 101, 115, 101, 116]⟩, .string ⟨#[119, 105, 110, 100, 111, 119]⟩] 9)) (.slice (some ⟨W4.heap.size, 0, none⟩) 2 2) [⟨#[114, 101, 115, 101, 116]⟩, ⟨#[119, 105, 110, 100, 111, 119]⟩] := ⟨_, 2, rfl, by unfold maxLen; simp, by simp, (fun h => by cases h), fun i hi => ⟨W4.heap.size, 0, rfl, by
    rw [cell_of_row _ _ _ _ _ _ hs5]
    have hi2 : i < 2 := hi
    rcases i with _ | _ | i
    · rfl
    · rfl
    · omega⟩⟩
  have CS := Lib.hid (stexts_any _ _ _ _ _ (SG4.out.below b5) ST)
  have B5 := Lib.hid (B4.out.trans (b5.mono B4.out.size))
  clear hh4 hb4 hp13 HW4 TZ SG B10 C10 S10 R310 R410 b5 hs5 ST
  go_wp2_with fail
  refine CS.out.mono ?_
  rintro er w12 ⟨rfl, n12, rfl⟩
  go_wp2_with fail
  go_ret
  exact ⟨rfl, below_drewN B5.out _⟩
end Go.Proofs.Ytnajbogmhhlpcaa
