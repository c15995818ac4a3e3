/- ProbeNames answers true. (Printed by tools/gennames.py.) -/
import Derived.Test.YtnkababhgloclaaNamesB
import Derived.Test.YtnkababhgloclaaMadeF
namespace Go.Proofs.Ytnkababhgloclaa
open Go.RowKit Go.ChangeShapes Tx Nm
theorem ofT_zero (n : Nat) (s : Int) : (ofT (List.replicate n ⟨0, 0, 0⟩) s).how = 0 := by
  unfold ofT
  cases hf : (List.replicate n (⟨0, 0, 0⟩ : Ft)).find? (isT s) with
  | none => rfl
  | some f =>
    have := List.mem_of_find?_eq_some hf
    rw [List.mem_replicate] at this
    rw [this.2]
    rfl
theorem names_far {n k m : Nat} {g : Bool} {at_ how : Int} (h : Far (List.replicate n ⟨0, 0, 0⟩) k m g at_ how) : g = true ∧ at_ = -1 ∧ how = 0 := by
  cases g with
  | true => exact ⟨rfl, (h.yes rfl).2.1, (h.yes rfl).2.2⟩
  | false =>
    obtain ⟨_, _, e3, e4⟩ := h.no rfl
    rw [ofT_zero] at e3
    exact absurd e3 e4
theorem mayB_sample2 : mayB (sampleC ⟨#[110, 111, 110, 101]⟩) = true := by decide
set_option maxHeartbeats 16000000 in
set_option maxRecDepth 100000 in
theorem names_any {W : World} (hsh : W.ShapedOpen Try.prog) (w : World) (hW : Below W.heap.size W w) : Calls Try.prog 5 #[] w fun e w' => e = .returned (.bool true) ∧ Below w.heap.size w w' := by
  have HSH := Lib.hid hsh
  have HW := Lib.hid hW
  clear hsh hW
  go_enter Try.func5, Try.ntmps5
  go_wp2_with fail
  refine (bnew_any w).mono ?_
  rintro er w1 ⟨rfl, hw1⟩
  have ba := (Below.refl w.heap.size w).alloc (Nat.le_refl _) (.cells #[.slice none 0 0, .int .i64 0, .bool false, .bool false] 89)
  obtain ⟨b, hbb⟩ : ∃ p, p = w.heap.size := ⟨_, rfl⟩
  have BG : Hid (BagAt w1 w.heap.size b [] 0 false false) := Lib.hid (by rw [hw1, hbb]; exact bag_new w _ (Nat.le_refl _))
  rw [← hw1] at ba
  rw [← hbb]
  have B1 := Lib.hid ba
  clear ba hw1 hbb
  go_wp2_with fail
  go_loopg [2] 257 (fun r v2 wr => ∃ i : Nat, i ≤ 257 ∧ r = 257 - i ∧ v2 = .int .i64 i ∧ Hid (BagAt wr w.heap.size b (nmL (min i 256)) ((min i 256 : Nat) : Int) false false ∧ Below w.heap.size w wr))
  case atStart => exact ⟨0, by omega, by omega, rfl, Lib.hid ⟨BG.out, B1.out⟩⟩
  case round =>
    clear BG B1
    obtain ⟨i, hi, hr, rfl, hq⟩ := hrel
    have HR := Lib.hid hr
    clear hr
    have HI := Lib.hid hi
    by_cases h1 : i < 256
    · have BG := Lib.hid hq.out.1
      have BL := Lib.hid hq.out.2
      rw [Nat.min_eq_left (Nat.le_of_lt h1)] at BG
      have H1 := Lib.hid h1
      have d1 : decide ((i : Int) < 257) = true := decide_eq_true (by omega)
      by_cases h2 : i % 2 = 0
      · have CA := Lib.hid (names_mark h1 h2 BG.out BL.out.size)
        have d2 : Int.tmod (i : Int) 2 = 0 := by rw [Int.tmod_eq_emod_of_nonneg (by omega)]; omega
        clear h1 h2 hi hq
        go_wp2_with fail
        refine CA.out.mono ?_
        rintro er w2 ⟨rfl, hbag, hrel⟩
        have BG2 := Lib.hid hbag
        have BL2 := Lib.hid (hrel.out BL.out BL.out.size)
        clear hbag hrel CA BG BL d1 d2
        have d3 : decide ((i : Int) < 256) = true := decide_eq_true (by have := H1.out; omega)
        have d5 : ((i : Int) == 256) = false := by have := H1.out; simp; omega
        have d6 : ¬ ((i : Int) = 256) := by have := H1.out; omega
        have d4 : wrap64 ((i : Int) + 1) = (i : Int) + 1 := IntWalk.wrap64_in _ (by have := H1.out; omega)
        go_wp2_with fail
        go_roundg (257 - (i + 1))
        case measure => rw [HR.out]; have := H1.out; omega
        case rel => exact ⟨i + 1, by have := H1.out; omega, rfl, by rw [d4]; rfl, by rw [Nat.min_eq_left (by have := H1.out; omega)]; exact Lib.hid ⟨BG2.out, BL2.out⟩⟩
      · have CA := Lib.hid (names_add h1 h2 BG.out BL.out.size)
        have d2 : Int.tmod (i : Int) 2 = 1 := by rw [Int.tmod_eq_emod_of_nonneg (by omega)]; omega
        clear h1 h2 hi hq
        go_wp2_with fail
        refine CA.out.mono ?_
        rintro er w2 ⟨rfl, hbag, hrel⟩
        have BG2 := Lib.hid hbag
        have BL2 := Lib.hid (hrel.out BL.out BL.out.size)
        clear hbag hrel CA BG BL d1 d2
        have d3 : decide ((i : Int) < 256) = true := decide_eq_true (by have := H1.out; omega)
        have d5 : ((i : Int) == 256) = false := by have := H1.out; simp; omega
        have d6 : ¬ ((i : Int) = 256) := by have := H1.out; omega
        have d4 : wrap64 ((i : Int) + 1) = (i : Int) + 1 := IntWalk.wrap64_in _ (by have := H1.out; omega)
        go_wp2_with fail
        go_roundg (257 - (i + 1))
        case measure => rw [HR.out]; have := H1.out; omega
        case rel => exact ⟨i + 1, by have := H1.out; omega, rfl, by rw [d4]; rfl, by rw [Nat.min_eq_left (by have := H1.out; omega)]; exact Lib.hid ⟨BG2.out, BL2.out⟩⟩
    · by_cases h3 : i = 256
      · subst h3
        have BG := Lib.hid (show BagAt wr w.heap.size b (nmL 256) 256 false false from hq.out.1)
        have BL := Lib.hid hq.out.2
        have CA := Lib.hid (names_full BG.out)
        clear h1 hi hq
        go_wp2_with fail
        refine CA.out.mono ?_
        rintro er w2 ⟨rfl, rfl⟩
        go_wp2_with fail
        go_roundg (257 - (256 + 1))
        case measure => rw [HR.out]; omega
        case rel => exact ⟨257, by omega, rfl, by first | rfl | (rw [IntWalk.wrap64_in _ (by omega)]; rfl), Lib.hid ⟨BG.out, BL.out⟩⟩
      · obtain rfl : i = 257 := by omega
        have BG := Lib.hid (show BagAt wr w.heap.size b (nmL 256) 256 false false from hq.out.1)
        have BL := Lib.hid hq.out.2
        have CA := Lib.hid (names_back BG.out BL.out.size)
        clear h1 h3 hi hq
        go_wp2_with fail
        refine CA.out.mono ?_
        rintro er w2 ⟨a, c, rfl, hb⟩
        have B2 := Lib.hid (BL.out.trans hb)
        have PC := Lib.hid (probe_card ⟨#[]⟩ ⟨#[]⟩ ⟨#[]⟩ 0 0 0 [] (.slice none 0 0) (.slice none 0 0) w2 ⟨none, 0, rfl, by simp, by simp, fun _ => ⟨rfl, rfl⟩, fun i hi => by simp at hi⟩ (by unfold Cd.ok; decide) (by decide) ⟨_, _, _, rfl⟩)
        clear hb CA BG BL
        go_wp2_with fail
        refine PC.out.mono ?_
        rintro er w3 ⟨rfl, hb⟩
        have B3 := Lib.hid (B2.out.trans (hb.mono B2.out.size))
        clear hb PC B2
        have TZ : Hid ((w3.alloc (.cells #[.bool false, .int .i64 0, .int .u8 0, .slice none 0 0, .slice none 0 0, .slice none 0 0] 56)).there w3.heap.size 0 6) := Lib.hid (fun j hj => ⟨by
          rw [cell_of_row _ _ _ _ _ _ (heap_alloc_new w3 (.cells #[.bool false, .int .i64 0, .int .u8 0, .slice none 0 0, .slice none 0 0, .slice none 0 0] 56))]
          exact Option.isSome_iff_exists.2 ⟨_, Array.getElem?_eq_getElem (by simp; omega)⟩, frozen_of_row _ _ _ _ _ (heap_alloc_new w3 (.cells #[.bool false, .int .i64 0, .int .u8 0, .slice none 0 0, .slice none 0 0, .slice none 0 0] 56))⟩)
        go_wp2_with (refine wpList_store_all (by rfl) 56 (.tmp 7) (.tmp 65) (by rfl) w3.heap.size 0 zo6 (by kernel_rfl) (by kernel_rfl) TZ.out (by kernel_rfl) (by simp [zo6, Value.oneCell']) ?_)
        intro W4 HW4
        have hb4 : Below w3.heap.size w3 W4 := by
          rw [HW4.out]
          exact ((Below.refl w3.heap.size w3).alloc (Nat.le_refl _) _).trans (below_lay (Nat.le_refl _) _ _ _)
        have B4 := Lib.hid (B3.out.trans (hb4.mono B3.out.size))
        obtain ⟨p7, hp7⟩ : ∃ p, p = w3.heap.size := ⟨_, rfl⟩
        rw [← hp7]
        clear hb4 HW4 TZ B3 hp7
        go_upto_region 15 with fail
        go_cut [9, 10] (fun s0 s1 wx => ∃ p : Nat, s0 = .pointer (some ⟨p, 0, none⟩) ∧ s1 = .int .i64 1 ∧ Hid (Below w.heap.size w wx))
        case first => as_aux_lemma => --ok
          refine wp_region_any (by kernel_rfl) ?_
          have BX : Hid (Below w.heap.size w W4.drew) := Lib.hid (B4.out.drew)
          change wpAny _ _ _ _ _ _ _ W4.drew
          generalize W4.drew = v0 at *
          refine wpAny_ready (rs := [0, 1, 6]) (by kernel_rfl) (by simp) (AllReady.cons rfl (fun K hK => ?_) (Go.BigFrame.allReady_want rfl (by kernel_rfl) (fun K hK => ?_) (AllReady.cons rfl (fun K hK => ?_) AllReady.nil)))
          · skip
            go_simp
            refine (sample_any ⟨#[98, 117, 115]⟩ v0).mono ?_
            rintro er v1 ⟨sl, rfl, hsl, hb⟩
            have SL := Lib.hid hsl
            have BX := Lib.hid (BX.out.trans (hb.mono BX.out.size))
            clear hb hsl
            refine hK _ _ ?_
            clear hK K
            try simp only [Act.put, List.setIfInBounds_toArray, List.set_cons_zero, List.set_cons_succ]
            refine wpAny_ready (rs := [1, 6]) (by kernel_rfl) (by simp) (Go.BigFrame.allReady_want rfl (by kernel_rfl) (fun K hK => ?_) (AllReady.cons rfl (fun K hK => ?_) AllReady.nil))
            · skip
              refine wp_make_fates 65 (by omega) rfl ?_
              have hb := (Below.refl v1.heap.size v1).alloc (Nat.le_refl _) (.cells (zeroF 65) 67)
              have FA := Lib.hid (made_fates 65 (heap_alloc_new v1 (.cells (zeroF 65) 67)))
              obtain ⟨p1, hp1⟩ : ∃ p, p = v1.heap.size := ⟨_, rfl⟩
              obtain ⟨v2, hv⟩ : ∃ x, x = v1.alloc (.cells (zeroF 65) 67) := ⟨_, rfl⟩
              rw [← hp1] at FA ⊢
              rw [← hv] at FA hb ⊢
              have SL := Lib.hid (SL.out.below hb)
              have BX := Lib.hid (BX.out.trans (hb.mono BX.out.size))
              clear hb hv hp1
              refine hK _ _ ?_
              clear hK K
              try simp only [Act.put, List.setIfInBounds_toArray, List.set_cons_zero, List.set_cons_succ]
              refine wpAny_ready (rs := [2, 6]) (by kernel_rfl) (by simp) (AllReady.cons rfl (fun K hK => ?_) (AllReady.cons rfl (fun K hK => ?_) AllReady.nil))
              · skip
                go_simp
                refine (probe_many ⟨#[120]⟩ ⟨#[98, 117, 115]⟩ ⟨#[]⟩ 0 0 (-1) [⟨#[97]⟩] sl _ (List.replicate 65 ⟨0, 0, 0⟩) v2 SL.out (by unfold Cd.ok; decide) mayB_sample FA.out (by simp)).mono ?_
                rintro er v3 ⟨rfl, hb⟩
                have SL := Lib.hid (SL.out.below hb)
                have FA := Lib.hid (FA.out.below hb)
                have BX := Lib.hid (BX.out.trans (hb.mono BX.out.size))
                clear hb
                refine hK _ _ ?_
                clear hK K
                try simp only [Act.put, List.setIfInBounds_toArray, List.set_cons_zero, List.set_cons_succ]
                refine wpAny_take (i := 3) (v := ?_) rfl (by kernel_rfl) (by kernel_rfl) (by kernel_rfl) (fun _ _ _ h => h) (Or.inl ⟨by kernel_rfl, ?_⟩) ?_
                rotate_left
                · intro w
                  go_simp
                  try with_reducible rfl
                simp only [Act.put, List.getElem_toArray, List.getElem_cons_zero, List.getElem_cons_succ, List.setIfInBounds_toArray, List.set_cons_zero, List.set_cons_succ]
                refine wpAny_take (i := 4) (v := ?_) rfl (by kernel_rfl) (by kernel_rfl) (by kernel_rfl) (fun _ _ _ h => h) (Or.inl ⟨by kernel_rfl, ?_⟩) ?_
                rotate_left
                · intro w
                  go_simp
                  try with_reducible rfl
                simp only [Act.put, List.getElem_toArray, List.getElem_cons_zero, List.getElem_cons_succ, List.setIfInBounds_toArray, List.set_cons_zero, List.set_cons_succ]
                refine wpAny_take (i := 5) (v := ?_) rfl (by kernel_rfl) (by kernel_rfl) (by kernel_rfl) (fun _ _ _ h => h) (Or.inl ⟨by kernel_rfl, ?_⟩) ?_
                rotate_left
                · intro w
                  go_simp
                  try with_reducible rfl
                simp only [Act.put, List.getElem_toArray, List.getElem_cons_zero, List.getElem_cons_succ, List.setIfInBounds_toArray, List.set_cons_zero, List.set_cons_succ]
                refine wpAny_ready (rs := [6]) (by kernel_rfl) (by simp) (AllReady.cons rfl (fun K hK => ?_) AllReady.nil)
                go_simp
                have hb := (Below.refl v3.heap.size v3).alloc (Nat.le_refl _) (.cells #[.bool false, .int .i64 0, .int .u8 0, .slice none 0 0, .slice none 0 0, .slice none 0 0] 56)
                have PZ := Lib.hid (heap_alloc_new v3 (.cells #[.bool false, .int .i64 0, .int .u8 0, .slice none 0 0, .slice none 0 0, .slice none 0 0] 56))
                obtain ⟨pz, hpz⟩ : ∃ p, p = v3.heap.size := ⟨_, rfl⟩
                have PB : Hid (w.heap.size ≤ pz) := Lib.hid (by rw [hpz]; exact BX.out.size)
                obtain ⟨v4, hv⟩ : ∃ x, x = v3.alloc (.cells #[.bool false, .int .i64 0, .int .u8 0, .slice none 0 0, .slice none 0 0, .slice none 0 0] 56) := ⟨_, rfl⟩
                rw [← hpz] at PZ ⊢
                rw [← hv] at PZ hb ⊢
                have BX := Lib.hid (BX.out.trans (hb.mono BX.out.size))
                clear hb hv hpz
                refine hK _ _ ?_
                clear hK K
                try simp only [Act.put, List.setIfInBounds_toArray, List.set_cons_zero, List.set_cons_succ]
                refine wpAny_ready (rs := [7]) (by kernel_rfl) (by simp) (Go.BigFrame.allReady_want rfl (by kernel_rfl) (fun K hK => ?_) AllReady.nil)
                refine wp_store_mid 56 (.tmp 9) (.tmp 71) (by rfl) pz 0 zo6.toArray (by kernel_rfl) (by kernel_rfl) (fun j hj => ⟨by
                  rw [cell_of_row _ _ _ _ _ _ PZ.out]
                  exact Option.isSome_iff_exists.2 ⟨_, Array.getElem?_eq_getElem (by simp [zo6] at hj ⊢; omega)⟩, frozen_of_row _ _ _ _ _ PZ.out⟩) (by kernel_rfl) (by simp [zo6, Value.oneCell']) ?_
                have hh := heap_setCells_same zo6.toArray.toList v4 0 _ PZ.out
                have BX := Lib.hid (BX.out.trans (below_lay PB.out zo6.toArray.toList v4 0))
                obtain ⟨v5, hv⟩ : ∃ x, x = v4.setCells pz 0 zo6.toArray.toList := ⟨_, rfl⟩
                rw [← hv] at hh BX ⊢
                have PO := Lib.hid hh
                clear hv hh
                refine hK _ _ ?_
                clear hK K
                try simp only [Act.put, List.setIfInBounds_toArray, List.set_cons_zero, List.set_cons_succ]
                refine wpAny_take (i := 8) (v := ?_) rfl (by kernel_rfl) (by kernel_rfl) (by kernel_rfl) (fun _ _ _ h => h) (Or.inl ⟨by kernel_rfl, ?_⟩) ?_
                rotate_left
                · intro w
                  go_simp
                  try with_reducible rfl
                simp only [Act.put, List.getElem_toArray, List.getElem_cons_zero, List.getElem_cons_succ, List.setIfInBounds_toArray, List.set_cons_zero, List.set_cons_succ]
                refine wpAny_done (by kernel_rfl) ?_ _
                go_wp2_with fail
                go_meet
                exact ⟨pz, rfl, rfl, BX⟩
              · skip
                go_simp
                have hb := (Below.refl v2.heap.size v2).alloc (Nat.le_refl _) (.cells #[.bool false, .int .i64 0, .int .u8 0, .slice none 0 0, .slice none 0 0, .slice none 0 0] 56)
                have PZ := Lib.hid (heap_alloc_new v2 (.cells #[.bool false, .int .i64 0, .int .u8 0, .slice none 0 0, .slice none 0 0, .slice none 0 0] 56))
                obtain ⟨pz, hpz⟩ : ∃ p, p = v2.heap.size := ⟨_, rfl⟩
                have PB : Hid (w.heap.size ≤ pz) := Lib.hid (by rw [hpz]; exact BX.out.size)
                obtain ⟨v3, hv⟩ : ∃ x, x = v2.alloc (.cells #[.bool false, .int .i64 0, .int .u8 0, .slice none 0 0, .slice none 0 0, .slice none 0 0] 56) := ⟨_, rfl⟩
                rw [← hpz] at PZ ⊢
                rw [← hv] at PZ hb ⊢
                have SL := Lib.hid (SL.out.below hb)
                have FA := Lib.hid (FA.out.below hb)
                have BX := Lib.hid (BX.out.trans (hb.mono BX.out.size))
                clear hb hv hpz
                refine hK _ _ ?_
                clear hK K
                try simp only [Act.put, List.setIfInBounds_toArray, List.set_cons_zero, List.set_cons_succ]
                refine wpAny_ready (rs := [2]) (by kernel_rfl) (by simp) (AllReady.cons rfl (fun K hK => ?_) AllReady.nil)
                go_simp
                refine (probe_many ⟨#[120]⟩ ⟨#[98, 117, 115]⟩ ⟨#[]⟩ 0 0 (-1) [⟨#[97]⟩] sl _ (List.replicate 65 ⟨0, 0, 0⟩) v3 SL.out (by unfold Cd.ok; decide) mayB_sample FA.out (by simp)).mono ?_
                rintro er v4 ⟨rfl, hb⟩
                have SL := Lib.hid (SL.out.below hb)
                have FA := Lib.hid (FA.out.below hb)
                have PZ := Lib.hid ((hb.block _ (Array.getElem?_eq_some_iff.1 PZ.out).1).trans PZ.out)
                have BX := Lib.hid (BX.out.trans (hb.mono BX.out.size))
                clear hb
                refine hK _ _ ?_
                clear hK K
                try simp only [Act.put, List.setIfInBounds_toArray, List.set_cons_zero, List.set_cons_succ]
                refine wpAny_take (i := 3) (v := ?_) rfl (by kernel_rfl) (by kernel_rfl) (by kernel_rfl) (fun _ _ _ h => h) (Or.inl ⟨by kernel_rfl, ?_⟩) ?_
                rotate_left
                · intro w
                  go_simp
                  try with_reducible rfl
                simp only [Act.put, List.getElem_toArray, List.getElem_cons_zero, List.getElem_cons_succ, List.setIfInBounds_toArray, List.set_cons_zero, List.set_cons_succ]
                refine wpAny_take (i := 4) (v := ?_) rfl (by kernel_rfl) (by kernel_rfl) (by kernel_rfl) (fun _ _ _ h => h) (Or.inl ⟨by kernel_rfl, ?_⟩) ?_
                rotate_left
                · intro w
                  go_simp
                  try with_reducible rfl
                simp only [Act.put, List.getElem_toArray, List.getElem_cons_zero, List.getElem_cons_succ, List.setIfInBounds_toArray, List.set_cons_zero, List.set_cons_succ]
                refine wpAny_take (i := 5) (v := ?_) rfl (by kernel_rfl) (by kernel_rfl) (by kernel_rfl) (fun _ _ _ h => h) (Or.inl ⟨by kernel_rfl, ?_⟩) ?_
                rotate_left
                · intro w
                  go_simp
                  try with_reducible rfl
                simp only [Act.put, List.getElem_toArray, List.getElem_cons_zero, List.getElem_cons_succ, List.setIfInBounds_toArray, List.set_cons_zero, List.set_cons_succ]
                refine wpAny_ready (rs := [7]) (by kernel_rfl) (by simp) (Go.BigFrame.allReady_want rfl (by kernel_rfl) (fun K hK => ?_) AllReady.nil)
                refine wp_store_mid 56 (.tmp 9) (.tmp 71) (by rfl) pz 0 zo6.toArray (by kernel_rfl) (by kernel_rfl) (fun j hj => ⟨by
                  rw [cell_of_row _ _ _ _ _ _ PZ.out]
                  exact Option.isSome_iff_exists.2 ⟨_, Array.getElem?_eq_getElem (by simp [zo6] at hj ⊢; omega)⟩, frozen_of_row _ _ _ _ _ PZ.out⟩) (by kernel_rfl) (by simp [zo6, Value.oneCell']) ?_
                have hh := heap_setCells_same zo6.toArray.toList v4 0 _ PZ.out
                have BX := Lib.hid (BX.out.trans (below_lay PB.out zo6.toArray.toList v4 0))
                obtain ⟨v5, hv⟩ : ∃ x, x = v4.setCells pz 0 zo6.toArray.toList := ⟨_, rfl⟩
                rw [← hv] at hh BX ⊢
                have PO := Lib.hid hh
                clear hv hh
                refine hK _ _ ?_
                clear hK K
                try simp only [Act.put, List.setIfInBounds_toArray, List.set_cons_zero, List.set_cons_succ]
                refine wpAny_take (i := 8) (v := ?_) rfl (by kernel_rfl) (by kernel_rfl) (by kernel_rfl) (fun _ _ _ h => h) (Or.inl ⟨by kernel_rfl, ?_⟩) ?_
                rotate_left
                · intro w
                  go_simp
                  try with_reducible rfl
                simp only [Act.put, List.getElem_toArray, List.getElem_cons_zero, List.getElem_cons_succ, List.setIfInBounds_toArray, List.set_cons_zero, List.set_cons_succ]
                refine wpAny_done (by kernel_rfl) ?_ _
                go_wp2_with fail
                go_meet
                exact ⟨pz, rfl, rfl, BX⟩
            · skip
              go_simp
              have hb := (Below.refl v1.heap.size v1).alloc (Nat.le_refl _) (.cells #[.bool false, .int .i64 0, .int .u8 0, .slice none 0 0, .slice none 0 0, .slice none 0 0] 56)
              have PZ := Lib.hid (heap_alloc_new v1 (.cells #[.bool false, .int .i64 0, .int .u8 0, .slice none 0 0, .slice none 0 0, .slice none 0 0] 56))
              obtain ⟨pz, hpz⟩ : ∃ p, p = v1.heap.size := ⟨_, rfl⟩
              have PB : Hid (w.heap.size ≤ pz) := Lib.hid (by rw [hpz]; exact BX.out.size)
              obtain ⟨v2, hv⟩ : ∃ x, x = v1.alloc (.cells #[.bool false, .int .i64 0, .int .u8 0, .slice none 0 0, .slice none 0 0, .slice none 0 0] 56) := ⟨_, rfl⟩
              rw [← hpz] at PZ ⊢
              rw [← hv] at PZ hb ⊢
              have SL := Lib.hid (SL.out.below hb)
              have BX := Lib.hid (BX.out.trans (hb.mono BX.out.size))
              clear hb hv hpz
              refine hK _ _ ?_
              clear hK K
              try simp only [Act.put, List.setIfInBounds_toArray, List.set_cons_zero, List.set_cons_succ]
              refine wpAny_ready (rs := [1]) (by kernel_rfl) (by simp) (Go.BigFrame.allReady_want rfl (by kernel_rfl) (fun K hK => ?_) AllReady.nil)
              refine wp_make_fates 65 (by omega) rfl ?_
              have hb := (Below.refl v2.heap.size v2).alloc (Nat.le_refl _) (.cells (zeroF 65) 67)
              have FA := Lib.hid (made_fates 65 (heap_alloc_new v2 (.cells (zeroF 65) 67)))
              obtain ⟨p1, hp1⟩ : ∃ p, p = v2.heap.size := ⟨_, rfl⟩
              obtain ⟨v3, hv⟩ : ∃ x, x = v2.alloc (.cells (zeroF 65) 67) := ⟨_, rfl⟩
              rw [← hp1] at FA ⊢
              rw [← hv] at FA hb ⊢
              have SL := Lib.hid (SL.out.below hb)
              have PZ := Lib.hid ((hb.block _ (Array.getElem?_eq_some_iff.1 PZ.out).1).trans PZ.out)
              have BX := Lib.hid (BX.out.trans (hb.mono BX.out.size))
              clear hb hv hp1
              refine hK _ _ ?_
              clear hK K
              try simp only [Act.put, List.setIfInBounds_toArray, List.set_cons_zero, List.set_cons_succ]
              refine wpAny_ready (rs := [2]) (by kernel_rfl) (by simp) (AllReady.cons rfl (fun K hK => ?_) AllReady.nil)
              go_simp
              refine (probe_many ⟨#[120]⟩ ⟨#[98, 117, 115]⟩ ⟨#[]⟩ 0 0 (-1) [⟨#[97]⟩] sl _ (List.replicate 65 ⟨0, 0, 0⟩) v3 SL.out (by unfold Cd.ok; decide) mayB_sample FA.out (by simp)).mono ?_
              rintro er v4 ⟨rfl, hb⟩
              have SL := Lib.hid (SL.out.below hb)
              have FA := Lib.hid (FA.out.below hb)
              have PZ := Lib.hid ((hb.block _ (Array.getElem?_eq_some_iff.1 PZ.out).1).trans PZ.out)
              have BX := Lib.hid (BX.out.trans (hb.mono BX.out.size))
              clear hb
              refine hK _ _ ?_
              clear hK K
              try simp only [Act.put, List.setIfInBounds_toArray, List.set_cons_zero, List.set_cons_succ]
              refine wpAny_take (i := 3) (v := ?_) rfl (by kernel_rfl) (by kernel_rfl) (by kernel_rfl) (fun _ _ _ h => h) (Or.inl ⟨by kernel_rfl, ?_⟩) ?_
              rotate_left
              · intro w
                go_simp
                try with_reducible rfl
              simp only [Act.put, List.getElem_toArray, List.getElem_cons_zero, List.getElem_cons_succ, List.setIfInBounds_toArray, List.set_cons_zero, List.set_cons_succ]
              refine wpAny_take (i := 4) (v := ?_) rfl (by kernel_rfl) (by kernel_rfl) (by kernel_rfl) (fun _ _ _ h => h) (Or.inl ⟨by kernel_rfl, ?_⟩) ?_
              rotate_left
              · intro w
                go_simp
                try with_reducible rfl
              simp only [Act.put, List.getElem_toArray, List.getElem_cons_zero, List.getElem_cons_succ, List.setIfInBounds_toArray, List.set_cons_zero, List.set_cons_succ]
              refine wpAny_take (i := 5) (v := ?_) rfl (by kernel_rfl) (by kernel_rfl) (by kernel_rfl) (fun _ _ _ h => h) (Or.inl ⟨by kernel_rfl, ?_⟩) ?_
              rotate_left
              · intro w
                go_simp
                try with_reducible rfl
              simp only [Act.put, List.getElem_toArray, List.getElem_cons_zero, List.getElem_cons_succ, List.setIfInBounds_toArray, List.set_cons_zero, List.set_cons_succ]
              refine wpAny_ready (rs := [7]) (by kernel_rfl) (by simp) (Go.BigFrame.allReady_want rfl (by kernel_rfl) (fun K hK => ?_) AllReady.nil)
              refine wp_store_mid 56 (.tmp 9) (.tmp 71) (by rfl) pz 0 zo6.toArray (by kernel_rfl) (by kernel_rfl) (fun j hj => ⟨by
                rw [cell_of_row _ _ _ _ _ _ PZ.out]
                exact Option.isSome_iff_exists.2 ⟨_, Array.getElem?_eq_getElem (by simp [zo6] at hj ⊢; omega)⟩, frozen_of_row _ _ _ _ _ PZ.out⟩) (by kernel_rfl) (by simp [zo6, Value.oneCell']) ?_
              have hh := heap_setCells_same zo6.toArray.toList v4 0 _ PZ.out
              have BX := Lib.hid (BX.out.trans (below_lay PB.out zo6.toArray.toList v4 0))
              obtain ⟨v5, hv⟩ : ∃ x, x = v4.setCells pz 0 zo6.toArray.toList := ⟨_, rfl⟩
              rw [← hv] at hh BX ⊢
              have PO := Lib.hid hh
              clear hv hh
              refine hK _ _ ?_
              clear hK K
              try simp only [Act.put, List.setIfInBounds_toArray, List.set_cons_zero, List.set_cons_succ]
              refine wpAny_take (i := 8) (v := ?_) rfl (by kernel_rfl) (by kernel_rfl) (by kernel_rfl) (fun _ _ _ h => h) (Or.inl ⟨by kernel_rfl, ?_⟩) ?_
              rotate_left
              · intro w
                go_simp
                try with_reducible rfl
              simp only [Act.put, List.getElem_toArray, List.getElem_cons_zero, List.getElem_cons_succ, List.setIfInBounds_toArray, List.set_cons_zero, List.set_cons_succ]
              refine wpAny_done (by kernel_rfl) ?_ _
              go_wp2_with fail
              go_meet
              exact ⟨pz, rfl, rfl, BX⟩
          · skip
            refine wp_make_fates 65 (by omega) rfl ?_
            have hb := (Below.refl v0.heap.size v0).alloc (Nat.le_refl _) (.cells (zeroF 65) 67)
            have FA := Lib.hid (made_fates 65 (heap_alloc_new v0 (.cells (zeroF 65) 67)))
            obtain ⟨p1, hp1⟩ : ∃ p, p = v0.heap.size := ⟨_, rfl⟩
            obtain ⟨v1, hv⟩ : ∃ x, x = v0.alloc (.cells (zeroF 65) 67) := ⟨_, rfl⟩
            rw [← hp1] at FA ⊢
            rw [← hv] at FA hb ⊢
            have BX := Lib.hid (BX.out.trans (hb.mono BX.out.size))
            clear hb hv hp1
            refine hK _ _ ?_
            clear hK K
            try simp only [Act.put, List.setIfInBounds_toArray, List.set_cons_zero, List.set_cons_succ]
            refine wpAny_ready (rs := [0, 6]) (by kernel_rfl) (by simp) (AllReady.cons rfl (fun K hK => ?_) (AllReady.cons rfl (fun K hK => ?_) AllReady.nil))
            · skip
              go_simp
              refine (sample_any ⟨#[98, 117, 115]⟩ v1).mono ?_
              rintro er v2 ⟨sl, rfl, hsl, hb⟩
              have SL := Lib.hid hsl
              have FA := Lib.hid (FA.out.below hb)
              have BX := Lib.hid (BX.out.trans (hb.mono BX.out.size))
              clear hb hsl
              refine hK _ _ ?_
              clear hK K
              try simp only [Act.put, List.setIfInBounds_toArray, List.set_cons_zero, List.set_cons_succ]
              refine wpAny_ready (rs := [2, 6]) (by kernel_rfl) (by simp) (AllReady.cons rfl (fun K hK => ?_) (AllReady.cons rfl (fun K hK => ?_) AllReady.nil))
              · skip
                go_simp
                refine (probe_many ⟨#[120]⟩ ⟨#[98, 117, 115]⟩ ⟨#[]⟩ 0 0 (-1) [⟨#[97]⟩] sl _ (List.replicate 65 ⟨0, 0, 0⟩) v2 SL.out (by unfold Cd.ok; decide) mayB_sample FA.out (by simp)).mono ?_
                rintro er v3 ⟨rfl, hb⟩
                have SL := Lib.hid (SL.out.below hb)
                have FA := Lib.hid (FA.out.below hb)
                have BX := Lib.hid (BX.out.trans (hb.mono BX.out.size))
                clear hb
                refine hK _ _ ?_
                clear hK K
                try simp only [Act.put, List.setIfInBounds_toArray, List.set_cons_zero, List.set_cons_succ]
                refine wpAny_take (i := 3) (v := ?_) rfl (by kernel_rfl) (by kernel_rfl) (by kernel_rfl) (fun _ _ _ h => h) (Or.inl ⟨by kernel_rfl, ?_⟩) ?_
                rotate_left
                · intro w
                  go_simp
                  try with_reducible rfl
                simp only [Act.put, List.getElem_toArray, List.getElem_cons_zero, List.getElem_cons_succ, List.setIfInBounds_toArray, List.set_cons_zero, List.set_cons_succ]
                refine wpAny_take (i := 4) (v := ?_) rfl (by kernel_rfl) (by kernel_rfl) (by kernel_rfl) (fun _ _ _ h => h) (Or.inl ⟨by kernel_rfl, ?_⟩) ?_
                rotate_left
                · intro w
                  go_simp
                  try with_reducible rfl
                simp only [Act.put, List.getElem_toArray, List.getElem_cons_zero, List.getElem_cons_succ, List.setIfInBounds_toArray, List.set_cons_zero, List.set_cons_succ]
                refine wpAny_take (i := 5) (v := ?_) rfl (by kernel_rfl) (by kernel_rfl) (by kernel_rfl) (fun _ _ _ h => h) (Or.inl ⟨by kernel_rfl, ?_⟩) ?_
                rotate_left
                · intro w
                  go_simp
                  try with_reducible rfl
                simp only [Act.put, List.getElem_toArray, List.getElem_cons_zero, List.getElem_cons_succ, List.setIfInBounds_toArray, List.set_cons_zero, List.set_cons_succ]
                refine wpAny_ready (rs := [6]) (by kernel_rfl) (by simp) (AllReady.cons rfl (fun K hK => ?_) AllReady.nil)
                go_simp
                have hb := (Below.refl v3.heap.size v3).alloc (Nat.le_refl _) (.cells #[.bool false, .int .i64 0, .int .u8 0, .slice none 0 0, .slice none 0 0, .slice none 0 0] 56)
                have PZ := Lib.hid (heap_alloc_new v3 (.cells #[.bool false, .int .i64 0, .int .u8 0, .slice none 0 0, .slice none 0 0, .slice none 0 0] 56))
                obtain ⟨pz, hpz⟩ : ∃ p, p = v3.heap.size := ⟨_, rfl⟩
                have PB : Hid (w.heap.size ≤ pz) := Lib.hid (by rw [hpz]; exact BX.out.size)
                obtain ⟨v4, hv⟩ : ∃ x, x = v3.alloc (.cells #[.bool false, .int .i64 0, .int .u8 0, .slice none 0 0, .slice none 0 0, .slice none 0 0] 56) := ⟨_, rfl⟩
                rw [← hpz] at PZ ⊢
                rw [← hv] at PZ hb ⊢
                have BX := Lib.hid (BX.out.trans (hb.mono BX.out.size))
                clear hb hv hpz
                refine hK _ _ ?_
                clear hK K
                try simp only [Act.put, List.setIfInBounds_toArray, List.set_cons_zero, List.set_cons_succ]
                refine wpAny_ready (rs := [7]) (by kernel_rfl) (by simp) (Go.BigFrame.allReady_want rfl (by kernel_rfl) (fun K hK => ?_) AllReady.nil)
                refine wp_store_mid 56 (.tmp 9) (.tmp 71) (by rfl) pz 0 zo6.toArray (by kernel_rfl) (by kernel_rfl) (fun j hj => ⟨by
                  rw [cell_of_row _ _ _ _ _ _ PZ.out]
                  exact Option.isSome_iff_exists.2 ⟨_, Array.getElem?_eq_getElem (by simp [zo6] at hj ⊢; omega)⟩, frozen_of_row _ _ _ _ _ PZ.out⟩) (by kernel_rfl) (by simp [zo6, Value.oneCell']) ?_
                have hh := heap_setCells_same zo6.toArray.toList v4 0 _ PZ.out
                have BX := Lib.hid (BX.out.trans (below_lay PB.out zo6.toArray.toList v4 0))
                obtain ⟨v5, hv⟩ : ∃ x, x = v4.setCells pz 0 zo6.toArray.toList := ⟨_, rfl⟩
                rw [← hv] at hh BX ⊢
                have PO := Lib.hid hh
                clear hv hh
                refine hK _ _ ?_
                clear hK K
                try simp only [Act.put, List.setIfInBounds_toArray, List.set_cons_zero, List.set_cons_succ]
                refine wpAny_take (i := 8) (v := ?_) rfl (by kernel_rfl) (by kernel_rfl) (by kernel_rfl) (fun _ _ _ h => h) (Or.inl ⟨by kernel_rfl, ?_⟩) ?_
                rotate_left
                · intro w
                  go_simp
                  try with_reducible rfl
                simp only [Act.put, List.getElem_toArray, List.getElem_cons_zero, List.getElem_cons_succ, List.setIfInBounds_toArray, List.set_cons_zero, List.set_cons_succ]
                refine wpAny_done (by kernel_rfl) ?_ _
                go_wp2_with fail
                go_meet
                exact ⟨pz, rfl, rfl, BX⟩
              · skip
                go_simp
                have hb := (Below.refl v2.heap.size v2).alloc (Nat.le_refl _) (.cells #[.bool false, .int .i64 0, .int .u8 0, .slice none 0 0, .slice none 0 0, .slice none 0 0] 56)
                have PZ := Lib.hid (heap_alloc_new v2 (.cells #[.bool false, .int .i64 0, .int .u8 0, .slice none 0 0, .slice none 0 0, .slice none 0 0] 56))
                obtain ⟨pz, hpz⟩ : ∃ p, p = v2.heap.size := ⟨_, rfl⟩
                have PB : Hid (w.heap.size ≤ pz) := Lib.hid (by rw [hpz]; exact BX.out.size)
                obtain ⟨v3, hv⟩ : ∃ x, x = v2.alloc (.cells #[.bool false, .int .i64 0, .int .u8 0, .slice none 0 0, .slice none 0 0, .slice none 0 0] 56) := ⟨_, rfl⟩
                rw [← hpz] at PZ ⊢
                rw [← hv] at PZ hb ⊢
                have SL := Lib.hid (SL.out.below hb)
                have FA := Lib.hid (FA.out.below hb)
                have BX := Lib.hid (BX.out.trans (hb.mono BX.out.size))
                clear hb hv hpz
                refine hK _ _ ?_
                clear hK K
                try simp only [Act.put, List.setIfInBounds_toArray, List.set_cons_zero, List.set_cons_succ]
                refine wpAny_ready (rs := [2]) (by kernel_rfl) (by simp) (AllReady.cons rfl (fun K hK => ?_) AllReady.nil)
                go_simp
                refine (probe_many ⟨#[120]⟩ ⟨#[98, 117, 115]⟩ ⟨#[]⟩ 0 0 (-1) [⟨#[97]⟩] sl _ (List.replicate 65 ⟨0, 0, 0⟩) v3 SL.out (by unfold Cd.ok; decide) mayB_sample FA.out (by simp)).mono ?_
                rintro er v4 ⟨rfl, hb⟩
                have SL := Lib.hid (SL.out.below hb)
                have FA := Lib.hid (FA.out.below hb)
                have PZ := Lib.hid ((hb.block _ (Array.getElem?_eq_some_iff.1 PZ.out).1).trans PZ.out)
                have BX := Lib.hid (BX.out.trans (hb.mono BX.out.size))
                clear hb
                refine hK _ _ ?_
                clear hK K
                try simp only [Act.put, List.setIfInBounds_toArray, List.set_cons_zero, List.set_cons_succ]
                refine wpAny_take (i := 3) (v := ?_) rfl (by kernel_rfl) (by kernel_rfl) (by kernel_rfl) (fun _ _ _ h => h) (Or.inl ⟨by kernel_rfl, ?_⟩) ?_
                rotate_left
                · intro w
                  go_simp
                  try with_reducible rfl
                simp only [Act.put, List.getElem_toArray, List.getElem_cons_zero, List.getElem_cons_succ, List.setIfInBounds_toArray, List.set_cons_zero, List.set_cons_succ]
                refine wpAny_take (i := 4) (v := ?_) rfl (by kernel_rfl) (by kernel_rfl) (by kernel_rfl) (fun _ _ _ h => h) (Or.inl ⟨by kernel_rfl, ?_⟩) ?_
                rotate_left
                · intro w
                  go_simp
                  try with_reducible rfl
                simp only [Act.put, List.getElem_toArray, List.getElem_cons_zero, List.getElem_cons_succ, List.setIfInBounds_toArray, List.set_cons_zero, List.set_cons_succ]
                refine wpAny_take (i := 5) (v := ?_) rfl (by kernel_rfl) (by kernel_rfl) (by kernel_rfl) (fun _ _ _ h => h) (Or.inl ⟨by kernel_rfl, ?_⟩) ?_
                rotate_left
                · intro w
                  go_simp
                  try with_reducible rfl
                simp only [Act.put, List.getElem_toArray, List.getElem_cons_zero, List.getElem_cons_succ, List.setIfInBounds_toArray, List.set_cons_zero, List.set_cons_succ]
                refine wpAny_ready (rs := [7]) (by kernel_rfl) (by simp) (Go.BigFrame.allReady_want rfl (by kernel_rfl) (fun K hK => ?_) AllReady.nil)
                refine wp_store_mid 56 (.tmp 9) (.tmp 71) (by rfl) pz 0 zo6.toArray (by kernel_rfl) (by kernel_rfl) (fun j hj => ⟨by
                  rw [cell_of_row _ _ _ _ _ _ PZ.out]
                  exact Option.isSome_iff_exists.2 ⟨_, Array.getElem?_eq_getElem (by simp [zo6] at hj ⊢; omega)⟩, frozen_of_row _ _ _ _ _ PZ.out⟩) (by kernel_rfl) (by simp [zo6, Value.oneCell']) ?_
                have hh := heap_setCells_same zo6.toArray.toList v4 0 _ PZ.out
                have BX := Lib.hid (BX.out.trans (below_lay PB.out zo6.toArray.toList v4 0))
                obtain ⟨v5, hv⟩ : ∃ x, x = v4.setCells pz 0 zo6.toArray.toList := ⟨_, rfl⟩
                rw [← hv] at hh BX ⊢
                have PO := Lib.hid hh
                clear hv hh
                refine hK _ _ ?_
                clear hK K
                try simp only [Act.put, List.setIfInBounds_toArray, List.set_cons_zero, List.set_cons_succ]
                refine wpAny_take (i := 8) (v := ?_) rfl (by kernel_rfl) (by kernel_rfl) (by kernel_rfl) (fun _ _ _ h => h) (Or.inl ⟨by kernel_rfl, ?_⟩) ?_
                rotate_left
                · intro w
                  go_simp
                  try with_reducible rfl
                simp only [Act.put, List.getElem_toArray, List.getElem_cons_zero, List.getElem_cons_succ, List.setIfInBounds_toArray, List.set_cons_zero, List.set_cons_succ]
                refine wpAny_done (by kernel_rfl) ?_ _
                go_wp2_with fail
                go_meet
                exact ⟨pz, rfl, rfl, BX⟩
            · skip
              go_simp
              have hb := (Below.refl v1.heap.size v1).alloc (Nat.le_refl _) (.cells #[.bool false, .int .i64 0, .int .u8 0, .slice none 0 0, .slice none 0 0, .slice none 0 0] 56)
              have PZ := Lib.hid (heap_alloc_new v1 (.cells #[.bool false, .int .i64 0, .int .u8 0, .slice none 0 0, .slice none 0 0, .slice none 0 0] 56))
              obtain ⟨pz, hpz⟩ : ∃ p, p = v1.heap.size := ⟨_, rfl⟩
              have PB : Hid (w.heap.size ≤ pz) := Lib.hid (by rw [hpz]; exact BX.out.size)
              obtain ⟨v2, hv⟩ : ∃ x, x = v1.alloc (.cells #[.bool false, .int .i64 0, .int .u8 0, .slice none 0 0, .slice none 0 0, .slice none 0 0] 56) := ⟨_, rfl⟩
              rw [← hpz] at PZ ⊢
              rw [← hv] at PZ hb ⊢
              have FA := Lib.hid (FA.out.below hb)
              have BX := Lib.hid (BX.out.trans (hb.mono BX.out.size))
              clear hb hv hpz
              refine hK _ _ ?_
              clear hK K
              try simp only [Act.put, List.setIfInBounds_toArray, List.set_cons_zero, List.set_cons_succ]
              refine wpAny_ready (rs := [0]) (by kernel_rfl) (by simp) (AllReady.cons rfl (fun K hK => ?_) AllReady.nil)
              go_simp
              refine (sample_any ⟨#[98, 117, 115]⟩ v2).mono ?_
              rintro er v3 ⟨sl, rfl, hsl, hb⟩
              have SL := Lib.hid hsl
              have FA := Lib.hid (FA.out.below hb)
              have PZ := Lib.hid ((hb.block _ (Array.getElem?_eq_some_iff.1 PZ.out).1).trans PZ.out)
              have BX := Lib.hid (BX.out.trans (hb.mono BX.out.size))
              clear hb hsl
              refine hK _ _ ?_
              clear hK K
              try simp only [Act.put, List.setIfInBounds_toArray, List.set_cons_zero, List.set_cons_succ]
              refine wpAny_ready (rs := [2]) (by kernel_rfl) (by simp) (AllReady.cons rfl (fun K hK => ?_) AllReady.nil)
              go_simp
              refine (probe_many ⟨#[120]⟩ ⟨#[98, 117, 115]⟩ ⟨#[]⟩ 0 0 (-1) [⟨#[97]⟩] sl _ (List.replicate 65 ⟨0, 0, 0⟩) v3 SL.out (by unfold Cd.ok; decide) mayB_sample FA.out (by simp)).mono ?_
              rintro er v4 ⟨rfl, hb⟩
              have SL := Lib.hid (SL.out.below hb)
              have FA := Lib.hid (FA.out.below hb)
              have PZ := Lib.hid ((hb.block _ (Array.getElem?_eq_some_iff.1 PZ.out).1).trans PZ.out)
              have BX := Lib.hid (BX.out.trans (hb.mono BX.out.size))
              clear hb
              refine hK _ _ ?_
              clear hK K
              try simp only [Act.put, List.setIfInBounds_toArray, List.set_cons_zero, List.set_cons_succ]
              refine wpAny_take (i := 3) (v := ?_) rfl (by kernel_rfl) (by kernel_rfl) (by kernel_rfl) (fun _ _ _ h => h) (Or.inl ⟨by kernel_rfl, ?_⟩) ?_
              rotate_left
              · intro w
                go_simp
                try with_reducible rfl
              simp only [Act.put, List.getElem_toArray, List.getElem_cons_zero, List.getElem_cons_succ, List.setIfInBounds_toArray, List.set_cons_zero, List.set_cons_succ]
              refine wpAny_take (i := 4) (v := ?_) rfl (by kernel_rfl) (by kernel_rfl) (by kernel_rfl) (fun _ _ _ h => h) (Or.inl ⟨by kernel_rfl, ?_⟩) ?_
              rotate_left
              · intro w
                go_simp
                try with_reducible rfl
              simp only [Act.put, List.getElem_toArray, List.getElem_cons_zero, List.getElem_cons_succ, List.setIfInBounds_toArray, List.set_cons_zero, List.set_cons_succ]
              refine wpAny_take (i := 5) (v := ?_) rfl (by kernel_rfl) (by kernel_rfl) (by kernel_rfl) (fun _ _ _ h => h) (Or.inl ⟨by kernel_rfl, ?_⟩) ?_
              rotate_left
              · intro w
                go_simp
                try with_reducible rfl
              simp only [Act.put, List.getElem_toArray, List.getElem_cons_zero, List.getElem_cons_succ, List.setIfInBounds_toArray, List.set_cons_zero, List.set_cons_succ]
              refine wpAny_ready (rs := [7]) (by kernel_rfl) (by simp) (Go.BigFrame.allReady_want rfl (by kernel_rfl) (fun K hK => ?_) AllReady.nil)
              refine wp_store_mid 56 (.tmp 9) (.tmp 71) (by rfl) pz 0 zo6.toArray (by kernel_rfl) (by kernel_rfl) (fun j hj => ⟨by
                rw [cell_of_row _ _ _ _ _ _ PZ.out]
                exact Option.isSome_iff_exists.2 ⟨_, Array.getElem?_eq_getElem (by simp [zo6] at hj ⊢; omega)⟩, frozen_of_row _ _ _ _ _ PZ.out⟩) (by kernel_rfl) (by simp [zo6, Value.oneCell']) ?_
              have hh := heap_setCells_same zo6.toArray.toList v4 0 _ PZ.out
              have BX := Lib.hid (BX.out.trans (below_lay PB.out zo6.toArray.toList v4 0))
              obtain ⟨v5, hv⟩ : ∃ x, x = v4.setCells pz 0 zo6.toArray.toList := ⟨_, rfl⟩
              rw [← hv] at hh BX ⊢
              have PO := Lib.hid hh
              clear hv hh
              refine hK _ _ ?_
              clear hK K
              try simp only [Act.put, List.setIfInBounds_toArray, List.set_cons_zero, List.set_cons_succ]
              refine wpAny_take (i := 8) (v := ?_) rfl (by kernel_rfl) (by kernel_rfl) (by kernel_rfl) (fun _ _ _ h => h) (Or.inl ⟨by kernel_rfl, ?_⟩) ?_
              rotate_left
              · intro w
                go_simp
                try with_reducible rfl
              simp only [Act.put, List.getElem_toArray, List.getElem_cons_zero, List.getElem_cons_succ, List.setIfInBounds_toArray, List.set_cons_zero, List.set_cons_succ]
              refine wpAny_done (by kernel_rfl) ?_ _
              go_wp2_with fail
              go_meet
              exact ⟨pz, rfl, rfl, BX⟩
          · skip
            go_simp
            have hb := (Below.refl v0.heap.size v0).alloc (Nat.le_refl _) (.cells #[.bool false, .int .i64 0, .int .u8 0, .slice none 0 0, .slice none 0 0, .slice none 0 0] 56)
            have PZ := Lib.hid (heap_alloc_new v0 (.cells #[.bool false, .int .i64 0, .int .u8 0, .slice none 0 0, .slice none 0 0, .slice none 0 0] 56))
            obtain ⟨pz, hpz⟩ : ∃ p, p = v0.heap.size := ⟨_, rfl⟩
            have PB : Hid (w.heap.size ≤ pz) := Lib.hid (by rw [hpz]; exact BX.out.size)
            obtain ⟨v1, hv⟩ : ∃ x, x = v0.alloc (.cells #[.bool false, .int .i64 0, .int .u8 0, .slice none 0 0, .slice none 0 0, .slice none 0 0] 56) := ⟨_, rfl⟩
            rw [← hpz] at PZ ⊢
            rw [← hv] at PZ hb ⊢
            have BX := Lib.hid (BX.out.trans (hb.mono BX.out.size))
            clear hb hv hpz
            refine hK _ _ ?_
            clear hK K
            try simp only [Act.put, List.setIfInBounds_toArray, List.set_cons_zero, List.set_cons_succ]
            refine wpAny_ready (rs := [0, 1]) (by kernel_rfl) (by simp) (AllReady.cons rfl (fun K hK => ?_) (Go.BigFrame.allReady_want rfl (by kernel_rfl) (fun K hK => ?_) AllReady.nil))
            · skip
              go_simp
              refine (sample_any ⟨#[98, 117, 115]⟩ v1).mono ?_
              rintro er v2 ⟨sl, rfl, hsl, hb⟩
              have SL := Lib.hid hsl
              have PZ := Lib.hid ((hb.block _ (Array.getElem?_eq_some_iff.1 PZ.out).1).trans PZ.out)
              have BX := Lib.hid (BX.out.trans (hb.mono BX.out.size))
              clear hb hsl
              refine hK _ _ ?_
              clear hK K
              try simp only [Act.put, List.setIfInBounds_toArray, List.set_cons_zero, List.set_cons_succ]
              refine wpAny_ready (rs := [1]) (by kernel_rfl) (by simp) (Go.BigFrame.allReady_want rfl (by kernel_rfl) (fun K hK => ?_) AllReady.nil)
              refine wp_make_fates 65 (by omega) rfl ?_
              have hb := (Below.refl v2.heap.size v2).alloc (Nat.le_refl _) (.cells (zeroF 65) 67)
              have FA := Lib.hid (made_fates 65 (heap_alloc_new v2 (.cells (zeroF 65) 67)))
              obtain ⟨p1, hp1⟩ : ∃ p, p = v2.heap.size := ⟨_, rfl⟩
              obtain ⟨v3, hv⟩ : ∃ x, x = v2.alloc (.cells (zeroF 65) 67) := ⟨_, rfl⟩
              rw [← hp1] at FA ⊢
              rw [← hv] at FA hb ⊢
              have SL := Lib.hid (SL.out.below hb)
              have PZ := Lib.hid ((hb.block _ (Array.getElem?_eq_some_iff.1 PZ.out).1).trans PZ.out)
              have BX := Lib.hid (BX.out.trans (hb.mono BX.out.size))
              clear hb hv hp1
              refine hK _ _ ?_
              clear hK K
              try simp only [Act.put, List.setIfInBounds_toArray, List.set_cons_zero, List.set_cons_succ]
              refine wpAny_ready (rs := [2]) (by kernel_rfl) (by simp) (AllReady.cons rfl (fun K hK => ?_) AllReady.nil)
              go_simp
              refine (probe_many ⟨#[120]⟩ ⟨#[98, 117, 115]⟩ ⟨#[]⟩ 0 0 (-1) [⟨#[97]⟩] sl _ (List.replicate 65 ⟨0, 0, 0⟩) v3 SL.out (by unfold Cd.ok; decide) mayB_sample FA.out (by simp)).mono ?_
              rintro er v4 ⟨rfl, hb⟩
              have SL := Lib.hid (SL.out.below hb)
              have FA := Lib.hid (FA.out.below hb)
              have PZ := Lib.hid ((hb.block _ (Array.getElem?_eq_some_iff.1 PZ.out).1).trans PZ.out)
              have BX := Lib.hid (BX.out.trans (hb.mono BX.out.size))
              clear hb
              refine hK _ _ ?_
              clear hK K
              try simp only [Act.put, List.setIfInBounds_toArray, List.set_cons_zero, List.set_cons_succ]
              refine wpAny_take (i := 3) (v := ?_) rfl (by kernel_rfl) (by kernel_rfl) (by kernel_rfl) (fun _ _ _ h => h) (Or.inl ⟨by kernel_rfl, ?_⟩) ?_
              rotate_left
              · intro w
                go_simp
                try with_reducible rfl
              simp only [Act.put, List.getElem_toArray, List.getElem_cons_zero, List.getElem_cons_succ, List.setIfInBounds_toArray, List.set_cons_zero, List.set_cons_succ]
              refine wpAny_take (i := 4) (v := ?_) rfl (by kernel_rfl) (by kernel_rfl) (by kernel_rfl) (fun _ _ _ h => h) (Or.inl ⟨by kernel_rfl, ?_⟩) ?_
              rotate_left
              · intro w
                go_simp
                try with_reducible rfl
              simp only [Act.put, List.getElem_toArray, List.getElem_cons_zero, List.getElem_cons_succ, List.setIfInBounds_toArray, List.set_cons_zero, List.set_cons_succ]
              refine wpAny_take (i := 5) (v := ?_) rfl (by kernel_rfl) (by kernel_rfl) (by kernel_rfl) (fun _ _ _ h => h) (Or.inl ⟨by kernel_rfl, ?_⟩) ?_
              rotate_left
              · intro w
                go_simp
                try with_reducible rfl
              simp only [Act.put, List.getElem_toArray, List.getElem_cons_zero, List.getElem_cons_succ, List.setIfInBounds_toArray, List.set_cons_zero, List.set_cons_succ]
              refine wpAny_ready (rs := [7]) (by kernel_rfl) (by simp) (Go.BigFrame.allReady_want rfl (by kernel_rfl) (fun K hK => ?_) AllReady.nil)
              refine wp_store_mid 56 (.tmp 9) (.tmp 71) (by rfl) pz 0 zo6.toArray (by kernel_rfl) (by kernel_rfl) (fun j hj => ⟨by
                rw [cell_of_row _ _ _ _ _ _ PZ.out]
                exact Option.isSome_iff_exists.2 ⟨_, Array.getElem?_eq_getElem (by simp [zo6] at hj ⊢; omega)⟩, frozen_of_row _ _ _ _ _ PZ.out⟩) (by kernel_rfl) (by simp [zo6, Value.oneCell']) ?_
              have hh := heap_setCells_same zo6.toArray.toList v4 0 _ PZ.out
              have BX := Lib.hid (BX.out.trans (below_lay PB.out zo6.toArray.toList v4 0))
              obtain ⟨v5, hv⟩ : ∃ x, x = v4.setCells pz 0 zo6.toArray.toList := ⟨_, rfl⟩
              rw [← hv] at hh BX ⊢
              have PO := Lib.hid hh
              clear hv hh
              refine hK _ _ ?_
              clear hK K
              try simp only [Act.put, List.setIfInBounds_toArray, List.set_cons_zero, List.set_cons_succ]
              refine wpAny_take (i := 8) (v := ?_) rfl (by kernel_rfl) (by kernel_rfl) (by kernel_rfl) (fun _ _ _ h => h) (Or.inl ⟨by kernel_rfl, ?_⟩) ?_
              rotate_left
              · intro w
                go_simp
                try with_reducible rfl
              simp only [Act.put, List.getElem_toArray, List.getElem_cons_zero, List.getElem_cons_succ, List.setIfInBounds_toArray, List.set_cons_zero, List.set_cons_succ]
              refine wpAny_done (by kernel_rfl) ?_ _
              go_wp2_with fail
              go_meet
              exact ⟨pz, rfl, rfl, BX⟩
            · skip
              refine wp_make_fates 65 (by omega) rfl ?_
              have hb := (Below.refl v1.heap.size v1).alloc (Nat.le_refl _) (.cells (zeroF 65) 67)
              have FA := Lib.hid (made_fates 65 (heap_alloc_new v1 (.cells (zeroF 65) 67)))
              obtain ⟨p1, hp1⟩ : ∃ p, p = v1.heap.size := ⟨_, rfl⟩
              obtain ⟨v2, hv⟩ : ∃ x, x = v1.alloc (.cells (zeroF 65) 67) := ⟨_, rfl⟩
              rw [← hp1] at FA ⊢
              rw [← hv] at FA hb ⊢
              have PZ := Lib.hid ((hb.block _ (Array.getElem?_eq_some_iff.1 PZ.out).1).trans PZ.out)
              have BX := Lib.hid (BX.out.trans (hb.mono BX.out.size))
              clear hb hv hp1
              refine hK _ _ ?_
              clear hK K
              try simp only [Act.put, List.setIfInBounds_toArray, List.set_cons_zero, List.set_cons_succ]
              refine wpAny_ready (rs := [0]) (by kernel_rfl) (by simp) (AllReady.cons rfl (fun K hK => ?_) AllReady.nil)
              go_simp
              refine (sample_any ⟨#[98, 117, 115]⟩ v2).mono ?_
              rintro er v3 ⟨sl, rfl, hsl, hb⟩
              have SL := Lib.hid hsl
              have FA := Lib.hid (FA.out.below hb)
              have PZ := Lib.hid ((hb.block _ (Array.getElem?_eq_some_iff.1 PZ.out).1).trans PZ.out)
              have BX := Lib.hid (BX.out.trans (hb.mono BX.out.size))
              clear hb hsl
              refine hK _ _ ?_
              clear hK K
              try simp only [Act.put, List.setIfInBounds_toArray, List.set_cons_zero, List.set_cons_succ]
              refine wpAny_ready (rs := [2]) (by kernel_rfl) (by simp) (AllReady.cons rfl (fun K hK => ?_) AllReady.nil)
              go_simp
              refine (probe_many ⟨#[120]⟩ ⟨#[98, 117, 115]⟩ ⟨#[]⟩ 0 0 (-1) [⟨#[97]⟩] sl _ (List.replicate 65 ⟨0, 0, 0⟩) v3 SL.out (by unfold Cd.ok; decide) mayB_sample FA.out (by simp)).mono ?_
              rintro er v4 ⟨rfl, hb⟩
              have SL := Lib.hid (SL.out.below hb)
              have FA := Lib.hid (FA.out.below hb)
              have PZ := Lib.hid ((hb.block _ (Array.getElem?_eq_some_iff.1 PZ.out).1).trans PZ.out)
              have BX := Lib.hid (BX.out.trans (hb.mono BX.out.size))
              clear hb
              refine hK _ _ ?_
              clear hK K
              try simp only [Act.put, List.setIfInBounds_toArray, List.set_cons_zero, List.set_cons_succ]
              refine wpAny_take (i := 3) (v := ?_) rfl (by kernel_rfl) (by kernel_rfl) (by kernel_rfl) (fun _ _ _ h => h) (Or.inl ⟨by kernel_rfl, ?_⟩) ?_
              rotate_left
              · intro w
                go_simp
                try with_reducible rfl
              simp only [Act.put, List.getElem_toArray, List.getElem_cons_zero, List.getElem_cons_succ, List.setIfInBounds_toArray, List.set_cons_zero, List.set_cons_succ]
              refine wpAny_take (i := 4) (v := ?_) rfl (by kernel_rfl) (by kernel_rfl) (by kernel_rfl) (fun _ _ _ h => h) (Or.inl ⟨by kernel_rfl, ?_⟩) ?_
              rotate_left
              · intro w
                go_simp
                try with_reducible rfl
              simp only [Act.put, List.getElem_toArray, List.getElem_cons_zero, List.getElem_cons_succ, List.setIfInBounds_toArray, List.set_cons_zero, List.set_cons_succ]
              refine wpAny_take (i := 5) (v := ?_) rfl (by kernel_rfl) (by kernel_rfl) (by kernel_rfl) (fun _ _ _ h => h) (Or.inl ⟨by kernel_rfl, ?_⟩) ?_
              rotate_left
              · intro w
                go_simp
                try with_reducible rfl
              simp only [Act.put, List.getElem_toArray, List.getElem_cons_zero, List.getElem_cons_succ, List.setIfInBounds_toArray, List.set_cons_zero, List.set_cons_succ]
              refine wpAny_ready (rs := [7]) (by kernel_rfl) (by simp) (Go.BigFrame.allReady_want rfl (by kernel_rfl) (fun K hK => ?_) AllReady.nil)
              refine wp_store_mid 56 (.tmp 9) (.tmp 71) (by rfl) pz 0 zo6.toArray (by kernel_rfl) (by kernel_rfl) (fun j hj => ⟨by
                rw [cell_of_row _ _ _ _ _ _ PZ.out]
                exact Option.isSome_iff_exists.2 ⟨_, Array.getElem?_eq_getElem (by simp [zo6] at hj ⊢; omega)⟩, frozen_of_row _ _ _ _ _ PZ.out⟩) (by kernel_rfl) (by simp [zo6, Value.oneCell']) ?_
              have hh := heap_setCells_same zo6.toArray.toList v4 0 _ PZ.out
              have BX := Lib.hid (BX.out.trans (below_lay PB.out zo6.toArray.toList v4 0))
              obtain ⟨v5, hv⟩ : ∃ x, x = v4.setCells pz 0 zo6.toArray.toList := ⟨_, rfl⟩
              rw [← hv] at hh BX ⊢
              have PO := Lib.hid hh
              clear hv hh
              refine hK _ _ ?_
              clear hK K
              try simp only [Act.put, List.setIfInBounds_toArray, List.set_cons_zero, List.set_cons_succ]
              refine wpAny_take (i := 8) (v := ?_) rfl (by kernel_rfl) (by kernel_rfl) (by kernel_rfl) (fun _ _ _ h => h) (Or.inl ⟨by kernel_rfl, ?_⟩) ?_
              rotate_left
              · intro w
                go_simp
                try with_reducible rfl
              simp only [Act.put, List.getElem_toArray, List.getElem_cons_zero, List.getElem_cons_succ, List.setIfInBounds_toArray, List.set_cons_zero, List.set_cons_succ]
              refine wpAny_done (by kernel_rfl) ?_ _
              go_wp2_with fail
              go_meet
              exact ⟨pz, rfl, rfl, BX⟩
        case rest =>
        obtain ⟨p9, rfl, rfl, B5⟩ := hcut
        clear B4
        obtain ⟨W5, rfl⟩ : ∃ x : World, x = wc := ⟨_, rfl⟩
        go_upto_region 16 with fail
        go_cut [11, 12] (fun s0 s1 wx => ∃ (p : Nat) (vd vg vs : Value), s0 = .pointer (some ⟨p, 0, none⟩) ∧ s1 = .int .i64 0 ∧ Hid (Below w.heap.size w wx) ∧ Hid (wx.heap[p]? = some (.cells #[Value.bool true, .int .i64 (-1), .int .u8 0, vd, vg, vs] 56 (0, 0))))
        case first => as_aux_lemma => --ok
          refine wp_region_any (by kernel_rfl) ?_
          have BX : Hid (Below w.heap.size w W5.drew) := Lib.hid (B5.out.drew)
          change wpAny _ _ _ _ _ _ _ W5.drew
          generalize W5.drew = v0 at *
          refine wpAny_ready (rs := [0, 1, 6]) (by kernel_rfl) (by simp) (AllReady.cons rfl (fun K hK => ?_) (Go.BigFrame.allReady_want rfl (by kernel_rfl) (fun K hK => ?_) (AllReady.cons rfl (fun K hK => ?_) AllReady.nil)))
          · skip
            go_simp
            refine (sample_any ⟨#[110, 111, 110, 101]⟩ v0).mono ?_
            rintro er v1 ⟨sl, rfl, hsl, hb⟩
            have SL := Lib.hid hsl
            have BX := Lib.hid (BX.out.trans (hb.mono BX.out.size))
            clear hb hsl
            refine hK _ _ ?_
            clear hK K
            try simp only [Act.put, List.setIfInBounds_toArray, List.set_cons_zero, List.set_cons_succ]
            refine wpAny_ready (rs := [1, 6]) (by kernel_rfl) (by simp) (Go.BigFrame.allReady_want rfl (by kernel_rfl) (fun K hK => ?_) (AllReady.cons rfl (fun K hK => ?_) AllReady.nil))
            · skip
              refine wp_make_fates 64 (by omega) rfl ?_
              have hb := (Below.refl v1.heap.size v1).alloc (Nat.le_refl _) (.cells (zeroF 64) 67)
              have FA := Lib.hid (made_fates 64 (heap_alloc_new v1 (.cells (zeroF 64) 67)))
              obtain ⟨p1, hp1⟩ : ∃ p, p = v1.heap.size := ⟨_, rfl⟩
              obtain ⟨v2, hv⟩ : ∃ x, x = v1.alloc (.cells (zeroF 64) 67) := ⟨_, rfl⟩
              rw [← hp1] at FA ⊢
              rw [← hv] at FA hb ⊢
              have SL := Lib.hid (SL.out.below hb)
              have BX := Lib.hid (BX.out.trans (hb.mono BX.out.size))
              clear hb hv hp1
              refine hK _ _ ?_
              clear hK K
              try simp only [Act.put, List.setIfInBounds_toArray, List.set_cons_zero, List.set_cons_succ]
              refine wpAny_ready (rs := [2, 6]) (by kernel_rfl) (by simp) (AllReady.cons rfl (fun K hK => ?_) (AllReady.cons rfl (fun K hK => ?_) AllReady.nil))
              · skip
                go_simp
                refine (probe_ok HSH.out ⟨#[120]⟩ ⟨#[110, 111, 110, 101]⟩ ⟨#[]⟩ 0 0 (-1) [⟨#[97]⟩] sl _ (List.replicate 64 ⟨0, 0, 0⟩) v2 (HW.out.trans (BX.out.mono HW.out.size)) SL.out (by unfold Cd.ok; decide) mayB_sample2 FA.out (by simp) (by decide) (fun f hf => by
                  rw [List.mem_replicate] at hf
                  rw [hf.2]
                  unfold Ft.ok
                  decide)).mono ?_
                rintro er v3 ⟨m, g, at_, how, vd, vg, vs, far, rfl, hd, hgv, hst, hb⟩
                obtain ⟨rfl, rfl, rfl⟩ := names_far far
                obtain ⟨ad, cd, rfl⟩ := own_slice hd
                obtain ⟨ag, cg, hvg⟩ := own_slice hgv
                obtain ⟨az, cs2, hvs⟩ := own_slice hst
                generalize (namesR false _).length = ng at hvg
                generalize (namesR true _).length = ns at hvs
                subst hvg hvs
                clear far hd hgv hst
                have SL := Lib.hid (SL.out.below hb)
                have FA := Lib.hid (FA.out.below hb)
                have BX := Lib.hid (BX.out.trans (hb.mono BX.out.size))
                clear hb
                refine hK _ _ ?_
                clear hK K
                try simp only [Act.put, List.setIfInBounds_toArray, List.set_cons_zero, List.set_cons_succ]
                refine wpAny_take (i := 3) (v := ?_) rfl (by kernel_rfl) (by kernel_rfl) (by kernel_rfl) (fun _ _ _ h => h) (Or.inl ⟨by kernel_rfl, ?_⟩) ?_
                rotate_left
                · intro w
                  go_simp
                  try with_reducible rfl
                simp only [Act.put, List.getElem_toArray, List.getElem_cons_zero, List.getElem_cons_succ, List.setIfInBounds_toArray, List.set_cons_zero, List.set_cons_succ]
                refine wpAny_take (i := 4) (v := ?_) rfl (by kernel_rfl) (by kernel_rfl) (by kernel_rfl) (fun _ _ _ h => h) (Or.inl ⟨by kernel_rfl, ?_⟩) ?_
                rotate_left
                · intro w
                  go_simp
                  try with_reducible rfl
                simp only [Act.put, List.getElem_toArray, List.getElem_cons_zero, List.getElem_cons_succ, List.setIfInBounds_toArray, List.set_cons_zero, List.set_cons_succ]
                refine wpAny_take (i := 5) (v := ?_) rfl (by kernel_rfl) (by kernel_rfl) (by kernel_rfl) (fun _ _ _ h => h) (Or.inl ⟨by kernel_rfl, ?_⟩) ?_
                rotate_left
                · intro w
                  go_simp
                  try with_reducible rfl
                simp only [Act.put, List.getElem_toArray, List.getElem_cons_zero, List.getElem_cons_succ, List.setIfInBounds_toArray, List.set_cons_zero, List.set_cons_succ]
                refine wpAny_ready (rs := [6]) (by kernel_rfl) (by simp) (AllReady.cons rfl (fun K hK => ?_) AllReady.nil)
                go_simp
                have hb := (Below.refl v3.heap.size v3).alloc (Nat.le_refl _) (.cells #[.bool false, .int .i64 0, .int .u8 0, .slice none 0 0, .slice none 0 0, .slice none 0 0] 56)
                have PZ := Lib.hid (heap_alloc_new v3 (.cells #[.bool false, .int .i64 0, .int .u8 0, .slice none 0 0, .slice none 0 0, .slice none 0 0] 56))
                obtain ⟨pz, hpz⟩ : ∃ p, p = v3.heap.size := ⟨_, rfl⟩
                have PB : Hid (w.heap.size ≤ pz) := Lib.hid (by rw [hpz]; exact BX.out.size)
                obtain ⟨v4, hv⟩ : ∃ x, x = v3.alloc (.cells #[.bool false, .int .i64 0, .int .u8 0, .slice none 0 0, .slice none 0 0, .slice none 0 0] 56) := ⟨_, rfl⟩
                rw [← hpz] at PZ ⊢
                rw [← hv] at PZ hb ⊢
                have BX := Lib.hid (BX.out.trans (hb.mono BX.out.size))
                clear hb hv hpz
                refine hK _ _ ?_
                clear hK K
                try simp only [Act.put, List.setIfInBounds_toArray, List.set_cons_zero, List.set_cons_succ]
                refine wpAny_ready (rs := [7]) (by kernel_rfl) (by simp) (Go.BigFrame.allReady_want rfl (by kernel_rfl) (fun K hK => ?_) AllReady.nil)
                refine wp_store_mid 56 (.tmp 11) (.tmp 77) (by rfl) pz 0 #[Value.bool true, .int .i64 (-1), .int .u8 0, .slice ad m cd, .slice ag ng cg, .slice az ns cs2] (by kernel_rfl) (by kernel_rfl) (fun j hj => ⟨by
                  rw [cell_of_row _ _ _ _ _ _ PZ.out]
                  exact Option.isSome_iff_exists.2 ⟨_, Array.getElem?_eq_getElem (by simp [zo6] at hj ⊢; omega)⟩, frozen_of_row _ _ _ _ _ PZ.out⟩) (by kernel_rfl) (by simp [zo6, Value.oneCell']) ?_
                have hh := heap_setCells_same #[Value.bool true, .int .i64 (-1), .int .u8 0, .slice ad m cd, .slice ag ng cg, .slice az ns cs2].toList v4 0 _ PZ.out
                have BX := Lib.hid (BX.out.trans (below_lay PB.out #[Value.bool true, .int .i64 (-1), .int .u8 0, .slice ad m cd, .slice ag ng cg, .slice az ns cs2].toList v4 0))
                obtain ⟨v5, hv⟩ : ∃ x, x = v4.setCells pz 0 #[Value.bool true, .int .i64 (-1), .int .u8 0, .slice ad m cd, .slice ag ng cg, .slice az ns cs2].toList := ⟨_, rfl⟩
                rw [← hv] at hh BX ⊢
                have PO := Lib.hid hh
                clear hv hh
                refine hK _ _ ?_
                clear hK K
                try simp only [Act.put, List.setIfInBounds_toArray, List.set_cons_zero, List.set_cons_succ]
                refine wpAny_take (i := 8) (v := ?_) rfl (by kernel_rfl) (by kernel_rfl) (by kernel_rfl) (fun _ _ _ h => h) (Or.inl ⟨by kernel_rfl, ?_⟩) ?_
                rotate_left
                · intro w
                  go_simp
                  try with_reducible rfl
                simp only [Act.put, List.getElem_toArray, List.getElem_cons_zero, List.getElem_cons_succ, List.setIfInBounds_toArray, List.set_cons_zero, List.set_cons_succ]
                refine wpAny_done (by kernel_rfl) ?_ _
                go_wp2_with fail
                go_meet
                exact ⟨pz, .slice ad m cd, .slice ag ng cg, .slice az ns cs2, rfl, rfl, BX, PO⟩
              · skip
                go_simp
                have hb := (Below.refl v2.heap.size v2).alloc (Nat.le_refl _) (.cells #[.bool false, .int .i64 0, .int .u8 0, .slice none 0 0, .slice none 0 0, .slice none 0 0] 56)
                have PZ := Lib.hid (heap_alloc_new v2 (.cells #[.bool false, .int .i64 0, .int .u8 0, .slice none 0 0, .slice none 0 0, .slice none 0 0] 56))
                obtain ⟨pz, hpz⟩ : ∃ p, p = v2.heap.size := ⟨_, rfl⟩
                have PB : Hid (w.heap.size ≤ pz) := Lib.hid (by rw [hpz]; exact BX.out.size)
                obtain ⟨v3, hv⟩ : ∃ x, x = v2.alloc (.cells #[.bool false, .int .i64 0, .int .u8 0, .slice none 0 0, .slice none 0 0, .slice none 0 0] 56) := ⟨_, rfl⟩
                rw [← hpz] at PZ ⊢
                rw [← hv] at PZ hb ⊢
                have SL := Lib.hid (SL.out.below hb)
                have FA := Lib.hid (FA.out.below hb)
                have BX := Lib.hid (BX.out.trans (hb.mono BX.out.size))
                clear hb hv hpz
                refine hK _ _ ?_
                clear hK K
                try simp only [Act.put, List.setIfInBounds_toArray, List.set_cons_zero, List.set_cons_succ]
                refine wpAny_ready (rs := [2]) (by kernel_rfl) (by simp) (AllReady.cons rfl (fun K hK => ?_) AllReady.nil)
                go_simp
                refine (probe_ok HSH.out ⟨#[120]⟩ ⟨#[110, 111, 110, 101]⟩ ⟨#[]⟩ 0 0 (-1) [⟨#[97]⟩] sl _ (List.replicate 64 ⟨0, 0, 0⟩) v3 (HW.out.trans (BX.out.mono HW.out.size)) SL.out (by unfold Cd.ok; decide) mayB_sample2 FA.out (by simp) (by decide) (fun f hf => by
                  rw [List.mem_replicate] at hf
                  rw [hf.2]
                  unfold Ft.ok
                  decide)).mono ?_
                rintro er v4 ⟨m, g, at_, how, vd, vg, vs, far, rfl, hd, hgv, hst, hb⟩
                obtain ⟨rfl, rfl, rfl⟩ := names_far far
                obtain ⟨ad, cd, rfl⟩ := own_slice hd
                obtain ⟨ag, cg, hvg⟩ := own_slice hgv
                obtain ⟨az, cs2, hvs⟩ := own_slice hst
                generalize (namesR false _).length = ng at hvg
                generalize (namesR true _).length = ns at hvs
                subst hvg hvs
                clear far hd hgv hst
                have SL := Lib.hid (SL.out.below hb)
                have FA := Lib.hid (FA.out.below hb)
                have PZ := Lib.hid ((hb.block _ (Array.getElem?_eq_some_iff.1 PZ.out).1).trans PZ.out)
                have BX := Lib.hid (BX.out.trans (hb.mono BX.out.size))
                clear hb
                refine hK _ _ ?_
                clear hK K
                try simp only [Act.put, List.setIfInBounds_toArray, List.set_cons_zero, List.set_cons_succ]
                refine wpAny_take (i := 3) (v := ?_) rfl (by kernel_rfl) (by kernel_rfl) (by kernel_rfl) (fun _ _ _ h => h) (Or.inl ⟨by kernel_rfl, ?_⟩) ?_
                rotate_left
                · intro w
                  go_simp
                  try with_reducible rfl
                simp only [Act.put, List.getElem_toArray, List.getElem_cons_zero, List.getElem_cons_succ, List.setIfInBounds_toArray, List.set_cons_zero, List.set_cons_succ]
                refine wpAny_take (i := 4) (v := ?_) rfl (by kernel_rfl) (by kernel_rfl) (by kernel_rfl) (fun _ _ _ h => h) (Or.inl ⟨by kernel_rfl, ?_⟩) ?_
                rotate_left
                · intro w
                  go_simp
                  try with_reducible rfl
                simp only [Act.put, List.getElem_toArray, List.getElem_cons_zero, List.getElem_cons_succ, List.setIfInBounds_toArray, List.set_cons_zero, List.set_cons_succ]
                refine wpAny_take (i := 5) (v := ?_) rfl (by kernel_rfl) (by kernel_rfl) (by kernel_rfl) (fun _ _ _ h => h) (Or.inl ⟨by kernel_rfl, ?_⟩) ?_
                rotate_left
                · intro w
                  go_simp
                  try with_reducible rfl
                simp only [Act.put, List.getElem_toArray, List.getElem_cons_zero, List.getElem_cons_succ, List.setIfInBounds_toArray, List.set_cons_zero, List.set_cons_succ]
                refine wpAny_ready (rs := [7]) (by kernel_rfl) (by simp) (Go.BigFrame.allReady_want rfl (by kernel_rfl) (fun K hK => ?_) AllReady.nil)
                refine wp_store_mid 56 (.tmp 11) (.tmp 77) (by rfl) pz 0 #[Value.bool true, .int .i64 (-1), .int .u8 0, .slice ad m cd, .slice ag ng cg, .slice az ns cs2] (by kernel_rfl) (by kernel_rfl) (fun j hj => ⟨by
                  rw [cell_of_row _ _ _ _ _ _ PZ.out]
                  exact Option.isSome_iff_exists.2 ⟨_, Array.getElem?_eq_getElem (by simp [zo6] at hj ⊢; omega)⟩, frozen_of_row _ _ _ _ _ PZ.out⟩) (by kernel_rfl) (by simp [zo6, Value.oneCell']) ?_
                have hh := heap_setCells_same #[Value.bool true, .int .i64 (-1), .int .u8 0, .slice ad m cd, .slice ag ng cg, .slice az ns cs2].toList v4 0 _ PZ.out
                have BX := Lib.hid (BX.out.trans (below_lay PB.out #[Value.bool true, .int .i64 (-1), .int .u8 0, .slice ad m cd, .slice ag ng cg, .slice az ns cs2].toList v4 0))
                obtain ⟨v5, hv⟩ : ∃ x, x = v4.setCells pz 0 #[Value.bool true, .int .i64 (-1), .int .u8 0, .slice ad m cd, .slice ag ng cg, .slice az ns cs2].toList := ⟨_, rfl⟩
                rw [← hv] at hh BX ⊢
                have PO := Lib.hid hh
                clear hv hh
                refine hK _ _ ?_
                clear hK K
                try simp only [Act.put, List.setIfInBounds_toArray, List.set_cons_zero, List.set_cons_succ]
                refine wpAny_take (i := 8) (v := ?_) rfl (by kernel_rfl) (by kernel_rfl) (by kernel_rfl) (fun _ _ _ h => h) (Or.inl ⟨by kernel_rfl, ?_⟩) ?_
                rotate_left
                · intro w
                  go_simp
                  try with_reducible rfl
                simp only [Act.put, List.getElem_toArray, List.getElem_cons_zero, List.getElem_cons_succ, List.setIfInBounds_toArray, List.set_cons_zero, List.set_cons_succ]
                refine wpAny_done (by kernel_rfl) ?_ _
                go_wp2_with fail
                go_meet
                exact ⟨pz, .slice ad m cd, .slice ag ng cg, .slice az ns cs2, rfl, rfl, BX, PO⟩
            · skip
              go_simp
              have hb := (Below.refl v1.heap.size v1).alloc (Nat.le_refl _) (.cells #[.bool false, .int .i64 0, .int .u8 0, .slice none 0 0, .slice none 0 0, .slice none 0 0] 56)
              have PZ := Lib.hid (heap_alloc_new v1 (.cells #[.bool false, .int .i64 0, .int .u8 0, .slice none 0 0, .slice none 0 0, .slice none 0 0] 56))
              obtain ⟨pz, hpz⟩ : ∃ p, p = v1.heap.size := ⟨_, rfl⟩
              have PB : Hid (w.heap.size ≤ pz) := Lib.hid (by rw [hpz]; exact BX.out.size)
              obtain ⟨v2, hv⟩ : ∃ x, x = v1.alloc (.cells #[.bool false, .int .i64 0, .int .u8 0, .slice none 0 0, .slice none 0 0, .slice none 0 0] 56) := ⟨_, rfl⟩
              rw [← hpz] at PZ ⊢
              rw [← hv] at PZ hb ⊢
              have SL := Lib.hid (SL.out.below hb)
              have BX := Lib.hid (BX.out.trans (hb.mono BX.out.size))
              clear hb hv hpz
              refine hK _ _ ?_
              clear hK K
              try simp only [Act.put, List.setIfInBounds_toArray, List.set_cons_zero, List.set_cons_succ]
              refine wpAny_ready (rs := [1]) (by kernel_rfl) (by simp) (Go.BigFrame.allReady_want rfl (by kernel_rfl) (fun K hK => ?_) AllReady.nil)
              refine wp_make_fates 64 (by omega) rfl ?_
              have hb := (Below.refl v2.heap.size v2).alloc (Nat.le_refl _) (.cells (zeroF 64) 67)
              have FA := Lib.hid (made_fates 64 (heap_alloc_new v2 (.cells (zeroF 64) 67)))
              obtain ⟨p1, hp1⟩ : ∃ p, p = v2.heap.size := ⟨_, rfl⟩
              obtain ⟨v3, hv⟩ : ∃ x, x = v2.alloc (.cells (zeroF 64) 67) := ⟨_, rfl⟩
              rw [← hp1] at FA ⊢
              rw [← hv] at FA hb ⊢
              have SL := Lib.hid (SL.out.below hb)
              have PZ := Lib.hid ((hb.block _ (Array.getElem?_eq_some_iff.1 PZ.out).1).trans PZ.out)
              have BX := Lib.hid (BX.out.trans (hb.mono BX.out.size))
              clear hb hv hp1
              refine hK _ _ ?_
              clear hK K
              try simp only [Act.put, List.setIfInBounds_toArray, List.set_cons_zero, List.set_cons_succ]
              refine wpAny_ready (rs := [2]) (by kernel_rfl) (by simp) (AllReady.cons rfl (fun K hK => ?_) AllReady.nil)
              go_simp
              refine (probe_ok HSH.out ⟨#[120]⟩ ⟨#[110, 111, 110, 101]⟩ ⟨#[]⟩ 0 0 (-1) [⟨#[97]⟩] sl _ (List.replicate 64 ⟨0, 0, 0⟩) v3 (HW.out.trans (BX.out.mono HW.out.size)) SL.out (by unfold Cd.ok; decide) mayB_sample2 FA.out (by simp) (by decide) (fun f hf => by
                rw [List.mem_replicate] at hf
                rw [hf.2]
                unfold Ft.ok
                decide)).mono ?_
              rintro er v4 ⟨m, g, at_, how, vd, vg, vs, far, rfl, hd, hgv, hst, hb⟩
              obtain ⟨rfl, rfl, rfl⟩ := names_far far
              obtain ⟨ad, cd, rfl⟩ := own_slice hd
              obtain ⟨ag, cg, hvg⟩ := own_slice hgv
              obtain ⟨az, cs2, hvs⟩ := own_slice hst
              generalize (namesR false _).length = ng at hvg
              generalize (namesR true _).length = ns at hvs
              subst hvg hvs
              clear far hd hgv hst
              have SL := Lib.hid (SL.out.below hb)
              have FA := Lib.hid (FA.out.below hb)
              have PZ := Lib.hid ((hb.block _ (Array.getElem?_eq_some_iff.1 PZ.out).1).trans PZ.out)
              have BX := Lib.hid (BX.out.trans (hb.mono BX.out.size))
              clear hb
              refine hK _ _ ?_
              clear hK K
              try simp only [Act.put, List.setIfInBounds_toArray, List.set_cons_zero, List.set_cons_succ]
              refine wpAny_take (i := 3) (v := ?_) rfl (by kernel_rfl) (by kernel_rfl) (by kernel_rfl) (fun _ _ _ h => h) (Or.inl ⟨by kernel_rfl, ?_⟩) ?_
              rotate_left
              · intro w
                go_simp
                try with_reducible rfl
              simp only [Act.put, List.getElem_toArray, List.getElem_cons_zero, List.getElem_cons_succ, List.setIfInBounds_toArray, List.set_cons_zero, List.set_cons_succ]
              refine wpAny_take (i := 4) (v := ?_) rfl (by kernel_rfl) (by kernel_rfl) (by kernel_rfl) (fun _ _ _ h => h) (Or.inl ⟨by kernel_rfl, ?_⟩) ?_
              rotate_left
              · intro w
                go_simp
                try with_reducible rfl
              simp only [Act.put, List.getElem_toArray, List.getElem_cons_zero, List.getElem_cons_succ, List.setIfInBounds_toArray, List.set_cons_zero, List.set_cons_succ]
              refine wpAny_take (i := 5) (v := ?_) rfl (by kernel_rfl) (by kernel_rfl) (by kernel_rfl) (fun _ _ _ h => h) (Or.inl ⟨by kernel_rfl, ?_⟩) ?_
              rotate_left
              · intro w
                go_simp
                try with_reducible rfl
              simp only [Act.put, List.getElem_toArray, List.getElem_cons_zero, List.getElem_cons_succ, List.setIfInBounds_toArray, List.set_cons_zero, List.set_cons_succ]
              refine wpAny_ready (rs := [7]) (by kernel_rfl) (by simp) (Go.BigFrame.allReady_want rfl (by kernel_rfl) (fun K hK => ?_) AllReady.nil)
              refine wp_store_mid 56 (.tmp 11) (.tmp 77) (by rfl) pz 0 #[Value.bool true, .int .i64 (-1), .int .u8 0, .slice ad m cd, .slice ag ng cg, .slice az ns cs2] (by kernel_rfl) (by kernel_rfl) (fun j hj => ⟨by
                rw [cell_of_row _ _ _ _ _ _ PZ.out]
                exact Option.isSome_iff_exists.2 ⟨_, Array.getElem?_eq_getElem (by simp [zo6] at hj ⊢; omega)⟩, frozen_of_row _ _ _ _ _ PZ.out⟩) (by kernel_rfl) (by simp [zo6, Value.oneCell']) ?_
              have hh := heap_setCells_same #[Value.bool true, .int .i64 (-1), .int .u8 0, .slice ad m cd, .slice ag ng cg, .slice az ns cs2].toList v4 0 _ PZ.out
              have BX := Lib.hid (BX.out.trans (below_lay PB.out #[Value.bool true, .int .i64 (-1), .int .u8 0, .slice ad m cd, .slice ag ng cg, .slice az ns cs2].toList v4 0))
              obtain ⟨v5, hv⟩ : ∃ x, x = v4.setCells pz 0 #[Value.bool true, .int .i64 (-1), .int .u8 0, .slice ad m cd, .slice ag ng cg, .slice az ns cs2].toList := ⟨_, rfl⟩
              rw [← hv] at hh BX ⊢
              have PO := Lib.hid hh
              clear hv hh
              refine hK _ _ ?_
              clear hK K
              try simp only [Act.put, List.setIfInBounds_toArray, List.set_cons_zero, List.set_cons_succ]
              refine wpAny_take (i := 8) (v := ?_) rfl (by kernel_rfl) (by kernel_rfl) (by kernel_rfl) (fun _ _ _ h => h) (Or.inl ⟨by kernel_rfl, ?_⟩) ?_
              rotate_left
              · intro w
                go_simp
                try with_reducible rfl
              simp only [Act.put, List.getElem_toArray, List.getElem_cons_zero, List.getElem_cons_succ, List.setIfInBounds_toArray, List.set_cons_zero, List.set_cons_succ]
              refine wpAny_done (by kernel_rfl) ?_ _
              go_wp2_with fail
              go_meet
              exact ⟨pz, .slice ad m cd, .slice ag ng cg, .slice az ns cs2, rfl, rfl, BX, PO⟩
          · skip
            refine wp_make_fates 64 (by omega) rfl ?_
            have hb := (Below.refl v0.heap.size v0).alloc (Nat.le_refl _) (.cells (zeroF 64) 67)
            have FA := Lib.hid (made_fates 64 (heap_alloc_new v0 (.cells (zeroF 64) 67)))
            obtain ⟨p1, hp1⟩ : ∃ p, p = v0.heap.size := ⟨_, rfl⟩
            obtain ⟨v1, hv⟩ : ∃ x, x = v0.alloc (.cells (zeroF 64) 67) := ⟨_, rfl⟩
            rw [← hp1] at FA ⊢
            rw [← hv] at FA hb ⊢
            have BX := Lib.hid (BX.out.trans (hb.mono BX.out.size))
            clear hb hv hp1
            refine hK _ _ ?_
            clear hK K
            try simp only [Act.put, List.setIfInBounds_toArray, List.set_cons_zero, List.set_cons_succ]
            refine wpAny_ready (rs := [0, 6]) (by kernel_rfl) (by simp) (AllReady.cons rfl (fun K hK => ?_) (AllReady.cons rfl (fun K hK => ?_) AllReady.nil))
            · skip
              go_simp
              refine (sample_any ⟨#[110, 111, 110, 101]⟩ v1).mono ?_
              rintro er v2 ⟨sl, rfl, hsl, hb⟩
              have SL := Lib.hid hsl
              have FA := Lib.hid (FA.out.below hb)
              have BX := Lib.hid (BX.out.trans (hb.mono BX.out.size))
              clear hb hsl
              refine hK _ _ ?_
              clear hK K
              try simp only [Act.put, List.setIfInBounds_toArray, List.set_cons_zero, List.set_cons_succ]
              refine wpAny_ready (rs := [2, 6]) (by kernel_rfl) (by simp) (AllReady.cons rfl (fun K hK => ?_) (AllReady.cons rfl (fun K hK => ?_) AllReady.nil))
              · skip
                go_simp
                refine (probe_ok HSH.out ⟨#[120]⟩ ⟨#[110, 111, 110, 101]⟩ ⟨#[]⟩ 0 0 (-1) [⟨#[97]⟩] sl _ (List.replicate 64 ⟨0, 0, 0⟩) v2 (HW.out.trans (BX.out.mono HW.out.size)) SL.out (by unfold Cd.ok; decide) mayB_sample2 FA.out (by simp) (by decide) (fun f hf => by
                  rw [List.mem_replicate] at hf
                  rw [hf.2]
                  unfold Ft.ok
                  decide)).mono ?_
                rintro er v3 ⟨m, g, at_, how, vd, vg, vs, far, rfl, hd, hgv, hst, hb⟩
                obtain ⟨rfl, rfl, rfl⟩ := names_far far
                obtain ⟨ad, cd, rfl⟩ := own_slice hd
                obtain ⟨ag, cg, hvg⟩ := own_slice hgv
                obtain ⟨az, cs2, hvs⟩ := own_slice hst
                generalize (namesR false _).length = ng at hvg
                generalize (namesR true _).length = ns at hvs
                subst hvg hvs
                clear far hd hgv hst
                have SL := Lib.hid (SL.out.below hb)
                have FA := Lib.hid (FA.out.below hb)
                have BX := Lib.hid (BX.out.trans (hb.mono BX.out.size))
                clear hb
                refine hK _ _ ?_
                clear hK K
                try simp only [Act.put, List.setIfInBounds_toArray, List.set_cons_zero, List.set_cons_succ]
                refine wpAny_take (i := 3) (v := ?_) rfl (by kernel_rfl) (by kernel_rfl) (by kernel_rfl) (fun _ _ _ h => h) (Or.inl ⟨by kernel_rfl, ?_⟩) ?_
                rotate_left
                · intro w
                  go_simp
                  try with_reducible rfl
                simp only [Act.put, List.getElem_toArray, List.getElem_cons_zero, List.getElem_cons_succ, List.setIfInBounds_toArray, List.set_cons_zero, List.set_cons_succ]
                refine wpAny_take (i := 4) (v := ?_) rfl (by kernel_rfl) (by kernel_rfl) (by kernel_rfl) (fun _ _ _ h => h) (Or.inl ⟨by kernel_rfl, ?_⟩) ?_
                rotate_left
                · intro w
                  go_simp
                  try with_reducible rfl
                simp only [Act.put, List.getElem_toArray, List.getElem_cons_zero, List.getElem_cons_succ, List.setIfInBounds_toArray, List.set_cons_zero, List.set_cons_succ]
                refine wpAny_take (i := 5) (v := ?_) rfl (by kernel_rfl) (by kernel_rfl) (by kernel_rfl) (fun _ _ _ h => h) (Or.inl ⟨by kernel_rfl, ?_⟩) ?_
                rotate_left
                · intro w
                  go_simp
                  try with_reducible rfl
                simp only [Act.put, List.getElem_toArray, List.getElem_cons_zero, List.getElem_cons_succ, List.setIfInBounds_toArray, List.set_cons_zero, List.set_cons_succ]
                refine wpAny_ready (rs := [6]) (by kernel_rfl) (by simp) (AllReady.cons rfl (fun K hK => ?_) AllReady.nil)
                go_simp
                have hb := (Below.refl v3.heap.size v3).alloc (Nat.le_refl _) (.cells #[.bool false, .int .i64 0, .int .u8 0, .slice none 0 0, .slice none 0 0, .slice none 0 0] 56)
                have PZ := Lib.hid (heap_alloc_new v3 (.cells #[.bool false, .int .i64 0, .int .u8 0, .slice none 0 0, .slice none 0 0, .slice none 0 0] 56))
                obtain ⟨pz, hpz⟩ : ∃ p, p = v3.heap.size := ⟨_, rfl⟩
                have PB : Hid (w.heap.size ≤ pz) := Lib.hid (by rw [hpz]; exact BX.out.size)
                obtain ⟨v4, hv⟩ : ∃ x, x = v3.alloc (.cells #[.bool false, .int .i64 0, .int .u8 0, .slice none 0 0, .slice none 0 0, .slice none 0 0] 56) := ⟨_, rfl⟩
                rw [← hpz] at PZ ⊢
                rw [← hv] at PZ hb ⊢
                have BX := Lib.hid (BX.out.trans (hb.mono BX.out.size))
                clear hb hv hpz
                refine hK _ _ ?_
                clear hK K
                try simp only [Act.put, List.setIfInBounds_toArray, List.set_cons_zero, List.set_cons_succ]
                refine wpAny_ready (rs := [7]) (by kernel_rfl) (by simp) (Go.BigFrame.allReady_want rfl (by kernel_rfl) (fun K hK => ?_) AllReady.nil)
                refine wp_store_mid 56 (.tmp 11) (.tmp 77) (by rfl) pz 0 #[Value.bool true, .int .i64 (-1), .int .u8 0, .slice ad m cd, .slice ag ng cg, .slice az ns cs2] (by kernel_rfl) (by kernel_rfl) (fun j hj => ⟨by
                  rw [cell_of_row _ _ _ _ _ _ PZ.out]
                  exact Option.isSome_iff_exists.2 ⟨_, Array.getElem?_eq_getElem (by simp [zo6] at hj ⊢; omega)⟩, frozen_of_row _ _ _ _ _ PZ.out⟩) (by kernel_rfl) (by simp [zo6, Value.oneCell']) ?_
                have hh := heap_setCells_same #[Value.bool true, .int .i64 (-1), .int .u8 0, .slice ad m cd, .slice ag ng cg, .slice az ns cs2].toList v4 0 _ PZ.out
                have BX := Lib.hid (BX.out.trans (below_lay PB.out #[Value.bool true, .int .i64 (-1), .int .u8 0, .slice ad m cd, .slice ag ng cg, .slice az ns cs2].toList v4 0))
                obtain ⟨v5, hv⟩ : ∃ x, x = v4.setCells pz 0 #[Value.bool true, .int .i64 (-1), .int .u8 0, .slice ad m cd, .slice ag ng cg, .slice az ns cs2].toList := ⟨_, rfl⟩
                rw [← hv] at hh BX ⊢
                have PO := Lib.hid hh
                clear hv hh
                refine hK _ _ ?_
                clear hK K
                try simp only [Act.put, List.setIfInBounds_toArray, List.set_cons_zero, List.set_cons_succ]
                refine wpAny_take (i := 8) (v := ?_) rfl (by kernel_rfl) (by kernel_rfl) (by kernel_rfl) (fun _ _ _ h => h) (Or.inl ⟨by kernel_rfl, ?_⟩) ?_
                rotate_left
                · intro w
                  go_simp
                  try with_reducible rfl
                simp only [Act.put, List.getElem_toArray, List.getElem_cons_zero, List.getElem_cons_succ, List.setIfInBounds_toArray, List.set_cons_zero, List.set_cons_succ]
                refine wpAny_done (by kernel_rfl) ?_ _
                go_wp2_with fail
                go_meet
                exact ⟨pz, .slice ad m cd, .slice ag ng cg, .slice az ns cs2, rfl, rfl, BX, PO⟩
              · skip
                go_simp
                have hb := (Below.refl v2.heap.size v2).alloc (Nat.le_refl _) (.cells #[.bool false, .int .i64 0, .int .u8 0, .slice none 0 0, .slice none 0 0, .slice none 0 0] 56)
                have PZ := Lib.hid (heap_alloc_new v2 (.cells #[.bool false, .int .i64 0, .int .u8 0, .slice none 0 0, .slice none 0 0, .slice none 0 0] 56))
                obtain ⟨pz, hpz⟩ : ∃ p, p = v2.heap.size := ⟨_, rfl⟩
                have PB : Hid (w.heap.size ≤ pz) := Lib.hid (by rw [hpz]; exact BX.out.size)
                obtain ⟨v3, hv⟩ : ∃ x, x = v2.alloc (.cells #[.bool false, .int .i64 0, .int .u8 0, .slice none 0 0, .slice none 0 0, .slice none 0 0] 56) := ⟨_, rfl⟩
                rw [← hpz] at PZ ⊢
                rw [← hv] at PZ hb ⊢
                have SL := Lib.hid (SL.out.below hb)
                have FA := Lib.hid (FA.out.below hb)
                have BX := Lib.hid (BX.out.trans (hb.mono BX.out.size))
                clear hb hv hpz
                refine hK _ _ ?_
                clear hK K
                try simp only [Act.put, List.setIfInBounds_toArray, List.set_cons_zero, List.set_cons_succ]
                refine wpAny_ready (rs := [2]) (by kernel_rfl) (by simp) (AllReady.cons rfl (fun K hK => ?_) AllReady.nil)
                go_simp
                refine (probe_ok HSH.out ⟨#[120]⟩ ⟨#[110, 111, 110, 101]⟩ ⟨#[]⟩ 0 0 (-1) [⟨#[97]⟩] sl _ (List.replicate 64 ⟨0, 0, 0⟩) v3 (HW.out.trans (BX.out.mono HW.out.size)) SL.out (by unfold Cd.ok; decide) mayB_sample2 FA.out (by simp) (by decide) (fun f hf => by
                  rw [List.mem_replicate] at hf
                  rw [hf.2]
                  unfold Ft.ok
                  decide)).mono ?_
                rintro er v4 ⟨m, g, at_, how, vd, vg, vs, far, rfl, hd, hgv, hst, hb⟩
                obtain ⟨rfl, rfl, rfl⟩ := names_far far
                obtain ⟨ad, cd, rfl⟩ := own_slice hd
                obtain ⟨ag, cg, hvg⟩ := own_slice hgv
                obtain ⟨az, cs2, hvs⟩ := own_slice hst
                generalize (namesR false _).length = ng at hvg
                generalize (namesR true _).length = ns at hvs
                subst hvg hvs
                clear far hd hgv hst
                have SL := Lib.hid (SL.out.below hb)
                have FA := Lib.hid (FA.out.below hb)
                have PZ := Lib.hid ((hb.block _ (Array.getElem?_eq_some_iff.1 PZ.out).1).trans PZ.out)
                have BX := Lib.hid (BX.out.trans (hb.mono BX.out.size))
                clear hb
                refine hK _ _ ?_
                clear hK K
                try simp only [Act.put, List.setIfInBounds_toArray, List.set_cons_zero, List.set_cons_succ]
                refine wpAny_take (i := 3) (v := ?_) rfl (by kernel_rfl) (by kernel_rfl) (by kernel_rfl) (fun _ _ _ h => h) (Or.inl ⟨by kernel_rfl, ?_⟩) ?_
                rotate_left
                · intro w
                  go_simp
                  try with_reducible rfl
                simp only [Act.put, List.getElem_toArray, List.getElem_cons_zero, List.getElem_cons_succ, List.setIfInBounds_toArray, List.set_cons_zero, List.set_cons_succ]
                refine wpAny_take (i := 4) (v := ?_) rfl (by kernel_rfl) (by kernel_rfl) (by kernel_rfl) (fun _ _ _ h => h) (Or.inl ⟨by kernel_rfl, ?_⟩) ?_
                rotate_left
                · intro w
                  go_simp
                  try with_reducible rfl
                simp only [Act.put, List.getElem_toArray, List.getElem_cons_zero, List.getElem_cons_succ, List.setIfInBounds_toArray, List.set_cons_zero, List.set_cons_succ]
                refine wpAny_take (i := 5) (v := ?_) rfl (by kernel_rfl) (by kernel_rfl) (by kernel_rfl) (fun _ _ _ h => h) (Or.inl ⟨by kernel_rfl, ?_⟩) ?_
                rotate_left
                · intro w
                  go_simp
                  try with_reducible rfl
                simp only [Act.put, List.getElem_toArray, List.getElem_cons_zero, List.getElem_cons_succ, List.setIfInBounds_toArray, List.set_cons_zero, List.set_cons_succ]
                refine wpAny_ready (rs := [7]) (by kernel_rfl) (by simp) (Go.BigFrame.allReady_want rfl (by kernel_rfl) (fun K hK => ?_) AllReady.nil)
                refine wp_store_mid 56 (.tmp 11) (.tmp 77) (by rfl) pz 0 #[Value.bool true, .int .i64 (-1), .int .u8 0, .slice ad m cd, .slice ag ng cg, .slice az ns cs2] (by kernel_rfl) (by kernel_rfl) (fun j hj => ⟨by
                  rw [cell_of_row _ _ _ _ _ _ PZ.out]
                  exact Option.isSome_iff_exists.2 ⟨_, Array.getElem?_eq_getElem (by simp [zo6] at hj ⊢; omega)⟩, frozen_of_row _ _ _ _ _ PZ.out⟩) (by kernel_rfl) (by simp [zo6, Value.oneCell']) ?_
                have hh := heap_setCells_same #[Value.bool true, .int .i64 (-1), .int .u8 0, .slice ad m cd, .slice ag ng cg, .slice az ns cs2].toList v4 0 _ PZ.out
                have BX := Lib.hid (BX.out.trans (below_lay PB.out #[Value.bool true, .int .i64 (-1), .int .u8 0, .slice ad m cd, .slice ag ng cg, .slice az ns cs2].toList v4 0))
                obtain ⟨v5, hv⟩ : ∃ x, x = v4.setCells pz 0 #[Value.bool true, .int .i64 (-1), .int .u8 0, .slice ad m cd, .slice ag ng cg, .slice az ns cs2].toList := ⟨_, rfl⟩
                rw [← hv] at hh BX ⊢
                have PO := Lib.hid hh
                clear hv hh
                refine hK _ _ ?_
                clear hK K
                try simp only [Act.put, List.setIfInBounds_toArray, List.set_cons_zero, List.set_cons_succ]
                refine wpAny_take (i := 8) (v := ?_) rfl (by kernel_rfl) (by kernel_rfl) (by kernel_rfl) (fun _ _ _ h => h) (Or.inl ⟨by kernel_rfl, ?_⟩) ?_
                rotate_left
                · intro w
                  go_simp
                  try with_reducible rfl
                simp only [Act.put, List.getElem_toArray, List.getElem_cons_zero, List.getElem_cons_succ, List.setIfInBounds_toArray, List.set_cons_zero, List.set_cons_succ]
                refine wpAny_done (by kernel_rfl) ?_ _
                go_wp2_with fail
                go_meet
                exact ⟨pz, .slice ad m cd, .slice ag ng cg, .slice az ns cs2, rfl, rfl, BX, PO⟩
            · skip
              go_simp
              have hb := (Below.refl v1.heap.size v1).alloc (Nat.le_refl _) (.cells #[.bool false, .int .i64 0, .int .u8 0, .slice none 0 0, .slice none 0 0, .slice none 0 0] 56)
              have PZ := Lib.hid (heap_alloc_new v1 (.cells #[.bool false, .int .i64 0, .int .u8 0, .slice none 0 0, .slice none 0 0, .slice none 0 0] 56))
              obtain ⟨pz, hpz⟩ : ∃ p, p = v1.heap.size := ⟨_, rfl⟩
              have PB : Hid (w.heap.size ≤ pz) := Lib.hid (by rw [hpz]; exact BX.out.size)
              obtain ⟨v2, hv⟩ : ∃ x, x = v1.alloc (.cells #[.bool false, .int .i64 0, .int .u8 0, .slice none 0 0, .slice none 0 0, .slice none 0 0] 56) := ⟨_, rfl⟩
              rw [← hpz] at PZ ⊢
              rw [← hv] at PZ hb ⊢
              have FA := Lib.hid (FA.out.below hb)
              have BX := Lib.hid (BX.out.trans (hb.mono BX.out.size))
              clear hb hv hpz
              refine hK _ _ ?_
              clear hK K
              try simp only [Act.put, List.setIfInBounds_toArray, List.set_cons_zero, List.set_cons_succ]
              refine wpAny_ready (rs := [0]) (by kernel_rfl) (by simp) (AllReady.cons rfl (fun K hK => ?_) AllReady.nil)
              go_simp
              refine (sample_any ⟨#[110, 111, 110, 101]⟩ v2).mono ?_
              rintro er v3 ⟨sl, rfl, hsl, hb⟩
              have SL := Lib.hid hsl
              have FA := Lib.hid (FA.out.below hb)
              have PZ := Lib.hid ((hb.block _ (Array.getElem?_eq_some_iff.1 PZ.out).1).trans PZ.out)
              have BX := Lib.hid (BX.out.trans (hb.mono BX.out.size))
              clear hb hsl
              refine hK _ _ ?_
              clear hK K
              try simp only [Act.put, List.setIfInBounds_toArray, List.set_cons_zero, List.set_cons_succ]
              refine wpAny_ready (rs := [2]) (by kernel_rfl) (by simp) (AllReady.cons rfl (fun K hK => ?_) AllReady.nil)
              go_simp
              refine (probe_ok HSH.out ⟨#[120]⟩ ⟨#[110, 111, 110, 101]⟩ ⟨#[]⟩ 0 0 (-1) [⟨#[97]⟩] sl _ (List.replicate 64 ⟨0, 0, 0⟩) v3 (HW.out.trans (BX.out.mono HW.out.size)) SL.out (by unfold Cd.ok; decide) mayB_sample2 FA.out (by simp) (by decide) (fun f hf => by
                rw [List.mem_replicate] at hf
                rw [hf.2]
                unfold Ft.ok
                decide)).mono ?_
              rintro er v4 ⟨m, g, at_, how, vd, vg, vs, far, rfl, hd, hgv, hst, hb⟩
              obtain ⟨rfl, rfl, rfl⟩ := names_far far
              obtain ⟨ad, cd, rfl⟩ := own_slice hd
              obtain ⟨ag, cg, hvg⟩ := own_slice hgv
              obtain ⟨az, cs2, hvs⟩ := own_slice hst
              generalize (namesR false _).length = ng at hvg
              generalize (namesR true _).length = ns at hvs
              subst hvg hvs
              clear far hd hgv hst
              have SL := Lib.hid (SL.out.below hb)
              have FA := Lib.hid (FA.out.below hb)
              have PZ := Lib.hid ((hb.block _ (Array.getElem?_eq_some_iff.1 PZ.out).1).trans PZ.out)
              have BX := Lib.hid (BX.out.trans (hb.mono BX.out.size))
              clear hb
              refine hK _ _ ?_
              clear hK K
              try simp only [Act.put, List.setIfInBounds_toArray, List.set_cons_zero, List.set_cons_succ]
              refine wpAny_take (i := 3) (v := ?_) rfl (by kernel_rfl) (by kernel_rfl) (by kernel_rfl) (fun _ _ _ h => h) (Or.inl ⟨by kernel_rfl, ?_⟩) ?_
              rotate_left
              · intro w
                go_simp
                try with_reducible rfl
              simp only [Act.put, List.getElem_toArray, List.getElem_cons_zero, List.getElem_cons_succ, List.setIfInBounds_toArray, List.set_cons_zero, List.set_cons_succ]
              refine wpAny_take (i := 4) (v := ?_) rfl (by kernel_rfl) (by kernel_rfl) (by kernel_rfl) (fun _ _ _ h => h) (Or.inl ⟨by kernel_rfl, ?_⟩) ?_
              rotate_left
              · intro w
                go_simp
                try with_reducible rfl
              simp only [Act.put, List.getElem_toArray, List.getElem_cons_zero, List.getElem_cons_succ, List.setIfInBounds_toArray, List.set_cons_zero, List.set_cons_succ]
              refine wpAny_take (i := 5) (v := ?_) rfl (by kernel_rfl) (by kernel_rfl) (by kernel_rfl) (fun _ _ _ h => h) (Or.inl ⟨by kernel_rfl, ?_⟩) ?_
              rotate_left
              · intro w
                go_simp
                try with_reducible rfl
              simp only [Act.put, List.getElem_toArray, List.getElem_cons_zero, List.getElem_cons_succ, List.setIfInBounds_toArray, List.set_cons_zero, List.set_cons_succ]
              refine wpAny_ready (rs := [7]) (by kernel_rfl) (by simp) (Go.BigFrame.allReady_want rfl (by kernel_rfl) (fun K hK => ?_) AllReady.nil)
              refine wp_store_mid 56 (.tmp 11) (.tmp 77) (by rfl) pz 0 #[Value.bool true, .int .i64 (-1), .int .u8 0, .slice ad m cd, .slice ag ng cg, .slice az ns cs2] (by kernel_rfl) (by kernel_rfl) (fun j hj => ⟨by
                rw [cell_of_row _ _ _ _ _ _ PZ.out]
                exact Option.isSome_iff_exists.2 ⟨_, Array.getElem?_eq_getElem (by simp [zo6] at hj ⊢; omega)⟩, frozen_of_row _ _ _ _ _ PZ.out⟩) (by kernel_rfl) (by simp [zo6, Value.oneCell']) ?_
              have hh := heap_setCells_same #[Value.bool true, .int .i64 (-1), .int .u8 0, .slice ad m cd, .slice ag ng cg, .slice az ns cs2].toList v4 0 _ PZ.out
              have BX := Lib.hid (BX.out.trans (below_lay PB.out #[Value.bool true, .int .i64 (-1), .int .u8 0, .slice ad m cd, .slice ag ng cg, .slice az ns cs2].toList v4 0))
              obtain ⟨v5, hv⟩ : ∃ x, x = v4.setCells pz 0 #[Value.bool true, .int .i64 (-1), .int .u8 0, .slice ad m cd, .slice ag ng cg, .slice az ns cs2].toList := ⟨_, rfl⟩
              rw [← hv] at hh BX ⊢
              have PO := Lib.hid hh
              clear hv hh
              refine hK _ _ ?_
              clear hK K
              try simp only [Act.put, List.setIfInBounds_toArray, List.set_cons_zero, List.set_cons_succ]
              refine wpAny_take (i := 8) (v := ?_) rfl (by kernel_rfl) (by kernel_rfl) (by kernel_rfl) (fun _ _ _ h => h) (Or.inl ⟨by kernel_rfl, ?_⟩) ?_
              rotate_left
              · intro w
                go_simp
                try with_reducible rfl
              simp only [Act.put, List.getElem_toArray, List.getElem_cons_zero, List.getElem_cons_succ, List.setIfInBounds_toArray, List.set_cons_zero, List.set_cons_succ]
              refine wpAny_done (by kernel_rfl) ?_ _
              go_wp2_with fail
              go_meet
              exact ⟨pz, .slice ad m cd, .slice ag ng cg, .slice az ns cs2, rfl, rfl, BX, PO⟩
          · skip
            go_simp
            have hb := (Below.refl v0.heap.size v0).alloc (Nat.le_refl _) (.cells #[.bool false, .int .i64 0, .int .u8 0, .slice none 0 0, .slice none 0 0, .slice none 0 0] 56)
            have PZ := Lib.hid (heap_alloc_new v0 (.cells #[.bool false, .int .i64 0, .int .u8 0, .slice none 0 0, .slice none 0 0, .slice none 0 0] 56))
            obtain ⟨pz, hpz⟩ : ∃ p, p = v0.heap.size := ⟨_, rfl⟩
            have PB : Hid (w.heap.size ≤ pz) := Lib.hid (by rw [hpz]; exact BX.out.size)
            obtain ⟨v1, hv⟩ : ∃ x, x = v0.alloc (.cells #[.bool false, .int .i64 0, .int .u8 0, .slice none 0 0, .slice none 0 0, .slice none 0 0] 56) := ⟨_, rfl⟩
            rw [← hpz] at PZ ⊢
            rw [← hv] at PZ hb ⊢
            have BX := Lib.hid (BX.out.trans (hb.mono BX.out.size))
            clear hb hv hpz
            refine hK _ _ ?_
            clear hK K
            try simp only [Act.put, List.setIfInBounds_toArray, List.set_cons_zero, List.set_cons_succ]
            refine wpAny_ready (rs := [0, 1]) (by kernel_rfl) (by simp) (AllReady.cons rfl (fun K hK => ?_) (Go.BigFrame.allReady_want rfl (by kernel_rfl) (fun K hK => ?_) AllReady.nil))
            · skip
              go_simp
              refine (sample_any ⟨#[110, 111, 110, 101]⟩ v1).mono ?_
              rintro er v2 ⟨sl, rfl, hsl, hb⟩
              have SL := Lib.hid hsl
              have PZ := Lib.hid ((hb.block _ (Array.getElem?_eq_some_iff.1 PZ.out).1).trans PZ.out)
              have BX := Lib.hid (BX.out.trans (hb.mono BX.out.size))
              clear hb hsl
              refine hK _ _ ?_
              clear hK K
              try simp only [Act.put, List.setIfInBounds_toArray, List.set_cons_zero, List.set_cons_succ]
              refine wpAny_ready (rs := [1]) (by kernel_rfl) (by simp) (Go.BigFrame.allReady_want rfl (by kernel_rfl) (fun K hK => ?_) AllReady.nil)
              refine wp_make_fates 64 (by omega) rfl ?_
              have hb := (Below.refl v2.heap.size v2).alloc (Nat.le_refl _) (.cells (zeroF 64) 67)
              have FA := Lib.hid (made_fates 64 (heap_alloc_new v2 (.cells (zeroF 64) 67)))
              obtain ⟨p1, hp1⟩ : ∃ p, p = v2.heap.size := ⟨_, rfl⟩
              obtain ⟨v3, hv⟩ : ∃ x, x = v2.alloc (.cells (zeroF 64) 67) := ⟨_, rfl⟩
              rw [← hp1] at FA ⊢
              rw [← hv] at FA hb ⊢
              have SL := Lib.hid (SL.out.below hb)
              have PZ := Lib.hid ((hb.block _ (Array.getElem?_eq_some_iff.1 PZ.out).1).trans PZ.out)
              have BX := Lib.hid (BX.out.trans (hb.mono BX.out.size))
              clear hb hv hp1
              refine hK _ _ ?_
              clear hK K
              try simp only [Act.put, List.setIfInBounds_toArray, List.set_cons_zero, List.set_cons_succ]
              refine wpAny_ready (rs := [2]) (by kernel_rfl) (by simp) (AllReady.cons rfl (fun K hK => ?_) AllReady.nil)
              go_simp
              refine (probe_ok HSH.out ⟨#[120]⟩ ⟨#[110, 111, 110, 101]⟩ ⟨#[]⟩ 0 0 (-1) [⟨#[97]⟩] sl _ (List.replicate 64 ⟨0, 0, 0⟩) v3 (HW.out.trans (BX.out.mono HW.out.size)) SL.out (by unfold Cd.ok; decide) mayB_sample2 FA.out (by simp) (by decide) (fun f hf => by
                rw [List.mem_replicate] at hf
                rw [hf.2]
                unfold Ft.ok
                decide)).mono ?_
              rintro er v4 ⟨m, g, at_, how, vd, vg, vs, far, rfl, hd, hgv, hst, hb⟩
              obtain ⟨rfl, rfl, rfl⟩ := names_far far
              obtain ⟨ad, cd, rfl⟩ := own_slice hd
              obtain ⟨ag, cg, hvg⟩ := own_slice hgv
              obtain ⟨az, cs2, hvs⟩ := own_slice hst
              generalize (namesR false _).length = ng at hvg
              generalize (namesR true _).length = ns at hvs
              subst hvg hvs
              clear far hd hgv hst
              have SL := Lib.hid (SL.out.below hb)
              have FA := Lib.hid (FA.out.below hb)
              have PZ := Lib.hid ((hb.block _ (Array.getElem?_eq_some_iff.1 PZ.out).1).trans PZ.out)
              have BX := Lib.hid (BX.out.trans (hb.mono BX.out.size))
              clear hb
              refine hK _ _ ?_
              clear hK K
              try simp only [Act.put, List.setIfInBounds_toArray, List.set_cons_zero, List.set_cons_succ]
              refine wpAny_take (i := 3) (v := ?_) rfl (by kernel_rfl) (by kernel_rfl) (by kernel_rfl) (fun _ _ _ h => h) (Or.inl ⟨by kernel_rfl, ?_⟩) ?_
              rotate_left
              · intro w
                go_simp
                try with_reducible rfl
              simp only [Act.put, List.getElem_toArray, List.getElem_cons_zero, List.getElem_cons_succ, List.setIfInBounds_toArray, List.set_cons_zero, List.set_cons_succ]
              refine wpAny_take (i := 4) (v := ?_) rfl (by kernel_rfl) (by kernel_rfl) (by kernel_rfl) (fun _ _ _ h => h) (Or.inl ⟨by kernel_rfl, ?_⟩) ?_
              rotate_left
              · intro w
                go_simp
                try with_reducible rfl
              simp only [Act.put, List.getElem_toArray, List.getElem_cons_zero, List.getElem_cons_succ, List.setIfInBounds_toArray, List.set_cons_zero, List.set_cons_succ]
              refine wpAny_take (i := 5) (v := ?_) rfl (by kernel_rfl) (by kernel_rfl) (by kernel_rfl) (fun _ _ _ h => h) (Or.inl ⟨by kernel_rfl, ?_⟩) ?_
              rotate_left
              · intro w
                go_simp
                try with_reducible rfl
              simp only [Act.put, List.getElem_toArray, List.getElem_cons_zero, List.getElem_cons_succ, List.setIfInBounds_toArray, List.set_cons_zero, List.set_cons_succ]
              refine wpAny_ready (rs := [7]) (by kernel_rfl) (by simp) (Go.BigFrame.allReady_want rfl (by kernel_rfl) (fun K hK => ?_) AllReady.nil)
              refine wp_store_mid 56 (.tmp 11) (.tmp 77) (by rfl) pz 0 #[Value.bool true, .int .i64 (-1), .int .u8 0, .slice ad m cd, .slice ag ng cg, .slice az ns cs2] (by kernel_rfl) (by kernel_rfl) (fun j hj => ⟨by
                rw [cell_of_row _ _ _ _ _ _ PZ.out]
                exact Option.isSome_iff_exists.2 ⟨_, Array.getElem?_eq_getElem (by simp [zo6] at hj ⊢; omega)⟩, frozen_of_row _ _ _ _ _ PZ.out⟩) (by kernel_rfl) (by simp [zo6, Value.oneCell']) ?_
              have hh := heap_setCells_same #[Value.bool true, .int .i64 (-1), .int .u8 0, .slice ad m cd, .slice ag ng cg, .slice az ns cs2].toList v4 0 _ PZ.out
              have BX := Lib.hid (BX.out.trans (below_lay PB.out #[Value.bool true, .int .i64 (-1), .int .u8 0, .slice ad m cd, .slice ag ng cg, .slice az ns cs2].toList v4 0))
              obtain ⟨v5, hv⟩ : ∃ x, x = v4.setCells pz 0 #[Value.bool true, .int .i64 (-1), .int .u8 0, .slice ad m cd, .slice ag ng cg, .slice az ns cs2].toList := ⟨_, rfl⟩
              rw [← hv] at hh BX ⊢
              have PO := Lib.hid hh
              clear hv hh
              refine hK _ _ ?_
              clear hK K
              try simp only [Act.put, List.setIfInBounds_toArray, List.set_cons_zero, List.set_cons_succ]
              refine wpAny_take (i := 8) (v := ?_) rfl (by kernel_rfl) (by kernel_rfl) (by kernel_rfl) (fun _ _ _ h => h) (Or.inl ⟨by kernel_rfl, ?_⟩) ?_
              rotate_left
              · intro w
                go_simp
                try with_reducible rfl
              simp only [Act.put, List.getElem_toArray, List.getElem_cons_zero, List.getElem_cons_succ, List.setIfInBounds_toArray, List.set_cons_zero, List.set_cons_succ]
              refine wpAny_done (by kernel_rfl) ?_ _
              go_wp2_with fail
              go_meet
              exact ⟨pz, .slice ad m cd, .slice ag ng cg, .slice az ns cs2, rfl, rfl, BX, PO⟩
            · skip
              refine wp_make_fates 64 (by omega) rfl ?_
              have hb := (Below.refl v1.heap.size v1).alloc (Nat.le_refl _) (.cells (zeroF 64) 67)
              have FA := Lib.hid (made_fates 64 (heap_alloc_new v1 (.cells (zeroF 64) 67)))
              obtain ⟨p1, hp1⟩ : ∃ p, p = v1.heap.size := ⟨_, rfl⟩
              obtain ⟨v2, hv⟩ : ∃ x, x = v1.alloc (.cells (zeroF 64) 67) := ⟨_, rfl⟩
              rw [← hp1] at FA ⊢
              rw [← hv] at FA hb ⊢
              have PZ := Lib.hid ((hb.block _ (Array.getElem?_eq_some_iff.1 PZ.out).1).trans PZ.out)
              have BX := Lib.hid (BX.out.trans (hb.mono BX.out.size))
              clear hb hv hp1
              refine hK _ _ ?_
              clear hK K
              try simp only [Act.put, List.setIfInBounds_toArray, List.set_cons_zero, List.set_cons_succ]
              refine wpAny_ready (rs := [0]) (by kernel_rfl) (by simp) (AllReady.cons rfl (fun K hK => ?_) AllReady.nil)
              go_simp
              refine (sample_any ⟨#[110, 111, 110, 101]⟩ v2).mono ?_
              rintro er v3 ⟨sl, rfl, hsl, hb⟩
              have SL := Lib.hid hsl
              have FA := Lib.hid (FA.out.below hb)
              have PZ := Lib.hid ((hb.block _ (Array.getElem?_eq_some_iff.1 PZ.out).1).trans PZ.out)
              have BX := Lib.hid (BX.out.trans (hb.mono BX.out.size))
              clear hb hsl
              refine hK _ _ ?_
              clear hK K
              try simp only [Act.put, List.setIfInBounds_toArray, List.set_cons_zero, List.set_cons_succ]
              refine wpAny_ready (rs := [2]) (by kernel_rfl) (by simp) (AllReady.cons rfl (fun K hK => ?_) AllReady.nil)
              go_simp
              refine (probe_ok HSH.out ⟨#[120]⟩ ⟨#[110, 111, 110, 101]⟩ ⟨#[]⟩ 0 0 (-1) [⟨#[97]⟩] sl _ (List.replicate 64 ⟨0, 0, 0⟩) v3 (HW.out.trans (BX.out.mono HW.out.size)) SL.out (by unfold Cd.ok; decide) mayB_sample2 FA.out (by simp) (by decide) (fun f hf => by
                rw [List.mem_replicate] at hf
                rw [hf.2]
                unfold Ft.ok
                decide)).mono ?_
              rintro er v4 ⟨m, g, at_, how, vd, vg, vs, far, rfl, hd, hgv, hst, hb⟩
              obtain ⟨rfl, rfl, rfl⟩ := names_far far
              obtain ⟨ad, cd, rfl⟩ := own_slice hd
              obtain ⟨ag, cg, hvg⟩ := own_slice hgv
              obtain ⟨az, cs2, hvs⟩ := own_slice hst
              generalize (namesR false _).length = ng at hvg
              generalize (namesR true _).length = ns at hvs
              subst hvg hvs
              clear far hd hgv hst
              have SL := Lib.hid (SL.out.below hb)
              have FA := Lib.hid (FA.out.below hb)
              have PZ := Lib.hid ((hb.block _ (Array.getElem?_eq_some_iff.1 PZ.out).1).trans PZ.out)
              have BX := Lib.hid (BX.out.trans (hb.mono BX.out.size))
              clear hb
              refine hK _ _ ?_
              clear hK K
              try simp only [Act.put, List.setIfInBounds_toArray, List.set_cons_zero, List.set_cons_succ]
              refine wpAny_take (i := 3) (v := ?_) rfl (by kernel_rfl) (by kernel_rfl) (by kernel_rfl) (fun _ _ _ h => h) (Or.inl ⟨by kernel_rfl, ?_⟩) ?_
              rotate_left
              · intro w
                go_simp
                try with_reducible rfl
              simp only [Act.put, List.getElem_toArray, List.getElem_cons_zero, List.getElem_cons_succ, List.setIfInBounds_toArray, List.set_cons_zero, List.set_cons_succ]
              refine wpAny_take (i := 4) (v := ?_) rfl (by kernel_rfl) (by kernel_rfl) (by kernel_rfl) (fun _ _ _ h => h) (Or.inl ⟨by kernel_rfl, ?_⟩) ?_
              rotate_left
              · intro w
                go_simp
                try with_reducible rfl
              simp only [Act.put, List.getElem_toArray, List.getElem_cons_zero, List.getElem_cons_succ, List.setIfInBounds_toArray, List.set_cons_zero, List.set_cons_succ]
              refine wpAny_take (i := 5) (v := ?_) rfl (by kernel_rfl) (by kernel_rfl) (by kernel_rfl) (fun _ _ _ h => h) (Or.inl ⟨by kernel_rfl, ?_⟩) ?_
              rotate_left
              · intro w
                go_simp
                try with_reducible rfl
              simp only [Act.put, List.getElem_toArray, List.getElem_cons_zero, List.getElem_cons_succ, List.setIfInBounds_toArray, List.set_cons_zero, List.set_cons_succ]
              refine wpAny_ready (rs := [7]) (by kernel_rfl) (by simp) (Go.BigFrame.allReady_want rfl (by kernel_rfl) (fun K hK => ?_) AllReady.nil)
              refine wp_store_mid 56 (.tmp 11) (.tmp 77) (by rfl) pz 0 #[Value.bool true, .int .i64 (-1), .int .u8 0, .slice ad m cd, .slice ag ng cg, .slice az ns cs2] (by kernel_rfl) (by kernel_rfl) (fun j hj => ⟨by
                rw [cell_of_row _ _ _ _ _ _ PZ.out]
                exact Option.isSome_iff_exists.2 ⟨_, Array.getElem?_eq_getElem (by simp [zo6] at hj ⊢; omega)⟩, frozen_of_row _ _ _ _ _ PZ.out⟩) (by kernel_rfl) (by simp [zo6, Value.oneCell']) ?_
              have hh := heap_setCells_same #[Value.bool true, .int .i64 (-1), .int .u8 0, .slice ad m cd, .slice ag ng cg, .slice az ns cs2].toList v4 0 _ PZ.out
              have BX := Lib.hid (BX.out.trans (below_lay PB.out #[Value.bool true, .int .i64 (-1), .int .u8 0, .slice ad m cd, .slice ag ng cg, .slice az ns cs2].toList v4 0))
              obtain ⟨v5, hv⟩ : ∃ x, x = v4.setCells pz 0 #[Value.bool true, .int .i64 (-1), .int .u8 0, .slice ad m cd, .slice ag ng cg, .slice az ns cs2].toList := ⟨_, rfl⟩
              rw [← hv] at hh BX ⊢
              have PO := Lib.hid hh
              clear hv hh
              refine hK _ _ ?_
              clear hK K
              try simp only [Act.put, List.setIfInBounds_toArray, List.set_cons_zero, List.set_cons_succ]
              refine wpAny_take (i := 8) (v := ?_) rfl (by kernel_rfl) (by kernel_rfl) (by kernel_rfl) (fun _ _ _ h => h) (Or.inl ⟨by kernel_rfl, ?_⟩) ?_
              rotate_left
              · intro w
                go_simp
                try with_reducible rfl
              simp only [Act.put, List.getElem_toArray, List.getElem_cons_zero, List.getElem_cons_succ, List.setIfInBounds_toArray, List.set_cons_zero, List.set_cons_succ]
              refine wpAny_done (by kernel_rfl) ?_ _
              go_wp2_with fail
              go_meet
              exact ⟨pz, .slice ad m cd, .slice ag ng cg, .slice az ns cs2, rfl, rfl, BX, PO⟩
        case rest =>
        obtain ⟨p11, vd, vg, vs, rfl, rfl, B6, P11⟩ := hcut
        clear B5
        have c0 := (cell_of_row wc p11 0 _ _ _ P11.out).trans (show (#[Value.bool true, .int .i64 (-1), .int .u8 0, vd, vg, vs] : Array Value)[0]? = some (.bool true) from rfl)
        have c1 := (cell_of_row wc p11 1 _ _ _ P11.out).trans (show (#[Value.bool true, .int .i64 (-1), .int .u8 0, vd, vg, vs] : Array Value)[1]? = some (.int .i64 (-1)) from rfl)
        have WA := Lib.hid (works_any HSH.out wc (HW.out.trans (B6.out.mono HW.out.size)))
        go_wp2_with fail
        refine WA.out.mono ?_
        rintro er w9 ⟨rfl, hb⟩
        have B9 := Lib.hid (B6.out.trans (hb.mono B6.out.size))
        clear hb WA
        go_wp2_with fail
        go_ret
        exact ⟨rfl, B9.out⟩
end Go.Proofs.Ytnkababhgloclaa
