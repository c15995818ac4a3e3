/- ProbeBags: a step of the play, kind by kind. (Printed by tools/genplayg.py.) -/
import Derived.Test.YtnkababhgloclaaPlayG
namespace Go.Proofs.Ytnkababhgloclaa
open Go.RowKit Go.ChangeShapes
set_option maxHeartbeats 8000000 in
set_option maxRecDepth 100000 in
theorem step_undoes {w : World} {B q b m : Nat} {L : List Th} {last : Int} {closed : Bool} (h : PS w B q b m L last closed) (hI : ∃ N0 c f, PlayI w q b m N0 c f) (hl : last ≤ 100000) (s : St) (hk : s.kind = 2) :
    Calls Try.prog 10 #[.pointer (some ⟨q, 0, none⟩), .agg s.cells.toArray] w fun e w' => e = .returned (.bool true) ∧ Fin w B q b m last w' := by
  obtain ⟨kind, name, code, pan, word, sid⟩ := s
  simp only at hk
  subst hk
  change Calls Try.prog 10 #[.pointer (some ⟨q, 0, none⟩), .agg #[.int .i64 (2), .string name, .int .i64 code, .int .i64 pan, .string word, .int .i64 sid]] w _
  obtain ⟨w1, hw1⟩ : ∃ x, x = ((w.alloc (.cells #[.int .i64 2, .string name, .int .i64 code, .int .i64 pan, .string word, .int .i64 sid] 36)).setCell ⟨q, 2, none⟩ (.slice none 0 0)).setCell ⟨q, 3, none⟩ (.slice none 0 0) := ⟨_, rfl⟩
  obtain ⟨ps1, pn1, s1, b1⟩ := h.start hI _ hw1
  obtain ⟨N0, c0, f0, hI⟩ := hI
  obtain ⟨wa, hwa⟩ : ∃ x, x = w.alloc (.cells #[.int .i64 2, .string name, .int .i64 code, .int .i64 pan, .string word, .int .i64 sid] 36) := ⟨_, rfl⟩
  have ha : PlayI wa q b m N0 c0 f0 := by
    rw [hwa]
    exact hI.below ((Below.refl _ w).alloc (Nat.le_refl _) _)
  have f2 := ha.frozen 2
  have f3 := ha.frozen 3
  obtain ⟨ac, cc, af, cf, e0, e1, e2, e3, e4, _, _⟩ := ha.cells
  rw [← hwa] at hw1
  have HWA := Lib.hid hwa
  have HW1 := Lib.hid hw1
  have PS1 := Lib.hid ps1
  have PN1 := Lib.hid pn1
  have BB1 := Lib.hid b1
  have HBW : Hid (B ≤ w1.heap.size) := Lib.hid ps1.hBw
  have HL := Lib.hid hl
  obtain ⟨p3, hp3⟩ : ∃ p, p = w.heap.size := ⟨_, rfl⟩
  rw [← hp3] at s1
  have HP3 := Lib.hid hp3
  have S1 := Lib.hid s1
  have P3N : Hid (p3 < w1.heap.size) := Lib.hid (Array.getElem?_eq_some_iff.1 s1).1
  obtain ⟨r0, r1, y0, y1, y2, y3, y4, y5⟩ := ss_cells (pn1.to 0) s1
  clear h hI hl hw1 ps1 pn1 b1 hp3 s1 ha hwa
  go_enter Try.func10, Try.ntmps10
  go_upto_region 1 with fail
  rw [← HWA.out, ← HP3.out]
  go_upto_region 3 with fail
  rw [← HW1.out]
  clear f2 f3 e0 e1 e2 e3 e4 HW1 HP3 HWA
  obtain ⟨am, cm, mc0, mc1, mc2, mo⟩ := PS1.out.rbag.cells
  have CT0 := things_any (rts_own mo) (by rw [List.length_map]; exact PS1.out.len)
  rw [cnt_countR] at CT0
  obtain ⟨nl, hnl⟩ : ∃ n, (L.map (rtOf w1)).length = n := ⟨_, rfl⟩
  rw [hnl] at CT0 mc0
  clear hnl
  obtain ⟨ct, hct⟩ : ∃ n, cntT L = n := ⟨_, rfl⟩
  rw [hct] at CT0
  have HCL : Hid (ct ≤ 256) := Lib.hid (by
    rw [← hct]
    exact Nat.le_trans (heldN_len L) PS1.out.len)
  have CT := Lib.hid CT0
  have HCT := Lib.hid hct
  clear mc1 mc2 mo CT0 hct
  go_upto_region 10 with (refine CT.out.mono ?_; rintro e xx ⟨rfl, hxx⟩; have hxx := hxx.symm; subst hxx)
  clear r0 r1 y0 y1 y2 y3 y4 y5 mc0 CT
  go_cut [10, 11] (fun t10 t11 wx => ∃ p10 r vy cs fs x1, t10 = .pointer (some ⟨p10, 0, none⟩) ∧ t11 = .int .i64 vy ∧ Hid (UMid w1 B q b m last ct #[.int .i64 2, .string name, .int .i64 code, .int .i64 pan, .string word, .int .i64 sid] p3 sid p10 r vy cs fs x1 wx))
  case first => as_aux_lemma => --ok
    refine wp_region_held_drew (S := fun W' => W'.cell? ⟨q, 0, none⟩ = some (.pointer (some ⟨b, 0, none⟩)) ∧ W'.cell? ⟨q, 1, none⟩ = some (.pointer (some ⟨m, 0, none⟩)) ∧ W'.cell? ⟨p3, 0, none⟩ = some (.int .i64 2) ∧ W'.cell? ⟨p3, 1, none⟩ = some (.string name) ∧ W'.cell? ⟨p3, 2, none⟩ = some (.int .i64 code) ∧ W'.cell? ⟨p3, 3, none⟩ = some (.int .i64 pan) ∧ W'.cell? ⟨p3, 4, none⟩ = some (.string word) ∧ W'.cell? ⟨p3, 5, none⟩ = some (.int .i64 sid)) (by kernel_rfl) (ss_cells ((PN1.out.to 0).below (Below.refl w1.heap.size w1).drew) (((Below.refl w1.heap.size w1).drew.block _ P3N.out).trans S1.out)) (fun hS => ?_)
    have bd := (Below.refl w1.heap.size w1).drew
    have PSD := Lib.hid (PS1.out.below bd)
    have PND := Lib.hid (PN1.out.below bd)
    have SD3 := Lib.hid ((bd.block _ P3N.out).trans S1.out)
    have BD : Hid (Below w1.heap.size w1 w1.drew) := Lib.hid bd
    generalize w1.drew = wd at *
    clear bd
    have BA : Hid (Below wd.heap.size wd (wd.alloc (.cells #[.int .i64 0, .string ⟨#[]⟩, .int .i64 0, .bool false, .string ⟨#[]⟩] 83))) := Lib.hid ((Below.refl _ wd).alloc (Nat.le_refl _) _)
    have PNB := Lib.hid (PND.out.below BA.out)
    have SB3 := Lib.hid ((BA.out.block _ (Array.getElem?_eq_some_iff.1 SD3.out).1).trans SD3.out)
    have ZB := Lib.hid (heap_alloc_new wd (.cells #[.int .i64 0, .string ⟨#[]⟩, .int .i64 0, .bool false, .string ⟨#[]⟩] 83))
    have JD := Lib.hid (jundo PSD.out (PND.out.to _) sid)
    have JB := Lib.hid (jundo (PSD.out.below BA.out) (PNB.out.to _) sid)
    refine wpAnyH_take (i := 0) (v := ?_) rfl (by kernel_rfl) (by kernel_rfl) (by kernel_rfl) (fun _ _ _ h => h) (Or.inl ⟨by kernel_rfl, ?_⟩) hS ?_
    rotate_left
    · intro w _
      go_simp
      try with_reducible rfl
    simp only [Act.put, List.getElem_toArray, List.getElem_cons_zero, List.getElem_cons_succ, List.setIfInBounds_toArray, List.set_cons_zero, List.set_cons_succ]
    refine wpAnyH_take (i := 1) (v := ?_) rfl (by kernel_rfl) (by kernel_rfl) (by kernel_rfl) (fun _ _ _ h => h) (Or.inl ⟨by kernel_rfl, ?_⟩) hS ?_
    rotate_left
    · intro w _
      go_simp
      try with_reducible rfl
    simp only [Act.put, List.getElem_toArray, List.getElem_cons_zero, List.getElem_cons_succ, List.setIfInBounds_toArray, List.set_cons_zero, List.set_cons_succ]
    refine wpAnyH_take (i := 2) (v := ?_) rfl (by kernel_rfl) (by kernel_rfl) (by kernel_rfl) (fun _ _ _ h => h) (Or.inl ⟨by kernel_rfl, ?_⟩) hS ?_
    rotate_left
    · intro w _
      go_simp
      try with_reducible rfl
    simp only [Act.put, List.getElem_toArray, List.getElem_cons_zero, List.getElem_cons_succ, List.setIfInBounds_toArray, List.set_cons_zero, List.set_cons_succ]
    refine wpAnyH_take (i := 3) (v := ?_) rfl (by kernel_rfl) (by kernel_rfl) (by kernel_rfl) (fun _ _ _ h => h) (Or.inl ⟨by kernel_rfl, ?_⟩) hS ?_
    rotate_left
    · intro w hSw
      try dsimp only at hSw
      go_split_ands
      go_simp
      try with_reducible rfl
    simp only [Act.put, List.getElem_toArray, List.getElem_cons_zero, List.getElem_cons_succ, List.setIfInBounds_toArray, List.set_cons_zero, List.set_cons_succ]
    refine wpAnyH_take (i := 4) (v := ?_) rfl (by kernel_rfl) (by kernel_rfl) (by kernel_rfl) (fun _ _ _ h => h) (Or.inl ⟨by kernel_rfl, ?_⟩) hS ?_
    rotate_left
    · intro w _
      go_simp
      try with_reducible rfl
    simp only [Act.put, List.getElem_toArray, List.getElem_cons_zero, List.getElem_cons_succ, List.setIfInBounds_toArray, List.set_cons_zero, List.set_cons_succ]
    refine wpAnyH_take (i := 5) (v := ?_) rfl (by kernel_rfl) (by kernel_rfl) (by kernel_rfl) (fun _ _ _ h => h) (Or.inl ⟨by kernel_rfl, ?_⟩) hS ?_
    rotate_left
    · intro w hSw
      try dsimp only at hSw
      go_split_ands
      go_simp
      try with_reducible rfl
    simp only [Act.put, List.getElem_toArray, List.getElem_cons_zero, List.getElem_cons_succ, List.setIfInBounds_toArray, List.set_cons_zero, List.set_cons_succ]
    refine wpAnyH_ready (rs := [6, 10]) (by kernel_rfl) (by simp) (AllReadyH.cons rfl (fun K hK => ?_) (AllReadyH.cons rfl (fun K hK => ?_) AllReadyH.nil))
    · skip
      go_simp
      go_at_call 33
      refine JD.out.mono ?_
      rintro e x1 ⟨r, vy, cs, fs, rfl, hT, hI1, hcase, hRB, hK1⟩
      have T1 : Hid (∃ N, Rel B (TY N) w1 x1) := Lib.hid ⟨_, (Rel.below BD.out).trans hT⟩
      have S2 := Lib.hid (step_TY SD3.out hT)
      have I1 := Lib.hid hI1
      rw [HCT.out] at hcase
      have CA := Lib.hid hcase
      have KK := Lib.hid hK1
      have RB := Lib.hid hRB
      have X1B : Hid (wd.heap.size ≤ x1.heap.size) := Lib.hid (hT.size)
      clear hT hI1 hcase hRB hK1
      refine hK.out _ _ (ss_cells I1.out S2.out) (fun hS2 => ?_)
      clear hK K hS
      have hS := hS2
      clear hS2
      try simp only [Act.put, List.getElem_toArray, List.getElem_cons_zero, List.getElem_cons_succ, List.setIfInBounds_toArray, List.set_cons_zero, List.set_cons_succ]
      refine wpAnyH_take (i := 7) (v := ?_) rfl (by kernel_rfl) (by kernel_rfl) (by kernel_rfl) (fun _ _ _ h => h) (Or.inl ⟨by kernel_rfl, ?_⟩) hS ?_
      rotate_left
      · intro w _
        go_simp
        try with_reducible rfl
      simp only [Act.put, List.getElem_toArray, List.getElem_cons_zero, List.getElem_cons_succ, List.setIfInBounds_toArray, List.set_cons_zero, List.set_cons_succ]
      refine wpAnyH_take (i := 8) (v := ?_) rfl (by kernel_rfl) (by kernel_rfl) (by kernel_rfl) (fun _ _ _ h => h) (Or.inl ⟨by kernel_rfl, ?_⟩) hS ?_
      rotate_left
      · intro w _
        go_simp
        try with_reducible rfl
      simp only [Act.put, List.getElem_toArray, List.getElem_cons_zero, List.getElem_cons_succ, List.setIfInBounds_toArray, List.set_cons_zero, List.set_cons_succ]
      refine wpAnyH_take (i := 9) (v := ?_) rfl (by kernel_rfl) (by kernel_rfl) (by kernel_rfl) (fun _ _ _ h => h) (Or.inl ⟨by kernel_rfl, ?_⟩) hS ?_
      rotate_left
      · intro w _
        go_simp
        try with_reducible rfl
      simp only [Act.put, List.getElem_toArray, List.getElem_cons_zero, List.getElem_cons_succ, List.setIfInBounds_toArray, List.set_cons_zero, List.set_cons_succ]
      refine wpAnyH_ready (rs := [10]) (by kernel_rfl) (by simp) (AllReadyH.cons rfl (fun K hK => ?_) AllReadyH.nil)
      go_simp
      have ZP := Lib.hid (heap_alloc_new x1 (.cells #[.int .i64 0, .string ⟨#[]⟩, .int .i64 0, .bool false, .string ⟨#[]⟩] 83))
      have BA1 : Hid (Below x1.heap.size x1 (x1.alloc (.cells #[.int .i64 0, .string ⟨#[]⟩, .int .i64 0, .bool false, .string ⟨#[]⟩] 83))) := Lib.hid ((Below.refl _ x1).alloc (Nat.le_refl _) _)
      have I1a := Lib.hid (I1.out.below BA1.out)
      have S2a := Lib.hid ((BA1.out.block _ (Array.getElem?_eq_some_iff.1 S2.out).1).trans S2.out)
      refine hK.out _ _ (ss_cells I1a.out S2a.out) (fun hS2 => ?_)
      clear hK K hS
      have hS := hS2
      clear hS2
      try simp only [Act.put, List.getElem_toArray, List.getElem_cons_zero, List.getElem_cons_succ, List.setIfInBounds_toArray, List.set_cons_zero, List.set_cons_succ]
      refine wpAnyH_ready (rs := [11]) (by kernel_rfl) (by simp) (AllReadyH.cons rfl (fun K hK => ?_) AllReadyH.nil)
      refine stepH_store (by rfl) 83 (.tmp 10) (.tmp 96) (by rfl) (x1.heap.size) 0 (rcells r.id r.name r.bh) (by rfl) (by rfl) (there5 ZP.out rfl) (by kernel_rfl) (rcells_one _ _ _) ?_
      have UM : Hid (UMid w1 B q b m last ct #[.int .i64 2, .string name, .int .i64 code, .int .i64 pan, .string word, .int .i64 sid] p3 sid (x1.heap.size) r vy cs fs x1 ((x1.alloc (.cells #[.int .i64 0, .string ⟨#[]⟩, .int .i64 0, .bool false, .string ⟨#[]⟩] 83)).setCells (x1.heap.size) 0 (rcells r.id r.name r.bh))) := Lib.hid ⟨T1.out, (Rel.alloc x1 _).trans (rel_lay (Nat.le_trans (Nat.le_trans HBW.out BD.out.size) X1B.out) (fun C => ⟨C, _, rfl⟩) _ _ _ _ ZP.out), ⟨_, I1.out⟩, S2.out, layRs ZP.out rfl _ _ _, CA.out, RB.out, KK.out⟩
      refine hK.out _ _ (UM.out.keep) (fun hS2 => ?_)
      clear hK K hS
      have hS := hS2
      clear hS2
      try simp only [Act.put, List.getElem_toArray, List.getElem_cons_zero, List.getElem_cons_succ, List.setIfInBounds_toArray, List.set_cons_zero, List.set_cons_succ]
      refine wpAnyH_take (i := 12) (v := ?_) rfl (by kernel_rfl) (by kernel_rfl) (by kernel_rfl) (fun _ _ _ h => h) (Or.inl ⟨by kernel_rfl, ?_⟩) hS ?_
      rotate_left
      · intro w _
        go_simp
        try with_reducible rfl
      simp only [Act.put, List.getElem_toArray, List.getElem_cons_zero, List.getElem_cons_succ, List.setIfInBounds_toArray, List.set_cons_zero, List.set_cons_succ]
      refine wpAnyH_done (by kernel_rfl) ?_ _
      go_wp2_with fail
      go_meet
      exact ⟨_, _, _, _, _, _, rfl, rfl, UM⟩
    · skip
      go_simp

      refine hK.out _ _ (ss_cells (PNB.out.to 0) SB3.out) (fun hS2 => ?_)
      clear hK K hS
      have hS := hS2
      clear hS2
      try simp only [Act.put, List.getElem_toArray, List.getElem_cons_zero, List.getElem_cons_succ, List.setIfInBounds_toArray, List.set_cons_zero, List.set_cons_succ]
      refine wpAnyH_ready (rs := [6]) (by kernel_rfl) (by simp) (AllReadyH.cons rfl (fun K hK => ?_) AllReadyH.nil)
      go_simp
      go_at_call 33
      refine JB.out.mono ?_
      rintro e x1 ⟨r, vy, cs, fs, rfl, hT, hI1, hcase, hRB, hK1⟩
      have T1 : Hid (∃ N, Rel B (TY N) w1 x1) := Lib.hid ⟨_, (Rel.below (BD.out.trans (BA.out.mono BD.out.size))).trans hT⟩
      have S2 := Lib.hid (step_TY SB3.out hT)
      have I1 := Lib.hid hI1
      rw [HCT.out] at hcase
      have CA := Lib.hid hcase
      have KK := Lib.hid hK1
      have RB := Lib.hid hRB
      have X1B : Hid (wd.heap.size ≤ x1.heap.size) := Lib.hid (Nat.le_trans BA.out.size hT.size)
      have ZP := Lib.hid (hT.block ZB.out (fun _ => TY_not (by decide) (.inl (by rw [sz_alloc]; exact Nat.lt_succ_self _))))
      clear hT hI1 hcase hRB hK1
      refine hK.out _ _ (ss_cells I1.out S2.out) (fun hS2 => ?_)
      clear hK K hS
      have hS := hS2
      clear hS2
      try simp only [Act.put, List.getElem_toArray, List.getElem_cons_zero, List.getElem_cons_succ, List.setIfInBounds_toArray, List.set_cons_zero, List.set_cons_succ]
      refine wpAnyH_take (i := 7) (v := ?_) rfl (by kernel_rfl) (by kernel_rfl) (by kernel_rfl) (fun _ _ _ h => h) (Or.inl ⟨by kernel_rfl, ?_⟩) hS ?_
      rotate_left
      · intro w _
        go_simp
        try with_reducible rfl
      simp only [Act.put, List.getElem_toArray, List.getElem_cons_zero, List.getElem_cons_succ, List.setIfInBounds_toArray, List.set_cons_zero, List.set_cons_succ]
      refine wpAnyH_take (i := 8) (v := ?_) rfl (by kernel_rfl) (by kernel_rfl) (by kernel_rfl) (fun _ _ _ h => h) (Or.inl ⟨by kernel_rfl, ?_⟩) hS ?_
      rotate_left
      · intro w _
        go_simp
        try with_reducible rfl
      simp only [Act.put, List.getElem_toArray, List.getElem_cons_zero, List.getElem_cons_succ, List.setIfInBounds_toArray, List.set_cons_zero, List.set_cons_succ]
      refine wpAnyH_take (i := 9) (v := ?_) rfl (by kernel_rfl) (by kernel_rfl) (by kernel_rfl) (fun _ _ _ h => h) (Or.inl ⟨by kernel_rfl, ?_⟩) hS ?_
      rotate_left
      · intro w _
        go_simp
        try with_reducible rfl
      simp only [Act.put, List.getElem_toArray, List.getElem_cons_zero, List.getElem_cons_succ, List.setIfInBounds_toArray, List.set_cons_zero, List.set_cons_succ]
      refine wpAnyH_ready (rs := [11]) (by kernel_rfl) (by simp) (AllReadyH.cons rfl (fun K hK => ?_) AllReadyH.nil)
      refine stepH_store (by rfl) 83 (.tmp 10) (.tmp 96) (by rfl) (wd.heap.size) 0 (rcells r.id r.name r.bh) (by rfl) (by rfl) (there5 ZP.out rfl) (by kernel_rfl) (rcells_one _ _ _) ?_
      have UM : Hid (UMid w1 B q b m last ct #[.int .i64 2, .string name, .int .i64 code, .int .i64 pan, .string word, .int .i64 sid] p3 sid (wd.heap.size) r vy cs fs x1 (x1.setCells (wd.heap.size) 0 (rcells r.id r.name r.bh))) := Lib.hid ⟨T1.out, rel_lay (Nat.le_trans HBW.out BD.out.size) (fun C => ⟨C, _, rfl⟩) _ _ _ _ ZP.out, ⟨_, I1.out⟩, S2.out, layRs ZP.out rfl _ _ _, CA.out, RB.out, KK.out⟩
      refine hK.out _ _ (UM.out.keep) (fun hS2 => ?_)
      clear hK K hS
      have hS := hS2
      clear hS2
      try simp only [Act.put, List.getElem_toArray, List.getElem_cons_zero, List.getElem_cons_succ, List.setIfInBounds_toArray, List.set_cons_zero, List.set_cons_succ]
      refine wpAnyH_take (i := 12) (v := ?_) rfl (by kernel_rfl) (by kernel_rfl) (by kernel_rfl) (fun _ _ _ h => h) (Or.inl ⟨by kernel_rfl, ?_⟩) hS ?_
      rotate_left
      · intro w _
        go_simp
        try with_reducible rfl
      simp only [Act.put, List.getElem_toArray, List.getElem_cons_zero, List.getElem_cons_succ, List.setIfInBounds_toArray, List.set_cons_zero, List.set_cons_succ]
      refine wpAnyH_done (by kernel_rfl) ?_ _
      go_wp2_with fail
      go_meet
      exact ⟨_, _, _, _, _, _, rfl, rfl, UM⟩
  case rest =>
    obtain ⟨p10, r, vy, cs, fs, x1, rfl, rfl, hu⟩ := hcut
    have UM := Lib.hid hu.out
    obtain ⟨w5, hw5⟩ : ∃ x, x = wc := ⟨_, rfl⟩
    rw [← hw5] at UM ⊢
    clear hu hw5
    go_upto_region 11 with fail
    obtain ⟨⟨N, hT⟩, hO, ⟨N0, hI⟩, hS3, hR, hC, ⟨LR, lr, cr, hRB⟩, hK⟩ := UM.out
    have UT := Lib.hid hT
    have CA := Lib.hid hC
    have UK := Lib.hid hK
    have I5 := Lib.hid (play_OR hI hO)
    have S5 := Lib.hid (step_OR hS3 hO)
    have R5 := Lib.hid hR
    have RB5 := Lib.hid (rbag_OR hRB hO)
    have UO5 := Lib.hid hO
    have X5 : Hid (B ≤ w5.heap.size) := Lib.hid (Nat.le_trans HBW.out (Nat.le_trans hT.size hO.size))
    clear hT hO hI hS3 hR hC hRB hK UM
    go_cut [12, 13] (fun t12 t13 wx => ∃ p12 ti tm tn tc tp tw, t12 = .pointer (some ⟨p12, 0, none⟩) ∧ t13 = .int .i64 vy ∧ Hid (Fin w B q b m last wx ∧ (∃ N0, PlayI wx q b m N0 cs fs) ∧ wx.heap[p3]? = some (.cells #[.int .i64 2, .string name, .int .i64 code, .int .i64 pan, .string word, .int .i64 sid] 36 (0, 0)) ∧ wx.heap[p10]? = some (.cells (rcells r.id r.name r.bh).toArray 83 (0, 0)) ∧ wx.heap[p12]? = some (.cells #[.int .i64 ti, .bool tm, .string tn, .int .i64 tc, .bool tp, .string tw] 92 (0, 0)) ∧ (vy = 0 → (⟨ti, tm, tn, tc, tp, tw⟩ : RT) = toR r) ∧ B ≤ wx.heap.size))
    case first => as_aux_lemma => --ok
      refine wp_region_held_drew (S := fun W' => W'.cell? ⟨q, 0, none⟩ = some (.pointer (some ⟨b, 0, none⟩)) ∧ W'.cell? ⟨q, 1, none⟩ = some (.pointer (some ⟨m, 0, none⟩)) ∧ W'.cell? ⟨p3, 0, none⟩ = some (.int .i64 2) ∧ W'.cell? ⟨p3, 1, none⟩ = some (.string name) ∧ W'.cell? ⟨p3, 2, none⟩ = some (.int .i64 code) ∧ W'.cell? ⟨p3, 3, none⟩ = some (.int .i64 pan) ∧ W'.cell? ⟨p3, 4, none⟩ = some (.string word) ∧ W'.cell? ⟨p3, 5, none⟩ = some (.int .i64 sid)) (by kernel_rfl) (ss_cells (I5.out.below (Below.refl w5.heap.size w5).drew) (((Below.refl w5.heap.size w5).drew.block _ (Array.getElem?_eq_some_iff.1 S5.out).1).trans S5.out)) (fun hS => ?_)
      have bd := (Below.refl w5.heap.size w5).drew
      have S2d := Lib.hid ((bd.block _ (Array.getElem?_eq_some_iff.1 S5.out).1).trans S5.out)
      have R1d := Lib.hid ((bd.block _ (Array.getElem?_eq_some_iff.1 R5.out).1).trans R5.out)
      have I1d := Lib.hid (I5.out.below bd)
      have UO := Lib.hid (UO5.out.trans (Rel.below bd))
      have XB : Hid (B ≤ w5.drew.heap.size) := Lib.hid X5.out
      have RBd := Lib.hid (RB5.out.below bd)
      generalize w5.drew = xd at *
      have BA : Hid (Below xd.heap.size xd (xd.alloc (.cells #[.int .i64 0, .bool false, .string ⟨#[]⟩, .int .i64 0, .bool false, .string ⟨#[]⟩] 92))) := Lib.hid ((Below.refl _ xd).alloc (Nat.le_refl _) _)
      have SB3 := Lib.hid ((BA.out.block _ (Array.getElem?_eq_some_iff.1 S2d.out).1).trans S2d.out)
      have ZB := Lib.hid (heap_alloc_new xd (.cells #[.int .i64 0, .bool false, .string ⟨#[]⟩, .int .i64 0, .bool false, .string ⟨#[]⟩] 92))
      have MLT := Lib.hid RBd.out.lt
      have NE : Hid (RowNe (xd.alloc (.cells #[.int .i64 0, .bool false, .string ⟨#[]⟩, .int .i64 0, .bool false, .string ⟨#[]⟩] 92)) m xd.heap.size) := Lib.hid (by
        obtain ⟨_, v, hb, _⟩ := RBd.out
        exact (RowNe.fresh RBd.out (Nat.le_refl _)).below hb BA.out)
      clear bd I5 S5 R5 RB5 UO5
      refine wpAnyH_take (i := 0) (v := ?_) rfl (by kernel_rfl) (by kernel_rfl) (by kernel_rfl) (fun _ _ _ h => h) (Or.inl ⟨by kernel_rfl, ?_⟩) hS ?_
      rotate_left
      · intro w _
        go_simp
        try with_reducible rfl
      simp only [Act.put, List.getElem_toArray, List.getElem_cons_zero, List.getElem_cons_succ, List.setIfInBounds_toArray, List.set_cons_zero, List.set_cons_succ]
      refine wpAnyH_take (i := 1) (v := ?_) rfl (by kernel_rfl) (by kernel_rfl) (by kernel_rfl) (fun _ _ _ h => h) (Or.inl ⟨by kernel_rfl, ?_⟩) hS ?_
      rotate_left
      · intro w _
        go_simp
        try with_reducible rfl
      simp only [Act.put, List.getElem_toArray, List.getElem_cons_zero, List.getElem_cons_succ, List.setIfInBounds_toArray, List.set_cons_zero, List.set_cons_succ]
      refine wpAnyH_take (i := 2) (v := ?_) rfl (by kernel_rfl) (by kernel_rfl) (by kernel_rfl) (fun _ _ _ h => h) (Or.inl ⟨by kernel_rfl, ?_⟩) hS ?_
      rotate_left
      · intro w _
        go_simp
        try with_reducible rfl
      simp only [Act.put, List.getElem_toArray, List.getElem_cons_zero, List.getElem_cons_succ, List.setIfInBounds_toArray, List.set_cons_zero, List.set_cons_succ]
      refine wpAnyH_take (i := 3) (v := ?_) rfl (by kernel_rfl) (by kernel_rfl) (by kernel_rfl) (fun _ _ _ h => h) (Or.inl ⟨by kernel_rfl, ?_⟩) hS ?_
      rotate_left
      · intro w hSw
        try dsimp only at hSw
        go_split_ands
        go_simp
        try with_reducible rfl
      simp only [Act.put, List.getElem_toArray, List.getElem_cons_zero, List.getElem_cons_succ, List.setIfInBounds_toArray, List.set_cons_zero, List.set_cons_succ]
      refine wpAnyH_take (i := 4) (v := ?_) rfl (by kernel_rfl) (by kernel_rfl) (by kernel_rfl) (fun _ _ _ h => h) (Or.inl ⟨by kernel_rfl, ?_⟩) hS ?_
      rotate_left
      · intro w _
        go_simp
        try with_reducible rfl
      simp only [Act.put, List.getElem_toArray, List.getElem_cons_zero, List.getElem_cons_succ, List.setIfInBounds_toArray, List.set_cons_zero, List.set_cons_succ]
      refine wpAnyH_take (i := 5) (v := ?_) rfl (by kernel_rfl) (by kernel_rfl) (by kernel_rfl) (fun _ _ _ h => h) (Or.inl ⟨by kernel_rfl, ?_⟩) hS ?_
      rotate_left
      · intro w hSw
        try dsimp only at hSw
        go_split_ands
        go_simp
        try with_reducible rfl
      simp only [Act.put, List.getElem_toArray, List.getElem_cons_zero, List.getElem_cons_succ, List.setIfInBounds_toArray, List.set_cons_zero, List.set_cons_succ]
      refine wpAnyH_ready (rs := [6, 10]) (by kernel_rfl) (by simp) (AllReadyH.cons rfl (fun K hK => ?_) (AllReadyH.cons rfl (fun K hK => ?_) AllReadyH.nil))
      · skip
        go_simp
        go_at_call 38
        refine (UK.out xd (UO.out)).mono ?_
        rintro e x3 ⟨⟨ti, tm, tn, tc, tp, tw⟩, hne, rfl, htr, hsm, hs⟩
        have FF := Lib.hid (fin_ok BB1.out HBW.out UT.out (UO.out) hs)
        have S4 := Lib.hid (step_SD S2d.out hs.1)
        have R4 := Lib.hid (hs.1.block R1d.out (fun _ => SD_no (by decide) (by decide) _ _ _))
        have HB3 : Hid (B ≤ x3.heap.size ∧ xd.heap.size ≤ x3.heap.size) := Lib.hid (by
          have h1 := hs.1.size
  
          have h3 := XB.out
          exact ⟨by omega, by omega⟩)
        obtain ⟨N3, I3⟩ := hs.2.2
        have I3 := Lib.hid I3
        have TR := Lib.hid htr
        clear hne htr hsm hs
        refine hK.out _ _ (ss_cells I3.out S4.out) (fun hS2 => ?_)
        clear hK K hS
        have hS := hS2
        clear hS2
        try simp only [Act.put, List.getElem_toArray, List.getElem_cons_zero, List.getElem_cons_succ, List.setIfInBounds_toArray, List.set_cons_zero, List.set_cons_succ]
        refine wpAnyH_take (i := 7) (v := ?_) rfl (by kernel_rfl) (by kernel_rfl) (by kernel_rfl) (fun _ _ _ h => h) (Or.inl ⟨by kernel_rfl, ?_⟩) hS ?_
        rotate_left
        · intro w _
          go_simp
          try with_reducible rfl
        simp only [Act.put, List.getElem_toArray, List.getElem_cons_zero, List.getElem_cons_succ, List.setIfInBounds_toArray, List.set_cons_zero, List.set_cons_succ]
        refine wpAnyH_take (i := 8) (v := ?_) rfl (by kernel_rfl) (by kernel_rfl) (by kernel_rfl) (fun _ _ _ h => h) (Or.inl ⟨by kernel_rfl, ?_⟩) hS ?_
        rotate_left
        · intro w _
          go_simp
          try with_reducible rfl
        simp only [Act.put, List.getElem_toArray, List.getElem_cons_zero, List.getElem_cons_succ, List.setIfInBounds_toArray, List.set_cons_zero, List.set_cons_succ]
        refine wpAnyH_take (i := 9) (v := ?_) rfl (by kernel_rfl) (by kernel_rfl) (by kernel_rfl) (fun _ _ _ h => h) (Or.inl ⟨by kernel_rfl, ?_⟩) hS ?_
        rotate_left
        · intro w _
          go_simp
          try with_reducible rfl
        simp only [Act.put, List.getElem_toArray, List.getElem_cons_zero, List.getElem_cons_succ, List.setIfInBounds_toArray, List.set_cons_zero, List.set_cons_succ]
        refine wpAnyH_ready (rs := [10]) (by kernel_rfl) (by simp) (AllReadyH.cons rfl (fun K hK => ?_) AllReadyH.nil)
        go_simp
        have ZP := Lib.hid (heap_alloc_new x3 (.cells #[.int .i64 0, .bool false, .string ⟨#[]⟩, .int .i64 0, .bool false, .string ⟨#[]⟩] 92))
        have BA1 : Hid (Below x3.heap.size x3 (x3.alloc (.cells #[.int .i64 0, .bool false, .string ⟨#[]⟩, .int .i64 0, .bool false, .string ⟨#[]⟩] 92))) := Lib.hid ((Below.refl _ x3).alloc (Nat.le_refl _) _)
        have I3a := Lib.hid (I3.out.below BA1.out)
        have S4a := Lib.hid ((BA1.out.block _ (Array.getElem?_eq_some_iff.1 S4.out).1).trans S4.out)
        have R4a := Lib.hid ((BA1.out.block _ (Array.getElem?_eq_some_iff.1 R4.out).1).trans R4.out)
        refine hK.out _ _ (ss_cells I3a.out S4a.out) (fun hS2 => ?_)
        clear hK K hS
        have hS := hS2
        clear hS2
        try simp only [Act.put, List.getElem_toArray, List.getElem_cons_zero, List.getElem_cons_succ, List.setIfInBounds_toArray, List.set_cons_zero, List.set_cons_succ]
        refine wpAnyH_ready (rs := [11]) (by kernel_rfl) (by simp) (AllReadyH.cons rfl (fun K hK => ?_) AllReadyH.nil)
        refine stepH_store (by rfl) 92 (.tmp 12) (.tmp 106) (by rfl) (x3.heap.size) 0 [.int .i64 ti, .bool tm, .string tn, .int .i64 tc, .bool tp, .string tw] (by rfl) (by rfl) (there6 ZP.out rfl) (by kernel_rfl) (rc6_one [⟨ti, tm, tn, tc, tp, tw⟩]) ?_
        have FIN : Hid (Fin w B q b m last ((x3.alloc (.cells #[.int .i64 0, .bool false, .string ⟨#[]⟩, .int .i64 0, .bool false, .string ⟨#[]⟩] 92)).setCells (x3.heap.size) 0 [.int .i64 ti, .bool tm, .string tn, .int .i64 tc, .bool tp, .string tw]) ∧ (∃ N0, PlayI ((x3.alloc (.cells #[.int .i64 0, .bool false, .string ⟨#[]⟩, .int .i64 0, .bool false, .string ⟨#[]⟩] 92)).setCells (x3.heap.size) 0 [.int .i64 ti, .bool tm, .string tn, .int .i64 tc, .bool tp, .string tw]) q b m N0 cs fs) ∧ ((x3.alloc (.cells #[.int .i64 0, .bool false, .string ⟨#[]⟩, .int .i64 0, .bool false, .string ⟨#[]⟩] 92)).setCells (x3.heap.size) 0 [.int .i64 ti, .bool tm, .string tn, .int .i64 tc, .bool tp, .string tw]).heap[p3]? = some (.cells #[.int .i64 2, .string name, .int .i64 code, .int .i64 pan, .string word, .int .i64 sid] 36 (0, 0)) ∧ ((x3.alloc (.cells #[.int .i64 0, .bool false, .string ⟨#[]⟩, .int .i64 0, .bool false, .string ⟨#[]⟩] 92)).setCells (x3.heap.size) 0 [.int .i64 ti, .bool tm, .string tn, .int .i64 tc, .bool tp, .string tw]).heap[p10]? = some (.cells (rcells r.id r.name r.bh).toArray 83 (0, 0)) ∧ ((x3.alloc (.cells #[.int .i64 0, .bool false, .string ⟨#[]⟩, .int .i64 0, .bool false, .string ⟨#[]⟩] 92)).setCells (x3.heap.size) 0 [.int .i64 ti, .bool tm, .string tn, .int .i64 tc, .bool tp, .string tw]).heap[x3.heap.size]? = some (.cells #[.int .i64 ti, .bool tm, .string tn, .int .i64 tc, .bool tp, .string tw] 92 (0, 0)) ∧ (vy = 0 → (⟨ti, tm, tn, tc, tp, tw⟩ : RT) = toR r) ∧ B ≤ ((x3.alloc (.cells #[.int .i64 0, .bool false, .string ⟨#[]⟩, .int .i64 0, .bool false, .string ⟨#[]⟩] 92)).setCells (x3.heap.size) 0 [.int .i64 ti, .bool tm, .string tn, .int .i64 tc, .bool tp, .string tw]).heap.size) := Lib.hid ⟨FF.out.or (Rel.below (BA1.out.trans ((below_lay (Nat.le_refl _) [.int .i64 ti, .bool tm, .string tn, .int .i64 tc, .bool tp, .string tw] (x3.alloc (.cells #[.int .i64 0, .bool false, .string ⟨#[]⟩, .int .i64 0, .bool false, .string ⟨#[]⟩] 92)) 0)))) HB3.out.1, ⟨_, I3.out.below (BA1.out.trans ((below_lay (Nat.le_refl _) [.int .i64 ti, .bool tm, .string tn, .int .i64 tc, .bool tp, .string tw] (x3.alloc (.cells #[.int .i64 0, .bool false, .string ⟨#[]⟩, .int .i64 0, .bool false, .string ⟨#[]⟩] 92)) 0)))⟩, ((BA1.out.trans ((below_lay (Nat.le_refl _) [.int .i64 ti, .bool tm, .string tn, .int .i64 tc, .bool tp, .string tw] (x3.alloc (.cells #[.int .i64 0, .bool false, .string ⟨#[]⟩, .int .i64 0, .bool false, .string ⟨#[]⟩] 92)) 0))).block _ (Array.getElem?_eq_some_iff.1 S4.out).1).trans S4.out, ((BA1.out.trans ((below_lay (Nat.le_refl _) [.int .i64 ti, .bool tm, .string tn, .int .i64 tc, .bool tp, .string tw] (x3.alloc (.cells #[.int .i64 0, .bool false, .string ⟨#[]⟩, .int .i64 0, .bool false, .string ⟨#[]⟩] 92)) 0))).block _ (Array.getElem?_eq_some_iff.1 R4.out).1).trans R4.out, lay6 ZP.out rfl, TR.out, Nat.le_trans HB3.out.1 ((BA1.out.trans ((below_lay (Nat.le_refl _) [.int .i64 ti, .bool tm, .string tn, .int .i64 tc, .bool tp, .string tw] (x3.alloc (.cells #[.int .i64 0, .bool false, .string ⟨#[]⟩, .int .i64 0, .bool false, .string ⟨#[]⟩] 92)) 0)))).size⟩
        obtain ⟨N9, I9⟩ := FIN.out.2.1
        have I9 := Lib.hid I9
        refine hK.out _ _ (ss_cells I9.out FIN.out.2.2.1) (fun hS2 => ?_)
        clear hK K hS
        have hS := hS2
        clear hS2
        try simp only [Act.put, List.getElem_toArray, List.getElem_cons_zero, List.getElem_cons_succ, List.setIfInBounds_toArray, List.set_cons_zero, List.set_cons_succ]
        refine wpAnyH_take (i := 12) (v := ?_) rfl (by kernel_rfl) (by kernel_rfl) (by kernel_rfl) (fun _ _ _ h => h) (Or.inl ⟨by kernel_rfl, ?_⟩) hS ?_
        rotate_left
        · intro w _
          go_simp
          try with_reducible rfl
        simp only [Act.put, List.getElem_toArray, List.getElem_cons_zero, List.getElem_cons_succ, List.setIfInBounds_toArray, List.set_cons_zero, List.set_cons_succ]
        refine wpAnyH_done (by kernel_rfl) ?_ _
        go_wp2_with fail
        go_meet
        exact ⟨_, _, _, _, _, _, _, rfl, rfl, FIN⟩
      · skip
        go_simp

        refine hK.out _ _ (ss_cells (I1d.out.below BA.out) SB3.out) (fun hS2 => ?_)
        clear hK K hS
        have hS := hS2
        clear hS2
        try simp only [Act.put, List.getElem_toArray, List.getElem_cons_zero, List.getElem_cons_succ, List.setIfInBounds_toArray, List.set_cons_zero, List.set_cons_succ]
        refine wpAnyH_ready (rs := [6]) (by kernel_rfl) (by simp) (AllReadyH.cons rfl (fun K hK => ?_) AllReadyH.nil)
        go_simp
        go_at_call 38
        refine (UK.out (xd.alloc (.cells #[.int .i64 0, .bool false, .string ⟨#[]⟩, .int .i64 0, .bool false, .string ⟨#[]⟩] 92)) (UO.out.trans (Rel.below BA.out))).mono ?_
        rintro e x3 ⟨⟨ti, tm, tn, tc, tp, tw⟩, hne, rfl, htr, hsm, hs⟩
        have FF := Lib.hid (fin_ok BB1.out HBW.out UT.out (UO.out.trans (Rel.below BA.out)) hs)
        have S4 := Lib.hid (step_SD SB3.out hs.1)
        have R4 := Lib.hid (hs.1.block ((BA.out.block _ (Array.getElem?_eq_some_iff.1 R1d.out).1).trans R1d.out) (fun _ => SD_no (by decide) (by decide) _ _ _))
        have HB3 : Hid (B ≤ x3.heap.size ∧ xd.heap.size ≤ x3.heap.size) := Lib.hid (by
          have h1 := hs.1.size
          have h2 := BA.out.size
          have h3 := XB.out
          exact ⟨by omega, by omega⟩)
        obtain ⟨N3, I3⟩ := hs.2.2
        have I3 := Lib.hid I3
        have TR := Lib.hid htr
        have ZP := Lib.hid (hsm.block ZB.out (fun _ ho => absurd ho.1 (Nat.ne_of_gt MLT.out)))
        have RN := Lib.hid (hne xd.heap.size (by rw [sz_alloc]; exact Nat.lt_succ_self _) NE.out)
        clear hne htr hsm hs
        refine hK.out _ _ (ss_cells I3.out S4.out) (fun hS2 => ?_)
        clear hK K hS
        have hS := hS2
        clear hS2
        try simp only [Act.put, List.getElem_toArray, List.getElem_cons_zero, List.getElem_cons_succ, List.setIfInBounds_toArray, List.set_cons_zero, List.set_cons_succ]
        refine wpAnyH_take (i := 7) (v := ?_) rfl (by kernel_rfl) (by kernel_rfl) (by kernel_rfl) (fun _ _ _ h => h) (Or.inl ⟨by kernel_rfl, ?_⟩) hS ?_
        rotate_left
        · intro w _
          go_simp
          try with_reducible rfl
        simp only [Act.put, List.getElem_toArray, List.getElem_cons_zero, List.getElem_cons_succ, List.setIfInBounds_toArray, List.set_cons_zero, List.set_cons_succ]
        refine wpAnyH_take (i := 8) (v := ?_) rfl (by kernel_rfl) (by kernel_rfl) (by kernel_rfl) (fun _ _ _ h => h) (Or.inl ⟨by kernel_rfl, ?_⟩) hS ?_
        rotate_left
        · intro w _
          go_simp
          try with_reducible rfl
        simp only [Act.put, List.getElem_toArray, List.getElem_cons_zero, List.getElem_cons_succ, List.setIfInBounds_toArray, List.set_cons_zero, List.set_cons_succ]
        refine wpAnyH_take (i := 9) (v := ?_) rfl (by kernel_rfl) (by kernel_rfl) (by kernel_rfl) (fun _ _ _ h => h) (Or.inl ⟨by kernel_rfl, ?_⟩) hS ?_
        rotate_left
        · intro w _
          go_simp
          try with_reducible rfl
        simp only [Act.put, List.getElem_toArray, List.getElem_cons_zero, List.getElem_cons_succ, List.setIfInBounds_toArray, List.set_cons_zero, List.set_cons_succ]
        refine wpAnyH_ready (rs := [11]) (by kernel_rfl) (by simp) (AllReadyH.cons rfl (fun K hK => ?_) AllReadyH.nil)
        refine stepH_store (by rfl) 92 (.tmp 12) (.tmp 106) (by rfl) (xd.heap.size) 0 [.int .i64 ti, .bool tm, .string tn, .int .i64 tc, .bool tp, .string tw] (by rfl) (by rfl) (there6 ZP.out rfl) (by kernel_rfl) (rc6_one [⟨ti, tm, tn, tc, tp, tw⟩]) ?_
        have FIN : Hid (Fin w B q b m last (x3.setCells (xd.heap.size) 0 [.int .i64 ti, .bool tm, .string tn, .int .i64 tc, .bool tp, .string tw]) ∧ (∃ N0, PlayI (x3.setCells (xd.heap.size) 0 [.int .i64 ti, .bool tm, .string tn, .int .i64 tc, .bool tp, .string tw]) q b m N0 cs fs) ∧ (x3.setCells (xd.heap.size) 0 [.int .i64 ti, .bool tm, .string tn, .int .i64 tc, .bool tp, .string tw]).heap[p3]? = some (.cells #[.int .i64 2, .string name, .int .i64 code, .int .i64 pan, .string word, .int .i64 sid] 36 (0, 0)) ∧ (x3.setCells (xd.heap.size) 0 [.int .i64 ti, .bool tm, .string tn, .int .i64 tc, .bool tp, .string tw]).heap[p10]? = some (.cells (rcells r.id r.name r.bh).toArray 83 (0, 0)) ∧ (x3.setCells (xd.heap.size) 0 [.int .i64 ti, .bool tm, .string tn, .int .i64 tc, .bool tp, .string tw]).heap[xd.heap.size]? = some (.cells #[.int .i64 ti, .bool tm, .string tn, .int .i64 tc, .bool tp, .string tw] 92 (0, 0)) ∧ (vy = 0 → (⟨ti, tm, tn, tc, tp, tw⟩ : RT) = toR r) ∧ B ≤ (x3.setCells (xd.heap.size) 0 [.int .i64 ti, .bool tm, .string tn, .int .i64 tc, .bool tp, .string tw]).heap.size) := Lib.hid ⟨FF.out.lay HB3.out.1 ZP.out XB.out RN.out _, ⟨_, I3.out.rel (rel_lay (S := OT xd.heap.size) XB.out (fun C => ⟨rfl, C, _, rfl⟩) _ _ _ _ ZP.out) (fun C z => OT_not (by decide) _ _ _) (fun k C z _ => OT_not (by decide) _ _ _)⟩, (rel_lay (S := OT xd.heap.size) XB.out (fun C => ⟨rfl, C, _, rfl⟩) _ _ _ _ ZP.out).block S4.out (fun _ => OT_not (by decide) _ _ _), (rel_lay (S := OT xd.heap.size) XB.out (fun C => ⟨rfl, C, _, rfl⟩) _ _ _ _ ZP.out).block R4.out (fun _ => OT_not (by decide) _ _ _), lay6 ZP.out rfl, TR.out, Nat.le_trans HB3.out.1 (rel_lay (S := OT xd.heap.size) XB.out (fun C => ⟨rfl, C, _, rfl⟩) [.int .i64 ti, .bool tm, .string tn, .int .i64 tc, .bool tp, .string tw] _ _ _ ZP.out).size⟩
        obtain ⟨N9, I9⟩ := FIN.out.2.1
        have I9 := Lib.hid I9
        refine hK.out _ _ (ss_cells I9.out FIN.out.2.2.1) (fun hS2 => ?_)
        clear hK K hS
        have hS := hS2
        clear hS2
        try simp only [Act.put, List.getElem_toArray, List.getElem_cons_zero, List.getElem_cons_succ, List.setIfInBounds_toArray, List.set_cons_zero, List.set_cons_succ]
        refine wpAnyH_take (i := 12) (v := ?_) rfl (by kernel_rfl) (by kernel_rfl) (by kernel_rfl) (fun _ _ _ h => h) (Or.inl ⟨by kernel_rfl, ?_⟩) hS ?_
        rotate_left
        · intro w _
          go_simp
          try with_reducible rfl
        simp only [Act.put, List.getElem_toArray, List.getElem_cons_zero, List.getElem_cons_succ, List.setIfInBounds_toArray, List.set_cons_zero, List.set_cons_succ]
        refine wpAnyH_done (by kernel_rfl) ?_ _
        go_wp2_with fail
        go_meet
        exact ⟨_, _, _, _, _, _, _, rfl, rfl, FIN⟩
    case rest =>
      obtain ⟨p12, ti, tm, tn, tc, tp, tw, rfl, rfl, hu⟩ := hcut
      have FIN := Lib.hid hu.out
      obtain ⟨w6, hw6⟩ : ∃ x, x = wc := ⟨_, rfl⟩
      rw [← hw6] at FIN ⊢
      clear hu hw6 I5 S5 R5 RB5 UO5 X5 UT UK
      obtain ⟨rid, rnm, rbh⟩ := r
      have hyy : (vy == vy) = true := by simp
      obtain ⟨FF, ⟨N3, I3⟩, _, hR6, hP6, hTR, hB6⟩ := FIN.out
      obtain ⟨g0, g1, g2, g3, g4⟩ := ends hR6
      have e0 := (cell_of_row _ p12 0 _ _ _ hP6).trans rfl
      have e1 := (cell_of_row _ p12 1 _ _ _ hP6).trans rfl
      have e2 := (cell_of_row _ p12 2 _ _ _ hP6).trans rfl
      have e3 := (cell_of_row _ p12 3 _ _ _ hP6).trans rfl
      have e4 := (cell_of_row _ p12 4 _ _ _ hP6).trans rfl
      have e5 := (cell_of_row _ p12 5 _ _ _ hP6).trans rfl
      have I3 := Lib.hid I3
      have FF := Lib.hid FF
      have TR := Lib.hid hTR
      have HB6 := Lib.hid hB6
      clear hR6 hP6 hTR hB6 FIN
      rcases CA.out with ⟨hy, hr, rfl, rfl⟩ | ⟨rfl, rfl, rfl⟩
      · have hy0 : (vy != 0) = true := by simp [hy]
        have hy1 : (vy == 0) = false := by simp [hy]
        simp only [rzero, Rs.mk.injEq] at hr
        obtain ⟨rfl, rfl, rfl⟩ := hr
        have CS := Lib.hid (same_yes w6 0 ⟨#[]⟩ 0 false false ⟨#[]⟩)
        clear CA TR e0 e1 e2 e3 e4 e5
        simp only [Beh.code, Beh.pan, Beh.word] at g2 g3 g4
        go_wp2_with (refine CS.out.mono ?_; rintro e x7 ⟨rfl, hb7⟩)
        have CU := Lib.hid (undone_yes (n := 0) (Nr := B) (Nw := 0) (Nf := 0) (Z := []) (I3.out.below hb7) (World.ownsRow_nil _ _ _ _) (World.ownsRow_nil _ _ _ _) (World.ownsRow_nil _ _ _ _) rfl rfl rfl (by decide))
        have F7 := Lib.hid (FF.out.or (Rel.below hb7) HB6.out)
        have HB7 := Lib.hid (Nat.le_trans HB6.out hb7.size)
        clear hb7
        refine CU.out.mono ?_
        rintro e x8 ⟨rfl, hr8⟩
        have F8 := Lib.hid (F7.out.or (rel_SRs hr8 (Nat.le_refl _)) HB7.out)
        clear hr8 CU
        go_wp2_with fail
        go_ret
        exact ⟨rfl, F8.out⟩
      · have htr := TR.out rfl
        simp only [toR, RT.mk.injEq] at htr
        obtain ⟨rfl, rfl, rfl, rfl, rfl, rfl⟩ := htr
        have bA : Below w6.heap.size w6 (w6.alloc (.cells #[.int .i64 ti, .string tn, .int .i64 rbh.code, .bool rbh.pan, .string rbh.word] 83)) := (Below.refl _ w6).alloc (Nat.le_refl _) _
        have bB : Below (w6.alloc (.cells #[.int .i64 ti, .string tn, .int .i64 rbh.code, .bool rbh.pan, .string rbh.word] 83)).heap.size (w6.alloc (.cells #[.int .i64 ti, .string tn, .int .i64 rbh.code, .bool rbh.pan, .string rbh.word] 83)) ((w6.alloc (.cells #[.int .i64 ti, .string tn, .int .i64 rbh.code, .bool rbh.pan, .string rbh.word] 83)).alloc (.cells #[.int .i64 ti, .bool false, .string tn, .int .i64 rbh.code, .bool rbh.pan, .string rbh.word] 92)) := (Below.refl _ _).alloc (Nat.le_refl _) _
        have bC : Below ((w6.alloc (.cells #[.int .i64 ti, .string tn, .int .i64 rbh.code, .bool rbh.pan, .string rbh.word] 83)).alloc (.cells #[.int .i64 ti, .bool false, .string tn, .int .i64 rbh.code, .bool rbh.pan, .string rbh.word] 92)).heap.size ((w6.alloc (.cells #[.int .i64 ti, .string tn, .int .i64 rbh.code, .bool rbh.pan, .string rbh.word] 83)).alloc (.cells #[.int .i64 ti, .bool false, .string tn, .int .i64 rbh.code, .bool rbh.pan, .string rbh.word] 92)) (((w6.alloc (.cells #[.int .i64 ti, .string tn, .int .i64 rbh.code, .bool rbh.pan, .string rbh.word] 83)).alloc (.cells #[.int .i64 ti, .bool false, .string tn, .int .i64 rbh.code, .bool rbh.pan, .string rbh.word] 92)).alloc (.cells #[.int .i64 ((ct : Int) - 1)] 3)) := (Below.refl _ _).alloc (Nat.le_refl _) _
        have bAB : Below w6.heap.size w6 ((w6.alloc (.cells #[.int .i64 ti, .string tn, .int .i64 rbh.code, .bool rbh.pan, .string rbh.word] 83)).alloc (.cells #[.int .i64 ti, .bool false, .string tn, .int .i64 rbh.code, .bool rbh.pan, .string rbh.word] 92)) := bA.trans (bB.mono bA.size)
        have bABC : Below w6.heap.size w6 (((w6.alloc (.cells #[.int .i64 ti, .string tn, .int .i64 rbh.code, .bool rbh.pan, .string rbh.word] 83)).alloc (.cells #[.int .i64 ti, .bool false, .string tn, .int .i64 rbh.code, .bool rbh.pan, .string rbh.word] 92)).alloc (.cells #[.int .i64 ((ct : Int) - 1)] 3)) := bAB.trans (bC.mono bAB.size)
        have oA := World.ownsRow_lit (base := w6.heap.size) (e := 83) (size := 5) w6 #[.int .i64 ti, .string tn, .int .i64 rbh.code, .bool rbh.pan, .string rbh.word] 1 (Nat.le_refl _) (by unfold maxLen; omega) rfl
        have oB := World.ownsRow_lit (base := 0) (e := 92) (size := 6) (w6.alloc (.cells #[.int .i64 ti, .string tn, .int .i64 rbh.code, .bool rbh.pan, .string rbh.word] 83)) #[.int .i64 ti, .bool false, .string tn, .int .i64 rbh.code, .bool rbh.pan, .string rbh.word] 1 (Nat.zero_le _) (by unfold maxLen; omega) rfl
        have oC := World.ownsRow_lit (base := 0) (e := 3) (size := 1) ((w6.alloc (.cells #[.int .i64 ti, .string tn, .int .i64 rbh.code, .bool rbh.pan, .string rbh.word] 83)).alloc (.cells #[.int .i64 ti, .bool false, .string tn, .int .i64 rbh.code, .bool rbh.pan, .string rbh.word] 92)) #[.int .i64 ((ct : Int) - 1)] 1 (Nat.zero_le _) (by unfold maxLen; omega) rfl
        have CU0 := undone_yes (n := 1) (Z := [⟨ti, tn, rbh⟩]) (I3.out.below bABC) (own_below (own_below oA bB) bC) (own_below oB bC) oC rfl rfl rfl (by decide)
        simp only [sz_alloc] at CU0
        have CU := Lib.hid CU0
        have F7 := Lib.hid (FF.out.or (Rel.below bABC) HB6.out)
        have HB7 := Lib.hid (Nat.le_trans HB6.out bABC.size)
        have wc1 : wrap64 ((ct : Int) - 1) = (ct : Int) - 1 := IntWalk.wrap64_in _ (by have := HCL.out; omega)
        have e0a := (bA.cell (p := ⟨p12, 0, none⟩) (World.block_lt_of_cell? w6 _ e0)).trans e0
        have e1a := (bA.cell (p := ⟨p12, 1, none⟩) (World.block_lt_of_cell? w6 _ e1)).trans e1
        have e2a := (bA.cell (p := ⟨p12, 2, none⟩) (World.block_lt_of_cell? w6 _ e2)).trans e2
        have e3a := (bA.cell (p := ⟨p12, 3, none⟩) (World.block_lt_of_cell? w6 _ e3)).trans e3
        have e4a := (bA.cell (p := ⟨p12, 4, none⟩) (World.block_lt_of_cell? w6 _ e4)).trans e4
        have e5a := (bA.cell (p := ⟨p12, 5, none⟩) (World.block_lt_of_cell? w6 _ e5)).trans e5
        clear bA bB bC bAB bABC oA oB oC CU0 CA TR
        go_wp2_with fail
        refine CU.out.mono ?_
        rintro e x8 ⟨rfl, hr8⟩
        have F8 := Lib.hid (F7.out.or (rel_SRs hr8 HB6.out) HB7.out)
        clear hr8 CU
        go_wp2_with fail
        go_ret
        exact ⟨rfl, F8.out⟩
end Go.Proofs.Ytnkababhgloclaa
