/- ProbeBags: a step of the play, kind by kind. (Printed by tools/genplayg.py.) -/
import Derived.Test.YtnkababhgloclaaPlayG
namespace Go.Proofs.Ytnkababhgloclaa
open Go.RowKit Go.ChangeShapes
set_option maxHeartbeats 8000000 in
set_option maxRecDepth 100000 in
theorem step_backs {w : World} {B q b m : Nat} {L : List Th} {last : Int} {closed : Bool} (h : PS w B q b m L last closed) (hI : ∃ N0 c f, PlayI w q b m N0 c f) (hl : last ≤ 100000) (s : St) (hk : s.kind = 4) :
    Calls Try.prog 10 #[.pointer (some ⟨q, 0, none⟩), .agg s.cells.toArray] w fun e w' => e = .returned (.bool true) ∧ Fin w B q b m last w' := by
  obtain ⟨kind, name, code, pan, word, sid⟩ := s
  simp only at hk
  subst hk
  change Calls Try.prog 10 #[.pointer (some ⟨q, 0, none⟩), .agg #[.int .i64 (4), .string name, .int .i64 code, .int .i64 pan, .string word, .int .i64 sid]] w _
  obtain ⟨w1, hw1⟩ : ∃ x, x = ((w.alloc (.cells #[.int .i64 4, .string name, .int .i64 code, .int .i64 pan, .string word, .int .i64 sid] 36)).setCell ⟨q, 2, none⟩ (.slice none 0 0)).setCell ⟨q, 3, none⟩ (.slice none 0 0) := ⟨_, rfl⟩
  obtain ⟨ps1, pn1, s1, b1⟩ := h.start hI _ hw1
  obtain ⟨N0, c0, f0, hI⟩ := hI
  obtain ⟨wa, hwa⟩ : ∃ x, x = w.alloc (.cells #[.int .i64 4, .string name, .int .i64 code, .int .i64 pan, .string word, .int .i64 sid] 36) := ⟨_, rfl⟩
  have ha : PlayI wa q b m N0 c0 f0 := by
    rw [hwa]
    exact hI.below ((Below.refl _ w).alloc (Nat.le_refl _) _)
  have f2 := ha.frozen 2
  have f3 := ha.frozen 3
  obtain ⟨ac, cc, af, cf, e0, e1, e2, e3, e4, _, _⟩ := ha.cells
  rw [← hwa] at hw1
  have HWA := Lib.hid hwa
  have HW1 := Lib.hid hw1
  have PS1 := Lib.hid ps1
  have PN1 := Lib.hid pn1
  have BB1 := Lib.hid b1
  have HBW : Hid (B ≤ w1.heap.size) := Lib.hid ps1.hBw
  have HL := Lib.hid hl
  obtain ⟨p3, hp3⟩ : ∃ p, p = w.heap.size := ⟨_, rfl⟩
  rw [← hp3] at s1
  have HP3 := Lib.hid hp3
  have S1 := Lib.hid s1
  have P3N : Hid (p3 < w1.heap.size) := Lib.hid (Array.getElem?_eq_some_iff.1 s1).1
  obtain ⟨r0, r1, y0, y1, y2, y3, y4, y5⟩ := ss_cells (pn1.to 0) s1
  clear h hI hl hw1 ps1 pn1 b1 hp3 s1 ha hwa
  go_enter Try.func10, Try.ntmps10
  go_upto_region 1 with fail
  rw [← HWA.out, ← HP3.out]
  go_upto_region 3 with fail
  rw [← HW1.out]
  clear f2 f3 e0 e1 e2 e3 e4 HW1 HP3 HWA
  obtain ⟨am, cm, mc0, mc1, mc2, mo⟩ := PS1.out.rbag.cells
  have CT0 := things_any (rts_own mo) (by rw [List.length_map]; exact PS1.out.len)
  rw [cnt_countR] at CT0
  obtain ⟨nl, hnl⟩ : ∃ n, (L.map (rtOf w1)).length = n := ⟨_, rfl⟩
  rw [hnl] at CT0 mc0
  clear hnl
  obtain ⟨ct, hct⟩ : ∃ n, cntT L = n := ⟨_, rfl⟩
  rw [hct] at CT0
  have HCL : Hid (ct ≤ 256) := Lib.hid (by
    rw [← hct]
    exact Nat.le_trans (heldN_len L) PS1.out.len)
  have CT := Lib.hid CT0
  have HCT := Lib.hid hct
  clear mc1 mc2 mo CT0 hct
  go_upto_region 19 with (refine CT.out.mono ?_; rintro e xx ⟨rfl, hxx⟩; have hxx := hxx.symm; subst hxx)
  clear r0 r1 y0 y1 y2 y3 y4 y5 mc0 CT
  refine wp_region_held_drew (S := fun W' => W'.cell? ⟨q, 0, none⟩ = some (.pointer (some ⟨b, 0, none⟩)) ∧ W'.cell? ⟨q, 1, none⟩ = some (.pointer (some ⟨m, 0, none⟩)) ∧ W'.cell? ⟨p3, 0, none⟩ = some (.int .i64 4) ∧ W'.cell? ⟨p3, 1, none⟩ = some (.string name) ∧ W'.cell? ⟨p3, 2, none⟩ = some (.int .i64 code) ∧ W'.cell? ⟨p3, 3, none⟩ = some (.int .i64 pan) ∧ W'.cell? ⟨p3, 4, none⟩ = some (.string word) ∧ W'.cell? ⟨p3, 5, none⟩ = some (.int .i64 sid)) (by kernel_rfl) (ss_cells ((PN1.out.to 0).below (Below.refl w1.heap.size w1).drew) (((Below.refl w1.heap.size w1).drew.block _ P3N.out).trans S1.out)) (fun hS => ?_)
  have bd := (Below.refl w1.heap.size w1).drew
  have PSD := Lib.hid (PS1.out.below bd)
  have PND := Lib.hid (PN1.out.below bd)
  have SD3 := Lib.hid ((bd.block _ P3N.out).trans S1.out)
  have BD : Hid (Below w1.heap.size w1 w1.drew) := Lib.hid bd
  generalize w1.drew = wd at *
  clear bd
  have JB := Lib.hid (jback PSD.out (PND.out.to _) sid)
  refine wpAnyH_take (i := 0) (v := ?_) rfl (by kernel_rfl) (by kernel_rfl) (by kernel_rfl) (fun _ _ _ h => h) (Or.inl ⟨by kernel_rfl, ?_⟩) hS ?_
  rotate_left
  · intro w _
    go_simp
    try with_reducible rfl
  simp only [Act.put, List.getElem_toArray, List.getElem_cons_zero, List.getElem_cons_succ, List.setIfInBounds_toArray, List.set_cons_zero, List.set_cons_succ]
  refine wpAnyH_take (i := 1) (v := ?_) rfl (by kernel_rfl) (by kernel_rfl) (by kernel_rfl) (fun _ _ _ h => h) (Or.inl ⟨by kernel_rfl, ?_⟩) hS ?_
  rotate_left
  · intro w _
    go_simp
    try with_reducible rfl
  simp only [Act.put, List.getElem_toArray, List.getElem_cons_zero, List.getElem_cons_succ, List.setIfInBounds_toArray, List.set_cons_zero, List.set_cons_succ]
  refine wpAnyH_take (i := 2) (v := ?_) rfl (by kernel_rfl) (by kernel_rfl) (by kernel_rfl) (fun _ _ _ h => h) (Or.inl ⟨by kernel_rfl, ?_⟩) hS ?_
  rotate_left
  · intro w _
    go_simp
    try with_reducible rfl
  simp only [Act.put, List.getElem_toArray, List.getElem_cons_zero, List.getElem_cons_succ, List.setIfInBounds_toArray, List.set_cons_zero, List.set_cons_succ]
  refine wpAnyH_take (i := 3) (v := ?_) rfl (by kernel_rfl) (by kernel_rfl) (by kernel_rfl) (fun _ _ _ h => h) (Or.inl ⟨by kernel_rfl, ?_⟩) hS ?_
  rotate_left
  · intro w hSw
    try dsimp only at hSw
    go_split_ands
    go_simp
    try with_reducible rfl
  simp only [Act.put, List.getElem_toArray, List.getElem_cons_zero, List.getElem_cons_succ, List.setIfInBounds_toArray, List.set_cons_zero, List.set_cons_succ]
  refine wpAnyH_take (i := 4) (v := ?_) rfl (by kernel_rfl) (by kernel_rfl) (by kernel_rfl) (fun _ _ _ h => h) (Or.inl ⟨by kernel_rfl, ?_⟩) hS ?_
  rotate_left
  · intro w _
    go_simp
    try with_reducible rfl
  simp only [Act.put, List.getElem_toArray, List.getElem_cons_zero, List.getElem_cons_succ, List.setIfInBounds_toArray, List.set_cons_zero, List.set_cons_succ]
  refine wpAnyH_take (i := 5) (v := ?_) rfl (by kernel_rfl) (by kernel_rfl) (by kernel_rfl) (fun _ _ _ h => h) (Or.inl ⟨by kernel_rfl, ?_⟩) hS ?_
  rotate_left
  · intro w hSw
    try dsimp only at hSw
    go_split_ands
    go_simp
    try with_reducible rfl
  simp only [Act.put, List.getElem_toArray, List.getElem_cons_zero, List.getElem_cons_succ, List.setIfInBounds_toArray, List.set_cons_zero, List.set_cons_succ]
  refine wpAnyH_ready (rs := [6]) (by kernel_rfl) (by simp) (AllReadyH.cons rfl (fun K hK => ?_) AllReadyH.nil)
  go_simp
  go_at_call 28
  refine JB.out.mono ?_
  rintro e x1 ⟨v, vy, Z, Fl, rfl, hrow, hT, hI1, hZ, hFL, hF, hK⟩
  obtain ⟨av, cv, rfl⟩ := own_slice hrow
  have T1 := Lib.hid ((Rel.below (S := TY wd.heap.size) (B := B) BD.out).trans hT)
  have S2 := Lib.hid (step_TY SD3.out hT)
  have I1 := Lib.hid hI1
  have ROW := Lib.hid hrow
  have HZ := Lib.hid hZ
  have HFL := Lib.hid hFL
  have HF := Lib.hid hF
  have KK := Lib.hid hK
  have hyy : (vy == vy) = true := by simp
  have HBWD : Hid (B ≤ wd.heap.size) := Lib.hid (Nat.le_trans HBW.out BD.out.size)
  clear hT hI1 hK hrow hZ hFL hF JB
  refine hK.out _ _ (ss_cells I1.out S2.out) (fun hS2 => ?_)
  clear hK K hS
  have hS := hS2
  clear hS2
  try simp only [Act.put, List.getElem_toArray, List.getElem_cons_zero, List.getElem_cons_succ, List.setIfInBounds_toArray, List.set_cons_zero, List.set_cons_succ]
  refine wpAnyH_take (i := 7) (v := ?_) rfl (by kernel_rfl) (by kernel_rfl) (by kernel_rfl) (fun _ _ _ h => h) (Or.inl ⟨by kernel_rfl, ?_⟩) hS ?_
  rotate_left
  · intro w _
    go_simp
    try with_reducible rfl
  simp only [Act.put, List.getElem_toArray, List.getElem_cons_zero, List.getElem_cons_succ, List.setIfInBounds_toArray, List.set_cons_zero, List.set_cons_succ]
  refine wpAnyH_take (i := 8) (v := ?_) rfl (by kernel_rfl) (by kernel_rfl) (by kernel_rfl) (fun _ _ _ h => h) (Or.inl ⟨by kernel_rfl, ?_⟩) hS ?_
  rotate_left
  · intro w _
    go_simp
    try with_reducible rfl
  simp only [Act.put, List.getElem_toArray, List.getElem_cons_zero, List.getElem_cons_succ, List.setIfInBounds_toArray, List.set_cons_zero, List.set_cons_succ]
  refine wpAnyH_take (i := 9) (v := ?_) rfl (by kernel_rfl) (by kernel_rfl) (by kernel_rfl) (fun _ _ _ h => h) (Or.inl ⟨by kernel_rfl, ?_⟩) hS ?_
  rotate_left
  · intro w _
    go_simp
    try with_reducible rfl
  simp only [Act.put, List.getElem_toArray, List.getElem_cons_zero, List.getElem_cons_succ, List.setIfInBounds_toArray, List.set_cons_zero, List.set_cons_succ]
  refine wpAnyH_take (i := 10) (v := ?_) rfl (by kernel_rfl) (by kernel_rfl) (by kernel_rfl) (fun _ _ _ h => h) (Or.inl ⟨by kernel_rfl, ?_⟩) hS ?_
  rotate_left
  · intro w _
    go_simp
    try with_reducible rfl
  simp only [Act.put, List.getElem_toArray, List.getElem_cons_zero, List.getElem_cons_succ, List.setIfInBounds_toArray, List.set_cons_zero, List.set_cons_succ]
  refine wpAnyH_take (i := 11) (v := ?_) rfl (by kernel_rfl) (by kernel_rfl) (by kernel_rfl) (fun _ _ _ h => h) (Or.inl ⟨by kernel_rfl, ?_⟩) hS ?_
  rotate_left
  · intro w _
    go_simp
    try with_reducible rfl
  simp only [Act.put, List.getElem_toArray, List.getElem_cons_zero, List.getElem_cons_succ, List.setIfInBounds_toArray, List.set_cons_zero, List.set_cons_succ]
  refine wpAnyH_done (by kernel_rfl) ?_ _
  clear hS
  go_upto_region 20 with fail
  refine wp_region_held_drew (S := fun W' => W'.cell? ⟨q, 0, none⟩ = some (.pointer (some ⟨b, 0, none⟩)) ∧ W'.cell? ⟨q, 1, none⟩ = some (.pointer (some ⟨m, 0, none⟩)) ∧ W'.cell? ⟨p3, 0, none⟩ = some (.int .i64 4) ∧ W'.cell? ⟨p3, 1, none⟩ = some (.string name) ∧ W'.cell? ⟨p3, 2, none⟩ = some (.int .i64 code) ∧ W'.cell? ⟨p3, 3, none⟩ = some (.int .i64 pan) ∧ W'.cell? ⟨p3, 4, none⟩ = some (.string word) ∧ W'.cell? ⟨p3, 5, none⟩ = some (.int .i64 sid)) (by kernel_rfl) (ss_cells (I1.out.below (Below.refl x1.heap.size x1).drew) (((Below.refl x1.heap.size x1).drew.block _ (Array.getElem?_eq_some_iff.1 S2.out).1).trans S2.out)) (fun hS => ?_)
  have bd := (Below.refl x1.heap.size x1).drew
  have S2d := Lib.hid ((bd.block _ (Array.getElem?_eq_some_iff.1 S2.out).1).trans S2.out)
  have B1d : Hid (Below x1.heap.size x1 x1.drew) := Lib.hid bd
  have HBR : Hid (B ≤ wd.heap.size) := Lib.hid HBWD.out
  generalize x1.drew = x1d at *
  clear bd
  refine wpAnyH_take (i := 0) (v := ?_) rfl (by kernel_rfl) (by kernel_rfl) (by kernel_rfl) (fun _ _ _ h => h) (Or.inl ⟨by kernel_rfl, ?_⟩) hS ?_
  rotate_left
  · intro w _
    go_simp
    try with_reducible rfl
  simp only [Act.put, List.getElem_toArray, List.getElem_cons_zero, List.getElem_cons_succ, List.setIfInBounds_toArray, List.set_cons_zero, List.set_cons_succ]
  refine wpAnyH_take (i := 1) (v := ?_) rfl (by kernel_rfl) (by kernel_rfl) (by kernel_rfl) (fun _ _ _ h => h) (Or.inl ⟨by kernel_rfl, ?_⟩) hS ?_
  rotate_left
  · intro w _
    go_simp
    try with_reducible rfl
  simp only [Act.put, List.getElem_toArray, List.getElem_cons_zero, List.getElem_cons_succ, List.setIfInBounds_toArray, List.set_cons_zero, List.set_cons_succ]
  refine wpAnyH_take (i := 2) (v := ?_) rfl (by kernel_rfl) (by kernel_rfl) (by kernel_rfl) (fun _ _ _ h => h) (Or.inl ⟨by kernel_rfl, ?_⟩) hS ?_
  rotate_left
  · intro w _
    go_simp
    try with_reducible rfl
  simp only [Act.put, List.getElem_toArray, List.getElem_cons_zero, List.getElem_cons_succ, List.setIfInBounds_toArray, List.set_cons_zero, List.set_cons_succ]
  refine wpAnyH_take (i := 3) (v := ?_) rfl (by kernel_rfl) (by kernel_rfl) (by kernel_rfl) (fun _ _ _ h => h) (Or.inl ⟨by kernel_rfl, ?_⟩) hS ?_
  rotate_left
  · intro w hSw
    try dsimp only at hSw
    go_split_ands
    go_simp
    try with_reducible rfl
  simp only [Act.put, List.getElem_toArray, List.getElem_cons_zero, List.getElem_cons_succ, List.setIfInBounds_toArray, List.set_cons_zero, List.set_cons_succ]
  refine wpAnyH_take (i := 4) (v := ?_) rfl (by kernel_rfl) (by kernel_rfl) (by kernel_rfl) (fun _ _ _ h => h) (Or.inl ⟨by kernel_rfl, ?_⟩) hS ?_
  rotate_left
  · intro w _
    go_simp
    try with_reducible rfl
  simp only [Act.put, List.getElem_toArray, List.getElem_cons_zero, List.getElem_cons_succ, List.setIfInBounds_toArray, List.set_cons_zero, List.set_cons_succ]
  refine wpAnyH_take (i := 5) (v := ?_) rfl (by kernel_rfl) (by kernel_rfl) (by kernel_rfl) (fun _ _ _ h => h) (Or.inl ⟨by kernel_rfl, ?_⟩) hS ?_
  rotate_left
  · intro w hSw
    try dsimp only at hSw
    go_split_ands
    go_simp
    try with_reducible rfl
  simp only [Act.put, List.getElem_toArray, List.getElem_cons_zero, List.getElem_cons_succ, List.setIfInBounds_toArray, List.set_cons_zero, List.set_cons_succ]
  refine wpAnyH_ready (rs := [6]) (by kernel_rfl) (by simp) (AllReadyH.cons rfl (fun K hK => ?_) AllReadyH.nil)
  go_simp
  go_at_call 41
  refine (KK.out x1d (Rel.below B1d.out)).mono ?_
  rintro e x3 ⟨u, rfl, hrow3, hs⟩
  obtain ⟨au, cu, rfl⟩ := own_slice hrow3
  have FF := Lib.hid (fin_ok BB1.out HBW.out T1.out (Rel.below B1d.out) hs)
  have S4 := Lib.hid (step_SD S2d.out hs.1)
  have ROV := Lib.hid (own_rel (own_below ROW.out B1d.out) hs.1 (fun _ _ _ _ => SD_no (by decide) (by decide) _ _ _))
  have ROW3 := Lib.hid hrow3
  have HB3 : Hid (B ≤ x3.heap.size) := Lib.hid (Nat.le_trans HBW.out (Nat.le_trans T1.out.size (Nat.le_trans B1d.out.size hs.1.size)))
  obtain ⟨N3, I3⟩ := hs.2.2
  have I3 := Lib.hid I3
  clear hs KK hrow3 ROW
  refine hK.out _ _ (ss_cells I3.out S4.out) (fun hS2 => ?_)
  clear hK K hS
  have hS := hS2
  clear hS2
  try simp only [Act.put, List.getElem_toArray, List.getElem_cons_zero, List.getElem_cons_succ, List.setIfInBounds_toArray, List.set_cons_zero, List.set_cons_succ]
  refine wpAnyH_take (i := 7) (v := ?_) rfl (by kernel_rfl) (by kernel_rfl) (by kernel_rfl) (fun _ _ _ h => h) (Or.inl ⟨by kernel_rfl, ?_⟩) hS ?_
  rotate_left
  · intro w _
    go_simp
    try with_reducible rfl
  simp only [Act.put, List.getElem_toArray, List.getElem_cons_zero, List.getElem_cons_succ, List.setIfInBounds_toArray, List.set_cons_zero, List.set_cons_succ]
  refine wpAnyH_take (i := 8) (v := ?_) rfl (by kernel_rfl) (by kernel_rfl) (by kernel_rfl) (fun _ _ _ h => h) (Or.inl ⟨by kernel_rfl, ?_⟩) hS ?_
  rotate_left
  · intro w _
    go_simp
    try with_reducible rfl
  simp only [Act.put, List.getElem_toArray, List.getElem_cons_zero, List.getElem_cons_succ, List.setIfInBounds_toArray, List.set_cons_zero, List.set_cons_succ]
  refine wpAnyH_take (i := 9) (v := ?_) rfl (by kernel_rfl) (by kernel_rfl) (by kernel_rfl) (fun _ _ _ h => h) (Or.inl ⟨by kernel_rfl, ?_⟩) hS ?_
  rotate_left
  · intro w _
    go_simp
    try with_reducible rfl
  simp only [Act.put, List.getElem_toArray, List.getElem_cons_zero, List.getElem_cons_succ, List.setIfInBounds_toArray, List.set_cons_zero, List.set_cons_succ]
  refine wpAnyH_take (i := 10) (v := ?_) rfl (by kernel_rfl) (by kernel_rfl) (by kernel_rfl) (fun _ _ _ h => h) (Or.inl ⟨by kernel_rfl, ?_⟩) hS ?_
  rotate_left
  · intro w _
    go_simp
    try with_reducible rfl
  simp only [Act.put, List.getElem_toArray, List.getElem_cons_zero, List.getElem_cons_succ, List.setIfInBounds_toArray, List.set_cons_zero, List.set_cons_succ]
  refine wpAnyH_take (i := 11) (v := ?_) rfl (by kernel_rfl) (by kernel_rfl) (by kernel_rfl) (fun _ _ _ h => h) (Or.inl ⟨by kernel_rfl, ?_⟩) hS ?_
  rotate_left
  · intro w _
    go_simp
    try with_reducible rfl
  simp only [Act.put, List.getElem_toArray, List.getElem_cons_zero, List.getElem_cons_succ, List.setIfInBounds_toArray, List.set_cons_zero, List.set_cons_succ]
  refine wpAnyH_done (by kernel_rfl) ?_ _
  obtain ⟨n, hn⟩ : ∃ n, Z.length = n := ⟨_, rfl⟩
  have HN := Lib.hid hn
  rw [hn] at ROV ROW3 HZ HFL ⊢
  obtain ⟨i0, hi, hz0, hz1, hz2⟩ := info_parts infoI
  obtain ⟨d, hd⟩ : ∃ d, (ct : Int) - 1 = d := ⟨_, rfl⟩
  have HD := Lib.hid hd
  have wc1 : wrap64 ((ct : Int) - 1) = d := by
    rw [hd]
    exact IntWalk.wrap64_in _ (by have := HCL.out; omega)
  clear hn hd S2 S2d S4 T1 I1 B1d HBWD hS
  go_wp2_with fail
  go_loopg [19, 20] n (fun r v19 v20 wr => ∃ k : Nat, k ≤ n ∧ r = n - k ∧ v20 = .int .i64 k ∧ Hid (Below x3.heap.size x3 wr ∧ wr.ownsRow x3.heap.size 3 1 v19 k (ic (Fl.take k))))
  case atStart => exact ⟨0, Nat.zero_le _, rfl, rfl, Lib.hid ⟨Below.refl _ _, World.ownsRow_nil _ _ _ _⟩⟩
  case round =>
    obtain ⟨k, hk, hr, rfl, hq⟩ := hrel
    have HR := Lib.hid hr
    have BQ := Lib.hid hq.out.1
    have OQ := Lib.hid hq.out.2
    clear hr hq
    by_cases hlt : k < n
    · have HLT := Lib.hid hlt
      obtain ⟨ek, hek⟩ : ∃ x, wrap64 (d - (k : Int)) = x := ⟨_, rfl⟩
      have hkF : k < Fl.length := by rw [HFL.out]; exact hlt
      have EK : Hid (Fl.take (k + 1) = Fl.take k ++ [ek]) := Lib.hid (by
        have e : Fl[k] = ek := by
          rw [← hek, HF.out k hkF, HCT.out, ← HD.out]
          exact (IntWalk.wrap64_in _ (by have h1 := HCL.out; have h2 := HZ.out; omega)).symm
        rw [List.take_succ_eq_append_getElem hkF, e])
      obtain ⟨h1, h2, wk⟩ := idxD hlt HZ.out
      obtain ⟨hb1, hb2⟩ := roomI (n := k) (by have := HZ.out; omega)
      have hbz : x3.heap.size ≤ (wr.alloc (.cells #[.int .i64 ek] 3)).heap.size := by rw [sz_alloc]; exact Nat.le_succ_of_le BQ.out.size
      clear hlt hkF hk
      go_wp2_with (refine wpList_append_own _ rfl (.tmp 193) (.tmp 198) 30 rfl x3.heap.size 3 i0 (.int .i64 0) 1 8 Try.underlying30 hi hz0 hz1 hz2 rfl (by decide) _ k (ic (Fl.take k)) rfl (OQ.out.alloc _) ⟨wr.heap.size, 0, none⟩ 1 1 [.int .i64 ek] (by rfl) rfl (World.news_of_block (cs := #[.int .i64 ek]) (t := 3) (fr := (0, 0)) (heap_alloc_new wr _)) (ones _) hb1 hb2 hbz ?_)
      intro v5 w5 hrow5 hgrow5 hnn5
      have ba : Below wr.heap.size wr (wr.alloc (.cells #[.int .i64 ek] 3)) := (Below.refl _ wr).alloc (Nat.le_refl _) _
      have FIN5 : Hid (Below x3.heap.size x3 w5 ∧ w5.ownsRow x3.heap.size 3 1 v5 (k + 1) (ic (Fl.take (k + 1)))) := Lib.hid (by
        refine ⟨(BQ.out.trans (ba.mono BQ.out.size)).grown hgrow5 (by rw [sz_alloc]; exact Nat.le_succ_of_le BQ.out.size) (fun j hj => (OQ.out.lt j hj).1), ?_⟩
        rw [EK.out, ic_snoc]
        exact hrow5)
      clear hrow5 hgrow5 hnn5 ba hek
      go_wp2_with fail
      go_roundg (n - (k + 1))
      case measure => exact measD HR.out HLT.out
      case rel => exact ⟨k + 1, HLT.out, rfl, by first | rfl | (rw [wk]; rfl), FIN5⟩
    · obtain rfl : n = k := by omega
      have fe := OQ.out
      rw [List.take_of_length_le (by rw [HFL.out]; exact Nat.le_refl _)] at fe
      have FE := Lib.hid fe
      clear fe
      have CU := Lib.hid (undone_yes (I3.out.below BQ.out) (own_below ROV.out BQ.out) (own_below ROW3.out BQ.out) FE.out HN.out rfl HFL.out HZ.out)
      clear hk HR
      go_wp2_with fail
      refine CU.out.mono ?_
      rintro e x5 ⟨rfl, hr5⟩
      have FF5 := Lib.hid ((FF.out.or (Rel.below BQ.out) HB3.out).or (rel_SRs hr5 HBR.out) (Nat.le_trans HB3.out BQ.out.size))
      clear hr5 CU
      go_wp2_with fail
      go_ret
      exact ⟨rfl, FF5.out⟩
end Go.Proofs.Ytnkababhgloclaa
