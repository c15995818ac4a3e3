/- ProbeBags: a step of the play, kind by kind. (Printed by tools/genplayg.py.) -/
import Derived.Test.YtnkababhgloclaaPlayG
namespace Go.Proofs.Ytnkababhgloclaa
open Go.RowKit Go.ChangeShapes
set_option maxHeartbeats 8000000 in
set_option maxRecDepth 100000 in
theorem step_keeps {w : World} {B q b m : Nat} {L : List Th} {last : Int} {closed : Bool} (h : PS w B q b m L last closed) (hI : ∃ N0 c f, PlayI w q b m N0 c f) (hl : last ≤ 100000) (s : St) (hk : s.kind = 3) :
    Calls Try.prog 10 #[.pointer (some ⟨q, 0, none⟩), .agg s.cells.toArray] w fun e w' => e = .returned (.bool true) ∧ Fin w B q b m last w' := by
  obtain ⟨kind, name, code, pan, word, sid⟩ := s
  simp only at hk
  subst hk
  change Calls Try.prog 10 #[.pointer (some ⟨q, 0, none⟩), .agg #[.int .i64 (3), .string name, .int .i64 code, .int .i64 pan, .string word, .int .i64 sid]] w _
  obtain ⟨w1, hw1⟩ : ∃ x, x = ((w.alloc (.cells #[.int .i64 3, .string name, .int .i64 code, .int .i64 pan, .string word, .int .i64 sid] 36)).setCell ⟨q, 2, none⟩ (.slice none 0 0)).setCell ⟨q, 3, none⟩ (.slice none 0 0) := ⟨_, rfl⟩
  obtain ⟨ps1, pn1, s1, b1⟩ := h.start hI _ hw1
  obtain ⟨N0, c0, f0, hI⟩ := hI
  obtain ⟨wa, hwa⟩ : ∃ x, x = w.alloc (.cells #[.int .i64 3, .string name, .int .i64 code, .int .i64 pan, .string word, .int .i64 sid] 36) := ⟨_, rfl⟩
  have ha : PlayI wa q b m N0 c0 f0 := by
    rw [hwa]
    exact hI.below ((Below.refl _ w).alloc (Nat.le_refl _) _)
  have f2 := ha.frozen 2
  have f3 := ha.frozen 3
  obtain ⟨ac, cc, af, cf, e0, e1, e2, e3, e4, _, _⟩ := ha.cells
  rw [← hwa] at hw1
  have HWA := Lib.hid hwa
  have HW1 := Lib.hid hw1
  have PS1 := Lib.hid ps1
  have PN1 := Lib.hid pn1
  have BB1 := Lib.hid b1
  have HBW : Hid (B ≤ w1.heap.size) := Lib.hid ps1.hBw
  have HL := Lib.hid hl
  obtain ⟨p3, hp3⟩ : ∃ p, p = w.heap.size := ⟨_, rfl⟩
  rw [← hp3] at s1
  have HP3 := Lib.hid hp3
  have S1 := Lib.hid s1
  have P3N : Hid (p3 < w1.heap.size) := Lib.hid (Array.getElem?_eq_some_iff.1 s1).1
  obtain ⟨r0, r1, y0, y1, y2, y3, y4, y5⟩ := ss_cells (pn1.to 0) s1
  clear h hI hl hw1 ps1 pn1 b1 hp3 s1 ha hwa
  go_enter Try.func10, Try.ntmps10
  go_upto_region 1 with fail
  rw [← HWA.out, ← HP3.out]
  go_upto_region 3 with fail
  rw [← HW1.out]
  clear f2 f3 e0 e1 e2 e3 e4 HW1 HP3 HWA
  go_upto_region 16 with fail
  clear r0 r1 y0 y1 y2 y3 y4 y5
  refine wp_region_held_drew (S := fun W' => W'.cell? ⟨q, 0, none⟩ = some (.pointer (some ⟨b, 0, none⟩)) ∧ W'.cell? ⟨q, 1, none⟩ = some (.pointer (some ⟨m, 0, none⟩)) ∧ W'.cell? ⟨p3, 0, none⟩ = some (.int .i64 3) ∧ W'.cell? ⟨p3, 1, none⟩ = some (.string name) ∧ W'.cell? ⟨p3, 2, none⟩ = some (.int .i64 code) ∧ W'.cell? ⟨p3, 3, none⟩ = some (.int .i64 pan) ∧ W'.cell? ⟨p3, 4, none⟩ = some (.string word) ∧ W'.cell? ⟨p3, 5, none⟩ = some (.int .i64 sid)) (by kernel_rfl) (ss_cells ((PN1.out.to 0).below (Below.refl w1.heap.size w1).drew) (((Below.refl w1.heap.size w1).drew.block _ P3N.out).trans S1.out)) (fun hS => ?_)
  have bd := (Below.refl w1.heap.size w1).drew
  have PSD := Lib.hid (PS1.out.below bd)
  have PND := Lib.hid (PN1.out.below bd)
  have SD3 := Lib.hid ((bd.block _ P3N.out).trans S1.out)
  have BD : Hid (Below w1.heap.size w1 w1.drew) := Lib.hid bd
  generalize w1.drew = wd at *
  clear bd
  have JK := Lib.hid (jkeep PSD.out (PND.out.to 0) sid)
  refine wpAnyH_take (i := 0) (v := ?_) rfl (by kernel_rfl) (by kernel_rfl) (by kernel_rfl) (fun _ _ _ h => h) (Or.inl ⟨by kernel_rfl, ?_⟩) hS ?_
  rotate_left
  · intro w _
    go_simp
    try with_reducible rfl
  simp only [Act.put, List.getElem_toArray, List.getElem_cons_zero, List.getElem_cons_succ, List.setIfInBounds_toArray, List.set_cons_zero, List.set_cons_succ]
  refine wpAnyH_take (i := 1) (v := ?_) rfl (by kernel_rfl) (by kernel_rfl) (by kernel_rfl) (fun _ _ _ h => h) (Or.inl ⟨by kernel_rfl, ?_⟩) hS ?_
  rotate_left
  · intro w _
    go_simp
    try with_reducible rfl
  simp only [Act.put, List.getElem_toArray, List.getElem_cons_zero, List.getElem_cons_succ, List.setIfInBounds_toArray, List.set_cons_zero, List.set_cons_succ]
  refine wpAnyH_take (i := 2) (v := ?_) rfl (by kernel_rfl) (by kernel_rfl) (by kernel_rfl) (fun _ _ _ h => h) (Or.inl ⟨by kernel_rfl, ?_⟩) hS ?_
  rotate_left
  · intro w _
    go_simp
    try with_reducible rfl
  simp only [Act.put, List.getElem_toArray, List.getElem_cons_zero, List.getElem_cons_succ, List.setIfInBounds_toArray, List.set_cons_zero, List.set_cons_succ]
  refine wpAnyH_take (i := 3) (v := ?_) rfl (by kernel_rfl) (by kernel_rfl) (by kernel_rfl) (fun _ _ _ h => h) (Or.inl ⟨by kernel_rfl, ?_⟩) hS ?_
  rotate_left
  · intro w hSw
    try dsimp only at hSw
    go_split_ands
    go_simp
    try with_reducible rfl
  simp only [Act.put, List.getElem_toArray, List.getElem_cons_zero, List.getElem_cons_succ, List.setIfInBounds_toArray, List.set_cons_zero, List.set_cons_succ]
  refine wpAnyH_take (i := 4) (v := ?_) rfl (by kernel_rfl) (by kernel_rfl) (by kernel_rfl) (fun _ _ _ h => h) (Or.inl ⟨by kernel_rfl, ?_⟩) hS ?_
  rotate_left
  · intro w _
    go_simp
    try with_reducible rfl
  simp only [Act.put, List.getElem_toArray, List.getElem_cons_zero, List.getElem_cons_succ, List.setIfInBounds_toArray, List.set_cons_zero, List.set_cons_succ]
  refine wpAnyH_take (i := 5) (v := ?_) rfl (by kernel_rfl) (by kernel_rfl) (by kernel_rfl) (fun _ _ _ h => h) (Or.inl ⟨by kernel_rfl, ?_⟩) hS ?_
  rotate_left
  · intro w hSw
    try dsimp only at hSw
    go_split_ands
    go_simp
    try with_reducible rfl
  simp only [Act.put, List.getElem_toArray, List.getElem_cons_zero, List.getElem_cons_succ, List.setIfInBounds_toArray, List.set_cons_zero, List.set_cons_succ]
  refine wpAnyH_take (i := 7) (v := ?_) rfl (by kernel_rfl) (by kernel_rfl) (by kernel_rfl) (fun _ _ _ h => h) (Or.inl ⟨by kernel_rfl, ?_⟩) hS ?_
  rotate_left
  · intro w _
    go_simp
    try with_reducible rfl
  simp only [Act.put, List.getElem_toArray, List.getElem_cons_zero, List.getElem_cons_succ, List.setIfInBounds_toArray, List.set_cons_zero, List.set_cons_succ]
  refine wpAnyH_take (i := 8) (v := ?_) rfl (by kernel_rfl) (by kernel_rfl) (by kernel_rfl) (fun _ _ _ h => h) (Or.inl ⟨by kernel_rfl, ?_⟩) hS ?_
  rotate_left
  · intro w _
    go_simp
    try with_reducible rfl
  simp only [Act.put, List.getElem_toArray, List.getElem_cons_zero, List.getElem_cons_succ, List.setIfInBounds_toArray, List.set_cons_zero, List.set_cons_succ]
  refine wpAnyH_take (i := 9) (v := ?_) rfl (by kernel_rfl) (by kernel_rfl) (by kernel_rfl) (fun _ _ _ h => h) (Or.inl ⟨by kernel_rfl, ?_⟩) hS ?_
  rotate_left
  · intro w _
    go_simp
    try with_reducible rfl
  simp only [Act.put, List.getElem_toArray, List.getElem_cons_zero, List.getElem_cons_succ, List.setIfInBounds_toArray, List.set_cons_zero, List.set_cons_succ]
  refine wpAnyH_take (i := 10) (v := ?_) rfl (by kernel_rfl) (by kernel_rfl) (by kernel_rfl) (fun _ _ _ h => h) (Or.inl ⟨by kernel_rfl, ?_⟩) hS ?_
  rotate_left
  · intro w hSw
    try dsimp only at hSw
    go_split_ands
    go_simp
    try with_reducible rfl
  simp only [Act.put, List.getElem_toArray, List.getElem_cons_zero, List.getElem_cons_succ, List.setIfInBounds_toArray, List.set_cons_zero, List.set_cons_succ]
  refine wpAnyH_take (i := 11) (v := ?_) rfl (by kernel_rfl) (by kernel_rfl) (by kernel_rfl) (fun _ _ _ h => h) (Or.inl ⟨by kernel_rfl, ?_⟩) hS ?_
  rotate_left
  · intro w _
    go_simp
    try with_reducible rfl
  simp only [Act.put, List.getElem_toArray, List.getElem_cons_zero, List.getElem_cons_succ, List.setIfInBounds_toArray, List.set_cons_zero, List.set_cons_succ]
  refine wpAnyH_take (i := 12) (v := ?_) rfl (by kernel_rfl) (by kernel_rfl) (by kernel_rfl) (fun _ _ _ h => h) (Or.inl ⟨by kernel_rfl, ?_⟩) hS ?_
  rotate_left
  · intro w hSw
    try dsimp only at hSw
    go_split_ands
    go_simp
    try with_reducible rfl
  simp only [Act.put, List.getElem_toArray, List.getElem_cons_zero, List.getElem_cons_succ, List.setIfInBounds_toArray, List.set_cons_zero, List.set_cons_succ]
  refine wpAnyH_ready (rs := [6]) (by kernel_rfl) (by simp) (AllReadyH.cons rfl (fun K hK => ?_) AllReadyH.nil)
  go_simp
  go_at_call 34
  refine JK.out.mono ?_
  rintro e x1 ⟨vy, rfl, hT, hI1, hK1⟩
  have T1 := Lib.hid ((Rel.below (S := TY wd.heap.size) (B := B) BD.out).trans hT)
  have S2 := Lib.hid (step_TY SD3.out hT)
  have I1 := Lib.hid hI1
  have KK := Lib.hid (hK1 x1 (Rel.refl _ _ _))
  have hyy : (vy == vy) = true := by simp
  clear hT hI1 hK1 JK
  refine hK.out _ _ (ss_cells I1.out S2.out) (fun hS2 => ?_)
  clear hK K hS
  have hS := hS2
  clear hS2
  try simp only [Act.put, List.getElem_toArray, List.getElem_cons_zero, List.getElem_cons_succ, List.setIfInBounds_toArray, List.set_cons_zero, List.set_cons_succ]
  refine wpAnyH_ready (rs := [13]) (by kernel_rfl) (by simp) (AllReadyH.cons rfl (fun K hK => ?_) AllReadyH.nil)
  go_simp
  go_at_call 40
  refine KK.out.mono ?_
  rintro e x3 ⟨rfl, hs⟩
  have FF := Lib.hid (fin_ok BB1.out HBW.out T1.out (Rel.refl _ _ _) hs)
  have S4 := Lib.hid (step_SD S2.out hs.1)
  have HB3 : Hid (B ≤ x3.heap.size) := Lib.hid (Nat.le_trans HBW.out (Nat.le_trans T1.out.size hs.1.size))
  obtain ⟨N3, I3⟩ := hs.2.2
  have I3 := Lib.hid I3
  have CU := Lib.hid (undone_yes (n := 0) (Nr := B) (Nw := 0) (Nf := 0) (Z := []) I3.out (World.ownsRow_nil _ _ _ _) (World.ownsRow_nil _ _ _ _) (World.ownsRow_nil _ _ _ _) rfl rfl rfl (by decide))
  clear hs KK T1 I1 S2
  refine hK.out _ _ (ss_cells I3.out S4.out) (fun hS2 => ?_)
  clear hK K hS
  have hS := hS2
  clear hS2
  try simp only [Act.put, List.getElem_toArray, List.getElem_cons_zero, List.getElem_cons_succ, List.setIfInBounds_toArray, List.set_cons_zero, List.set_cons_succ]
  refine wpAnyH_take (i := 14) (v := ?_) rfl (by kernel_rfl) (by kernel_rfl) (by kernel_rfl) (fun _ _ _ h => h) (Or.inl ⟨by kernel_rfl, ?_⟩) hS ?_
  rotate_left
  · intro w _
    go_simp
    try with_reducible rfl
  simp only [Act.put, List.getElem_toArray, List.getElem_cons_zero, List.getElem_cons_succ, List.setIfInBounds_toArray, List.set_cons_zero, List.set_cons_succ]
  refine wpAnyH_take (i := 15) (v := ?_) rfl (by kernel_rfl) (by kernel_rfl) (by kernel_rfl) (fun _ _ _ h => h) (Or.inl ⟨by kernel_rfl, ?_⟩) hS ?_
  rotate_left
  · intro w _
    go_simp
    try with_reducible rfl
  simp only [Act.put, List.getElem_toArray, List.getElem_cons_zero, List.getElem_cons_succ, List.setIfInBounds_toArray, List.set_cons_zero, List.set_cons_succ]
  refine wpAnyH_take (i := 16) (v := ?_) rfl (by kernel_rfl) (by kernel_rfl) (by kernel_rfl) (fun _ _ _ h => h) (Or.inl ⟨by kernel_rfl, ?_⟩) hS ?_
  rotate_left
  · intro w _
    go_simp
    try with_reducible rfl
  simp only [Act.put, List.getElem_toArray, List.getElem_cons_zero, List.getElem_cons_succ, List.setIfInBounds_toArray, List.set_cons_zero, List.set_cons_succ]
  refine wpAnyH_ready (rs := [17]) (by kernel_rfl) (by simp) (AllReadyH.cons rfl (fun K hK => ?_) AllReadyH.nil)
  go_simp
  go_at_call 16
  refine CU.out.mono ?_
  rintro e x5 ⟨rfl, hr5⟩
  have FF5 := Lib.hid (FF.out.or (rel_SRs hr5 (Nat.le_refl _)) HB3.out)
  have I5 := Lib.hid (play_OR (B := B) I3.out (rel_SRs hr5 (Nat.le_refl _)))
  have S5 := Lib.hid (step_OR S4.out (rel_SRs hr5 (Nat.le_refl _)))
  clear hr5 CU
  refine hK.out _ _ (ss_cells I5.out S5.out) (fun hS2 => ?_)
  clear hK K hS
  have hS := hS2
  clear hS2
  try simp only [Act.put, List.getElem_toArray, List.getElem_cons_zero, List.getElem_cons_succ, List.setIfInBounds_toArray, List.set_cons_zero, List.set_cons_succ]
  refine wpAnyH_take (i := 18) (v := ?_) rfl (by kernel_rfl) (by kernel_rfl) (by kernel_rfl) (fun _ _ _ h => h) (Or.inl ⟨by kernel_rfl, ?_⟩) hS ?_
  rotate_left
  · intro w _
    go_simp
    try with_reducible rfl
  simp only [Act.put, List.getElem_toArray, List.getElem_cons_zero, List.getElem_cons_succ, List.setIfInBounds_toArray, List.set_cons_zero, List.set_cons_succ]
  refine wpAnyH_take (i := 19) (v := ?_) rfl (by kernel_rfl) (by kernel_rfl) (by kernel_rfl) (fun _ _ _ h => h) (Or.inl ⟨by kernel_rfl, ?_⟩) hS ?_
  rotate_left
  · intro w _
    go_simp
    try with_reducible rfl
  simp only [Act.put, List.getElem_toArray, List.getElem_cons_zero, List.getElem_cons_succ, List.setIfInBounds_toArray, List.set_cons_zero, List.set_cons_succ]
  refine wpAnyH_done (by kernel_rfl) ?_ _
  go_wp2_with fail
  go_ret
  exact ⟨rfl, FF5.out⟩
set_option maxHeartbeats 8000000 in
set_option maxRecDepth 100000 in
theorem step_closes {w : World} {B q b m : Nat} {L : List Th} {last : Int} {closed : Bool} (h : PS w B q b m L last closed) (hI : ∃ N0 c f, PlayI w q b m N0 c f) (hl : last ≤ 100000) (s : St) (hk : s.kind = 5) :
    Calls Try.prog 10 #[.pointer (some ⟨q, 0, none⟩), .agg s.cells.toArray] w fun e w' => e = .returned (.bool true) ∧ Fin w B q b m last w' := by
  obtain ⟨kind, name, code, pan, word, sid⟩ := s
  simp only at hk
  subst hk
  change Calls Try.prog 10 #[.pointer (some ⟨q, 0, none⟩), .agg #[.int .i64 (5), .string name, .int .i64 code, .int .i64 pan, .string word, .int .i64 sid]] w _
  obtain ⟨w1, hw1⟩ : ∃ x, x = ((w.alloc (.cells #[.int .i64 5, .string name, .int .i64 code, .int .i64 pan, .string word, .int .i64 sid] 36)).setCell ⟨q, 2, none⟩ (.slice none 0 0)).setCell ⟨q, 3, none⟩ (.slice none 0 0) := ⟨_, rfl⟩
  obtain ⟨ps1, pn1, s1, b1⟩ := h.start hI _ hw1
  obtain ⟨N0, c0, f0, hI⟩ := hI
  obtain ⟨wa, hwa⟩ : ∃ x, x = w.alloc (.cells #[.int .i64 5, .string name, .int .i64 code, .int .i64 pan, .string word, .int .i64 sid] 36) := ⟨_, rfl⟩
  have ha : PlayI wa q b m N0 c0 f0 := by
    rw [hwa]
    exact hI.below ((Below.refl _ w).alloc (Nat.le_refl _) _)
  have f2 := ha.frozen 2
  have f3 := ha.frozen 3
  obtain ⟨ac, cc, af, cf, e0, e1, e2, e3, e4, _, _⟩ := ha.cells
  rw [← hwa] at hw1
  have HWA := Lib.hid hwa
  have HW1 := Lib.hid hw1
  have PS1 := Lib.hid ps1
  have PN1 := Lib.hid pn1
  have BB1 := Lib.hid b1
  have HBW : Hid (B ≤ w1.heap.size) := Lib.hid ps1.hBw
  have HL := Lib.hid hl
  obtain ⟨p3, hp3⟩ : ∃ p, p = w.heap.size := ⟨_, rfl⟩
  rw [← hp3] at s1
  have HP3 := Lib.hid hp3
  have S1 := Lib.hid s1
  have P3N : Hid (p3 < w1.heap.size) := Lib.hid (Array.getElem?_eq_some_iff.1 s1).1
  obtain ⟨r0, r1, y0, y1, y2, y3, y4, y5⟩ := ss_cells (pn1.to 0) s1
  clear h hI hl hw1 ps1 pn1 b1 hp3 s1 ha hwa
  go_enter Try.func10, Try.ntmps10
  go_upto_region 1 with fail
  rw [← HWA.out, ← HP3.out]
  go_upto_region 3 with fail
  rw [← HW1.out]
  clear f2 f3 e0 e1 e2 e3 e4 HW1 HP3 HWA
  have J := Lib.hid (jclose PS1.out (PN1.out.to _))
  go_wp2_with fail
  refine J.out.mono ?_
  rintro e x1 ⟨v, vy, Z, rfl, hrow, hT, hI1, hZ, hK⟩
  obtain ⟨av, cv, rfl⟩ := own_slice hrow
  have T1 := Lib.hid hT
  have K1 := Lib.hid (hK x1 (Rel.refl _ _ _))
  have ROW := Lib.hid hrow
  have HZ := Lib.hid hZ
  have S2 := Lib.hid (step_TY S1.out hT)
  obtain ⟨r0', r1', _⟩ := ss_cells hI1 S2.out
  clear hT hI1 hK hrow hZ r0 r1 y0 y1 y2 y3 y4 y5 J
  go_wp2_with fail
  refine K1.out.mono ?_
  rintro e x3 ⟨u, rfl, hrow3, hs⟩
  obtain ⟨au, cu, rfl⟩ := own_slice hrow3
  have FF := Lib.hid (fin_ok BB1.out HBW.out T1.out (Rel.refl _ _ _) hs)
  have ROV := Lib.hid (own_rel ROW.out hs.1 (fun _ _ _ _ => SD_no (by decide) (by decide) _ _ _))
  have ROW3 := Lib.hid hrow3
  obtain ⟨N3, I3⟩ := hs.2.2
  have I3 := Lib.hid I3
  have HB3 : Hid (B ≤ x3.heap.size) := Lib.hid (Nat.le_trans HBW.out (Nat.le_trans T1.out.size hs.1.size))
  obtain ⟨n, hn⟩ : ∃ n, Z.length = n := ⟨_, rfl⟩
  have HN := Lib.hid hn
  rw [hn] at ROV ROW3 I3 HZ
  rw [hn]
  obtain ⟨x4, hmk, hm, hb4⟩ := make_ints x3 n HZ.out
  have CU := Lib.hid (undone_yes (I3.out.below hb4) (own_below ROV.out hb4) (own_below ROW3.out hb4) hm HN.out rfl (by simp) HZ.out)
  have B4 := Lib.hid hb4
  have hyy : (vy == vy) = true := by simp
  clear hs r0' r1' hrow3 hn hm hb4 ROW K1
  go_wp2_with fail
  refine CU.out.mono ?_
  rintro e x5 ⟨rfl, hr5⟩
  have FF5 := Lib.hid ((FF.out.or (Rel.below B4.out) HB3.out).or (rel_SRs hr5 HBW.out) (Nat.le_trans HB3.out B4.out.size))
  clear hr5 CU hmk
  go_wp2_with fail
  go_ret
  exact ⟨rfl, FF5.out⟩
set_option maxHeartbeats 8000000 in
set_option maxRecDepth 100000 in
theorem step_nils {w : World} {B q b m : Nat} {L : List Th} {last : Int} {closed : Bool} (h : PS w B q b m L last closed) (hI : ∃ N0 c f, PlayI w q b m N0 c f) (hl : last ≤ 100000) (s : St) (hk : s.kind = 6) :
    Calls Try.prog 10 #[.pointer (some ⟨q, 0, none⟩), .agg s.cells.toArray] w fun e w' => e = .returned (.bool true) ∧ Fin w B q b m last w' := by
  obtain ⟨kind, name, code, pan, word, sid⟩ := s
  simp only at hk
  subst hk
  change Calls Try.prog 10 #[.pointer (some ⟨q, 0, none⟩), .agg #[.int .i64 (6), .string name, .int .i64 code, .int .i64 pan, .string word, .int .i64 sid]] w _
  obtain ⟨w1, hw1⟩ : ∃ x, x = ((w.alloc (.cells #[.int .i64 6, .string name, .int .i64 code, .int .i64 pan, .string word, .int .i64 sid] 36)).setCell ⟨q, 2, none⟩ (.slice none 0 0)).setCell ⟨q, 3, none⟩ (.slice none 0 0) := ⟨_, rfl⟩
  obtain ⟨ps1, pn1, s1, b1⟩ := h.start hI _ hw1
  obtain ⟨N0, c0, f0, hI⟩ := hI
  obtain ⟨wa, hwa⟩ : ∃ x, x = w.alloc (.cells #[.int .i64 6, .string name, .int .i64 code, .int .i64 pan, .string word, .int .i64 sid] 36) := ⟨_, rfl⟩
  have ha : PlayI wa q b m N0 c0 f0 := by
    rw [hwa]
    exact hI.below ((Below.refl _ w).alloc (Nat.le_refl _) _)
  have f2 := ha.frozen 2
  have f3 := ha.frozen 3
  obtain ⟨ac, cc, af, cf, e0, e1, e2, e3, e4, _, _⟩ := ha.cells
  rw [← hwa] at hw1
  have HWA := Lib.hid hwa
  have HW1 := Lib.hid hw1
  have PS1 := Lib.hid ps1
  have PN1 := Lib.hid pn1
  have BB1 := Lib.hid b1
  have HBW : Hid (B ≤ w1.heap.size) := Lib.hid ps1.hBw
  have HL := Lib.hid hl
  obtain ⟨p3, hp3⟩ : ∃ p, p = w.heap.size := ⟨_, rfl⟩
  rw [← hp3] at s1
  have HP3 := Lib.hid hp3
  have S1 := Lib.hid s1
  have P3N : Hid (p3 < w1.heap.size) := Lib.hid (Array.getElem?_eq_some_iff.1 s1).1
  obtain ⟨r0, r1, y0, y1, y2, y3, y4, y5⟩ := ss_cells (pn1.to 0) s1
  clear h hI hl hw1 ps1 pn1 b1 hp3 s1 ha hwa
  go_enter Try.func10, Try.ntmps10
  go_upto_region 1 with fail
  rw [← HWA.out, ← HP3.out]
  go_upto_region 3 with fail
  rw [← HW1.out]
  clear f2 f3 e0 e1 e2 e3 e4 HW1 HP3 HWA
  have M1 := Lib.hid (made_any w1 q 0 ⟨6, name, code, pan, word, sid⟩)
  go_upto_region 35 with (first | (go_at_call 42; refine M1.out.mono ?_; rintro e x1 ⟨p0, p1, p2, _, _, _, rfl, _, _, _, hb1⟩; have B1 := Lib.hid hb1; have S2 := Lib.hid ((hb1.block p3 P3N.out).trans S1.out); obtain ⟨u0, u1, u2, u3, u4, u5, u6, u7⟩ := ss_cells ((PN1.out.to 0).below hb1) S2.out; clear hb1 M1 r0 r1 y0 y1 y2 y3 y4 y5) | (go_at_call 26; refine (add_nil _ _ _).mono ?_; rintro e x2 ⟨rfl, h2⟩; have h2 := h2.symm; subst h2) | (go_at_call 25; refine (bmark_nil _).mono ?_; rintro e x2 ⟨rfl, h2⟩; have h2 := h2.symm; subst h2))
  go_wp2_with fail
  refine (undo_nil sid x1).mono ?_
  rintro e x4 ⟨rfl, hb4⟩
  have B4 := Lib.hid hb4
  have TH := Lib.hid (zr5_there x4)
  clear hb4
  go_wp2_with (refine wpList_store_all (by rfl) 83 (.tmp 30) (.tmp 260) (by rfl) x4.heap.size 0 zr5 (by kernel_rfl) (by kernel_rfl) TH.out (by kernel_rfl) (rcells_one 0 ⟨#[]⟩ (.ret 0)) ?_)
  intro x5 HX5
  have B5 : Hid (Below w1.heap.size w1 x5) := Lib.hid (by
    rw [HX5.out]
    exact B1.out.trans ((B4.out.trans ((((Below.refl x4.heap.size x4).alloc (Nat.le_refl _) _).trans (below_lay (Nat.le_refl _) _ _ _)).mono B4.out.size)).mono B1.out.size))
  have S5 := Lib.hid ((B5.out.block p3 P3N.out).trans S1.out)
  have FF : Hid (Fin w B q b m last x5) := Lib.hid ⟨⟨_, _, _, PS1.out.below B5.out, by omega⟩, ⟨0, [], [], (PN1.out.to 0).below B5.out⟩, BB1.out.trans (B5.out.mono HBW.out)⟩
  clear HX5 TH B4 u0 u1 u2 u3 u4 u5 u6 u7
  obtain ⟨u0, u1, u2, u3, u4, u5, u6, u7⟩ := ss_cells ((PN1.out.to 0).below B5.out) S5.out
  go_wp2_with (first | (go_at_call 34; refine (keep_nil _ _).mono ?_; rintro e x6 ⟨rfl, h6⟩; have h6 := h6.symm; subst h6) | (go_at_call 28; refine (bback_nil _ _).mono ?_; rintro e x6 ⟨rfl, h6⟩; have h6 := h6.symm; subst h6) | (go_at_call 14; refine (close_nil _).mono ?_; rintro e x6 ⟨rfl, h6⟩; have h6 := h6.symm; subst h6) | (go_at_call 26; refine (add_nofn b ⟨#[120]⟩ x5).mono ?_; rintro e x6 ⟨rfl, h6⟩; have h6 := h6.symm; subst h6) | (go_at_call 11; refine (held_nil _).mono ?_; rintro e x6 ⟨rfl, h6⟩; have h6 := h6.symm; subst h6))
  go_ret
  exact ⟨rfl, FF.out⟩
end Go.Proofs.Ytnkababhgloclaa
