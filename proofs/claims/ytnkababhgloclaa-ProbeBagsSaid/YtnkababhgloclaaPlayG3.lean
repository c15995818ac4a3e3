/- ProbeBags: a step of the play, kind by kind. (Printed by tools/genplayg.py.) -/
import Derived.Test.YtnkababhgloclaaPlayG
namespace Go.Proofs.Ytnkababhgloclaa
open Go.RowKit Go.ChangeShapes
set_option maxHeartbeats 8000000 in
set_option maxRecDepth 100000 in
theorem step_adds {w : World} {B q b m : Nat} {L : List Th} {last : Int} {closed : Bool} (h : PS w B q b m L last closed) (hI : ∃ N0 c f, PlayI w q b m N0 c f) (hl : last ≤ 100000) (s : St) (hk : s.kind ≠ 1 ∧ s.kind ≠ 2 ∧ s.kind ≠ 3 ∧ s.kind ≠ 4 ∧ s.kind ≠ 5 ∧ s.kind ≠ 6) :
    Calls Try.prog 10 #[.pointer (some ⟨q, 0, none⟩), .agg s.cells.toArray] w fun e w' => e = .returned (.bool true) ∧ Fin w B q b m last w' := by
  obtain ⟨kind, name, code, pan, word, sid⟩ := s
  simp only at hk
  have hk1 : (kind == 1) = false := beq_eq_false_iff_ne.2 hk.1
  have hk2 : (kind == 2) = false := beq_eq_false_iff_ne.2 hk.2.1
  have hk3 : (kind == 3) = false := beq_eq_false_iff_ne.2 hk.2.2.1
  have hk4 : (kind == 4) = false := beq_eq_false_iff_ne.2 hk.2.2.2.1
  have hk5 : (kind == 5) = false := beq_eq_false_iff_ne.2 hk.2.2.2.2.1
  have hk6 : (kind == 6) = false := beq_eq_false_iff_ne.2 hk.2.2.2.2.2
  change Calls Try.prog 10 #[.pointer (some ⟨q, 0, none⟩), .agg #[.int .i64 kind, .string name, .int .i64 code, .int .i64 pan, .string word, .int .i64 sid]] w _
  obtain ⟨w1, hw1⟩ : ∃ x, x = ((w.alloc (.cells #[.int .i64 kind, .string name, .int .i64 code, .int .i64 pan, .string word, .int .i64 sid] 36)).setCell ⟨q, 2, none⟩ (.slice none 0 0)).setCell ⟨q, 3, none⟩ (.slice none 0 0) := ⟨_, rfl⟩
  obtain ⟨ps1, pn1, s1, b1⟩ := h.start hI _ hw1
  obtain ⟨N0, c0, f0, hI⟩ := hI
  obtain ⟨wa, hwa⟩ : ∃ x, x = w.alloc (.cells #[.int .i64 kind, .string name, .int .i64 code, .int .i64 pan, .string word, .int .i64 sid] 36) := ⟨_, rfl⟩
  have ha : PlayI wa q b m N0 c0 f0 := by
    rw [hwa]
    exact hI.below ((Below.refl _ w).alloc (Nat.le_refl _) _)
  have f2 := ha.frozen 2
  have f3 := ha.frozen 3
  obtain ⟨ac, cc, af, cf, e0, e1, e2, e3, e4, _, _⟩ := ha.cells
  rw [← hwa] at hw1
  have HWA := Lib.hid hwa
  have HW1 := Lib.hid hw1
  have PS1 := Lib.hid ps1
  have PN1 := Lib.hid pn1
  have BB1 := Lib.hid b1
  have HBW : Hid (B ≤ w1.heap.size) := Lib.hid ps1.hBw
  have HL := Lib.hid hl
  obtain ⟨p3, hp3⟩ : ∃ p, p = w.heap.size := ⟨_, rfl⟩
  rw [← hp3] at s1
  have HP3 := Lib.hid hp3
  have S1 := Lib.hid s1
  have P3N : Hid (p3 < w1.heap.size) := Lib.hid (Array.getElem?_eq_some_iff.1 s1).1
  obtain ⟨r0, r1, y0, y1, y2, y3, y4, y5⟩ := ss_cells (pn1.to 0) s1
  clear h hI hl hw1 ps1 pn1 b1 hp3 s1 ha hwa hk
  go_enter Try.func10, Try.ntmps10
  go_upto_region 1 with fail
  rw [← HWA.out, ← HP3.out]
  go_upto_region 3 with fail
  rw [← HW1.out]
  clear f2 f3 e0 e1 e2 e3 e4 HW1 HP3 HWA
  have CT0 := thing_any w1 ⟨kind, name, code, pan, word, sid⟩
  obtain ⟨bc, hbc⟩ : ∃ x, (behS ⟨kind, name, code, pan, word, sid⟩).code = x := ⟨_, rfl⟩
  obtain ⟨bp, hbp⟩ : ∃ x, (behS ⟨kind, name, code, pan, word, sid⟩).pan = x := ⟨_, rfl⟩
  obtain ⟨bw, hbw⟩ : ∃ x, (behS ⟨kind, name, code, pan, word, sid⟩).word = x := ⟨_, rfl⟩
  have HBR : Hid (bare ⟨kind, name, code, pan, word, sid⟩ = ⟨0, false, name, bc, bp, bw⟩) := Lib.hid (by unfold bare; rw [hbc, hbp, hbw])
  rw [HBR.out] at CT0
  have CT0 : Calls Try.prog 43 #[.agg #[.int .i64 kind, .string name, .int .i64 code, .int .i64 pan, .string word, .int .i64 sid]] w1 fun e w' => e = .returned (.agg #[.int .i64 0, .bool false, .string name, .int .i64 bc, .bool bp, .string bw]) ∧ Below w1.heap.size w1 w' := CT0
  have CT := Lib.hid CT0
  clear CT0 hbc hbp hbw
  go_upto_region 41 with fail
  go_wp2_with (first | (refine CT.out.mono ?_; rintro e x1 ⟨rfl, hb1⟩; have B1 := Lib.hid hb1; have TH := Lib.hid (zt6_there x1); clear hb1 CT r0 r1 y0 y1 y2 y3 y4 y5) | (refine wpList_store_all (by rfl) 92 (.tmp 39) (.tmp 319) (by rfl) x1.heap.size 0 [.int .i64 0, .bool false, .string name, .int .i64 bc, .bool bp, .string bw] (by kernel_rfl) (by kernel_rfl) TH.out (by kernel_rfl) (rc6_one [⟨0, false, name, bc, bp, bw⟩]) ?_; intro x2 HX2))
  obtain ⟨p39, hp39⟩ : ∃ p, p = x1.heap.size := ⟨_, rfl⟩
  have B2 : Hid (Below w1.heap.size w1 x2) := Lib.hid (by
    rw [HX2.out]
    exact B1.out.trans ((((Below.refl x1.heap.size x1).alloc (Nat.le_refl _) _).trans (below_lay (Nat.le_refl _) _ _ _)).mono B1.out.size))
  have C39 : Hid (x2.heap[p39]? = some (.cells #[.int .i64 0, .bool false, .string name, .int .i64 bc, .bool bp, .string bw] 92 (0, 0))) := Lib.hid (by
    rw [HX2.out, hp39]
    exact lay6 (heap_alloc_new x1 _) rfl)
  rw [← hp39]
  have PS2 := Lib.hid (PS1.out.below B2.out)
  have PN2 := Lib.hid (PN1.out.below B2.out)
  have S2 := Lib.hid ((B2.out.block p3 P3N.out).trans S1.out)
  clear HX2 TH B1 hp39
  have wl : IntKind.i64.wrap (last + 1) = last + 1 := by
    have h1 := PS1.out.lo
    have h2 := HL.out
    rw [IntKind.wrap_i64]
    omega
  go_upto_region 42 with fail
  refine wp_region_held_drew (S := fun W' => W'.cell? ⟨q, 0, none⟩ = some (.pointer (some ⟨b, 0, none⟩)) ∧ W'.cell? ⟨q, 1, none⟩ = some (.pointer (some ⟨m, 0, none⟩)) ∧ W'.cell? ⟨p3, 0, none⟩ = some (.int .i64 kind) ∧ W'.cell? ⟨p3, 1, none⟩ = some (.string name) ∧ W'.cell? ⟨p3, 2, none⟩ = some (.int .i64 code) ∧ W'.cell? ⟨p3, 3, none⟩ = some (.int .i64 pan) ∧ W'.cell? ⟨p3, 4, none⟩ = some (.string word) ∧ W'.cell? ⟨p3, 5, none⟩ = some (.int .i64 sid) ∧ W'.cell? ⟨m, 1, none⟩ = some (.int .i64 last)) (by kernel_rfl) (andR (ss_cells ((PN2.out.to 0).below (Below.refl x2.heap.size x2).drew) (((Below.refl x2.heap.size x2).drew.block _ (Array.getElem?_eq_some_iff.1 S2.out).1).trans S2.out)) (RBagAt.m1 (PS2.out.rbag.below (Below.refl x2.heap.size x2).drew))) (fun hS => ?_)
  have bd := (Below.refl x2.heap.size x2).drew
  have PSD := Lib.hid (PS2.out.below bd)
  have PND := Lib.hid (PN2.out.below bd)
  have SD3 := Lib.hid ((bd.block _ (Array.getElem?_eq_some_iff.1 S2.out).1).trans S2.out)
  have D39 := Lib.hid ((bd.block _ (Array.getElem?_eq_some_iff.1 C39.out).1).trans C39.out)
  have BD : Hid (Below w1.heap.size w1 x2.drew) := Lib.hid (B2.out.trans (bd.mono B2.out.size))
  generalize x2.drew = wd at *
  have LT3 : Hid (p3 < wd.heap.size) := Lib.hid (Array.getElem?_eq_some_iff.1 SD3.out).1
  have LT39 : Hid (p39 < wd.heap.size) := Lib.hid (Array.getElem?_eq_some_iff.1 D39.out).1
  have MD := Lib.hid (made_any wd q (last + 1) ⟨kind, name, code, pan, word, sid⟩)
  clear bd PS2 PN2 S2 C39 B2
  refine wpAnyH_take (i := 0) (v := ?_) rfl (by kernel_rfl) (by kernel_rfl) (by kernel_rfl) (fun _ _ _ h => h) (Or.inl ⟨by kernel_rfl, ?_⟩) hS ?_
  rotate_left
  · intro w _
    go_simp
    try with_reducible rfl
  simp only [Act.put, List.getElem_toArray, List.getElem_cons_zero, List.getElem_cons_succ, List.setIfInBounds_toArray, List.set_cons_zero, List.set_cons_succ]
  refine wpAnyH_take (i := 1) (v := ?_) rfl (by kernel_rfl) (by kernel_rfl) (by kernel_rfl) (fun _ _ _ h => h) (Or.inl ⟨by kernel_rfl, ?_⟩) hS ?_
  rotate_left
  · intro w _
    go_simp
    try with_reducible rfl
  simp only [Act.put, List.getElem_toArray, List.getElem_cons_zero, List.getElem_cons_succ, List.setIfInBounds_toArray, List.set_cons_zero, List.set_cons_succ]
  refine wpAnyH_take (i := 2) (v := ?_) rfl (by kernel_rfl) (by kernel_rfl) (by kernel_rfl) (fun _ _ _ h => h) (Or.inl ⟨by kernel_rfl, ?_⟩) hS ?_
  rotate_left
  · intro w _
    go_simp
    try with_reducible rfl
  simp only [Act.put, List.getElem_toArray, List.getElem_cons_zero, List.getElem_cons_succ, List.setIfInBounds_toArray, List.set_cons_zero, List.set_cons_succ]
  refine wpAnyH_take (i := 3) (v := ?_) rfl (by kernel_rfl) (by kernel_rfl) (by kernel_rfl) (fun _ _ _ h => h) (Or.inl ⟨by kernel_rfl, ?_⟩) hS ?_
  rotate_left
  · intro w hSw
    try dsimp only at hSw
    go_split_ands
    go_simp
    try with_reducible rfl
  simp only [Act.put, List.getElem_toArray, List.getElem_cons_zero, List.getElem_cons_succ, List.setIfInBounds_toArray, List.set_cons_zero, List.set_cons_succ]
  refine wpAnyH_take (i := 4) (v := ?_) rfl (by kernel_rfl) (by kernel_rfl) (by kernel_rfl) (fun _ _ _ h => h) (Or.inl ⟨by kernel_rfl, ?_⟩) hS ?_
  rotate_left
  · intro w _
    go_simp
    try with_reducible rfl
  simp only [Act.put, List.getElem_toArray, List.getElem_cons_zero, List.getElem_cons_succ, List.setIfInBounds_toArray, List.set_cons_zero, List.set_cons_succ]
  refine wpAnyH_take (i := 5) (v := ?_) rfl (by kernel_rfl) (by kernel_rfl) (by kernel_rfl) (fun _ _ _ h => h) (Or.inl ⟨by kernel_rfl, ?_⟩) hS ?_
  rotate_left
  · intro w hSw
    try dsimp only at hSw
    go_split_ands
    go_simp
    try with_reducible rfl
  simp only [Act.put, List.getElem_toArray, List.getElem_cons_zero, List.getElem_cons_succ, List.setIfInBounds_toArray, List.set_cons_zero, List.set_cons_succ]
  refine wpAnyH_take (i := 6) (v := ?_) rfl (by kernel_rfl) (by kernel_rfl) (by kernel_rfl) (fun _ _ _ h => h) (Or.inl ⟨by kernel_rfl, ?_⟩) hS ?_
  rotate_left
  · intro w _
    go_simp
    try with_reducible rfl
  simp only [Act.put, List.getElem_toArray, List.getElem_cons_zero, List.getElem_cons_succ, List.setIfInBounds_toArray, List.set_cons_zero, List.set_cons_succ]
  refine wpAnyH_take (i := 7) (v := ?_) rfl (by kernel_rfl) (by kernel_rfl) (by kernel_rfl) (fun _ _ _ h => h) (Or.inl ⟨by kernel_rfl, ?_⟩) hS ?_
  rotate_left
  · intro w _
    go_simp
    try with_reducible rfl
  simp only [Act.put, List.getElem_toArray, List.getElem_cons_zero, List.getElem_cons_succ, List.setIfInBounds_toArray, List.set_cons_zero, List.set_cons_succ]
  refine wpAnyH_take (i := 8) (v := ?_) rfl (by kernel_rfl) (by kernel_rfl) (by kernel_rfl) (fun _ _ _ h => h) (Or.inl ⟨by kernel_rfl, ?_⟩) hS ?_
  rotate_left
  · intro w _
    go_simp
    try with_reducible rfl
  simp only [Act.put, List.getElem_toArray, List.getElem_cons_zero, List.getElem_cons_succ, List.setIfInBounds_toArray, List.set_cons_zero, List.set_cons_succ]
  refine wpAnyH_take (i := 9) (v := ?_) rfl (by kernel_rfl) (by kernel_rfl) (by kernel_rfl) (fun _ _ _ h => h) (Or.inl ⟨by kernel_rfl, ?_⟩) hS ?_
  rotate_left
  · intro w _
    go_simp
    try with_reducible rfl
  simp only [Act.put, List.getElem_toArray, List.getElem_cons_zero, List.getElem_cons_succ, List.setIfInBounds_toArray, List.set_cons_zero, List.set_cons_succ]
  refine wpAnyH_take (i := 10) (v := ?_) rfl (by kernel_rfl) (by kernel_rfl) (by kernel_rfl) (fun _ _ _ h => h) (Or.inl ⟨by kernel_rfl, ?_⟩) hS ?_
  rotate_left
  · intro w hSw
    try dsimp only at hSw
    go_split_ands
    go_simp
    try with_reducible rfl
  simp only [Act.put, List.getElem_toArray, List.getElem_cons_zero, List.getElem_cons_succ, List.setIfInBounds_toArray, List.set_cons_zero, List.set_cons_succ]
  refine wpAnyH_take (i := 11) (v := ?_) rfl (by kernel_rfl) (by kernel_rfl) (by kernel_rfl) (fun _ _ _ h => h) (Or.inl ⟨by kernel_rfl, ?_⟩) hS ?_
  rotate_left
  · intro w _
    go_simp
    try with_reducible rfl
  simp only [Act.put, List.getElem_toArray, List.getElem_cons_zero, List.getElem_cons_succ, List.setIfInBounds_toArray, List.set_cons_zero, List.set_cons_succ]
  refine wpAnyH_take (i := 12) (v := ?_) rfl (by kernel_rfl) (by kernel_rfl) (by kernel_rfl) (fun _ _ _ h => h) (Or.inl ⟨by kernel_rfl, ?_⟩) hS ?_
  rotate_left
  · intro w _
    go_simp
    try with_reducible rfl
  simp only [Act.put, List.getElem_toArray, List.getElem_cons_zero, List.getElem_cons_succ, List.setIfInBounds_toArray, List.set_cons_zero, List.set_cons_succ]
  refine wpAnyH_take (i := 13) (v := ?_) rfl (by kernel_rfl) (by kernel_rfl) (by kernel_rfl) (fun _ _ _ h => h) (Or.inl ⟨by kernel_rfl, ?_⟩) hS ?_
  rotate_left
  · intro w hSw
    try dsimp only at hSw
    go_split_ands
    go_simp
    try with_reducible rfl
  simp only [Act.put, List.getElem_toArray, List.getElem_cons_zero, List.getElem_cons_succ, List.setIfInBounds_toArray, List.set_cons_zero, List.set_cons_succ]
  refine wpAnyH_take (i := 14) (v := ?_) rfl (by kernel_rfl) (by kernel_rfl) (by kernel_rfl) (fun _ _ _ h => h) (Or.inl ⟨by kernel_rfl, ?_⟩) hS ?_
  rotate_left
  · intro w _
    go_simp
    try with_reducible rfl
  simp only [Act.put, List.getElem_toArray, List.getElem_cons_zero, List.getElem_cons_succ, List.setIfInBounds_toArray, List.set_cons_zero, List.set_cons_succ]
  refine wpAnyH_take (i := 15) (v := ?_) rfl (by kernel_rfl) (by kernel_rfl) (by kernel_rfl) (fun _ _ _ h => h) (Or.inl ⟨by kernel_rfl, ?_⟩) hS ?_
  rotate_left
  · intro w hSw
    try dsimp only at hSw
    go_split_ands
    go_simp
    try with_reducible rfl
  simp only [Act.put, List.getElem_toArray, List.getElem_cons_zero, List.getElem_cons_succ, List.setIfInBounds_toArray, List.set_cons_zero, List.set_cons_succ]
  refine wpAnyH_ready (rs := [16]) (by kernel_rfl) (by simp) (AllReadyH.cons rfl (fun K hK => ?_) AllReadyH.nil)
  go_simp
  go_at_call 42
  refine MD.out.mono ?_
  rintro e x3 ⟨p0, p1, p2, l0, l1, l2, rfl, hh0, hh1, hh2, hb3⟩
  have B3 := Lib.hid hb3
  have PS3 := Lib.hid (PSD.out.below hb3)
  have PN3 := Lib.hid (PND.out.below hb3)
  have S3 := Lib.hid ((hb3.block p3 LT3.out).trans SD3.out)
  have JA := Lib.hid (jadd (t := ⟨kind, name, code, pan, word, sid⟩) PS3.out (PN3.out.to 0) HL.out hh0 hh1 hh2)
  clear hb3 hh0 hh1 hh2 l0 l1 l2 MD
  refine hK.out _ _ (andR (ss_cells (PN3.out.to 0) S3.out) (RBagAt.m1 PS3.out.rbag)) (fun hS2 => ?_)
  clear hK K hS
  have hS := hS2
  clear hS2
  try simp only [Act.put, List.getElem_toArray, List.getElem_cons_zero, List.getElem_cons_succ, List.setIfInBounds_toArray, List.set_cons_zero, List.set_cons_succ]
  refine wpAnyH_ready (rs := [17]) (by kernel_rfl) (by simp) (AllReadyH.cons rfl (fun K hK => ?_) AllReadyH.nil)
  go_simp
  go_at_call 26
  refine JA.out.mono ?_
  rintro e x4 ⟨vx, vy, rfl, hT0, hI4, hRB, hK4⟩
  rw [HBR.out] at hK4
  have hT : Rel B (TY 0) x3 x4 := hT0.mono (fun k o h => TY_SB h) (Nat.le_refl _)
  have T4 := Lib.hid ((Rel.below (S := TY 0) (B := B) (BD.out.trans (B3.out.mono BD.out.size))).trans hT)
  have S4 := Lib.hid (step_TY S3.out hT)
  have I4 := Lib.hid hI4
  have RB4 := Lib.hid hRB
  have KK := Lib.hid hK4
  have P39 := Lib.hid (hT0.block ((B3.out.block p39 LT39.out).trans D39.out) (fun _ ho => by
    rcases ho with ⟨_, C, z, e⟩ | ⟨C, z, e⟩
    · injection e with _ e2 _; exact absurd e2 (by decide)
    · injection e with _ e2 _; exact absurd e2 (by decide)))
  have hxx : (vx == vx) = true := by simp
  have hyy : (vy == vy) = true := by simp
  clear hT0 hT hI4 hRB hK4 JA
  refine hK.out _ _ (andR (ss_cells I4.out S4.out) (RBagAt.m1 RB4.out)) (fun hS2 => ?_)
  clear hK K hS
  have hS := hS2
  clear hS2
  try simp only [Act.put, List.getElem_toArray, List.getElem_cons_zero, List.getElem_cons_succ, List.setIfInBounds_toArray, List.set_cons_zero, List.set_cons_succ]
  refine wpAnyH_take (i := 18) (v := ?_) rfl (by kernel_rfl) (by kernel_rfl) (by kernel_rfl) (fun _ _ _ h => h) (Or.inl ⟨by kernel_rfl, ?_⟩) hS ?_
  rotate_left
  · intro w _
    go_simp
    try with_reducible rfl
  simp only [Act.put, List.getElem_toArray, List.getElem_cons_zero, List.getElem_cons_succ, List.setIfInBounds_toArray, List.set_cons_zero, List.set_cons_succ]
  refine wpAnyH_take (i := 19) (v := ?_) rfl (by kernel_rfl) (by kernel_rfl) (by kernel_rfl) (fun _ _ _ h => h) (Or.inl ⟨by kernel_rfl, ?_⟩) hS ?_
  rotate_left
  · intro w _
    go_simp
    try with_reducible rfl
  simp only [Act.put, List.getElem_toArray, List.getElem_cons_zero, List.getElem_cons_succ, List.setIfInBounds_toArray, List.set_cons_zero, List.set_cons_succ]
  refine wpAnyH_take (i := 20) (v := ?_) rfl (by kernel_rfl) (by kernel_rfl) (by kernel_rfl) (fun _ _ _ h => h) (Or.inl ⟨by kernel_rfl, ?_⟩) hS ?_
  rotate_left
  · intro w _
    go_simp
    try with_reducible rfl
  simp only [Act.put, List.getElem_toArray, List.getElem_cons_zero, List.getElem_cons_succ, List.setIfInBounds_toArray, List.set_cons_zero, List.set_cons_succ]
  refine wpAnyH_take (i := 21) (v := ?_) rfl (by kernel_rfl) (by kernel_rfl) (by kernel_rfl) (fun _ _ _ h => h) (Or.inl ⟨by kernel_rfl, ?_⟩) hS ?_
  rotate_left
  · intro w _
    go_simp
    try with_reducible rfl
  simp only [Act.put, List.getElem_toArray, List.getElem_cons_zero, List.getElem_cons_succ, List.setIfInBounds_toArray, List.set_cons_zero, List.set_cons_succ]
  refine wpAnyH_take (i := 22) (v := ?_) rfl (by kernel_rfl) (by kernel_rfl) (by kernel_rfl) (fun _ _ _ h => h) (Or.inl ⟨by kernel_rfl, ?_⟩) hS ?_
  rotate_left
  · intro w _
    go_simp
    try with_reducible rfl
  simp only [Act.put, List.getElem_toArray, List.getElem_cons_zero, List.getElem_cons_succ, List.setIfInBounds_toArray, List.set_cons_zero, List.set_cons_succ]
  refine wpAnyH_done (by kernel_rfl) ?_ _
  go_upto_region 43 with fail
  refine wp_region_held_drew (S := fun W' => W'.cell? ⟨q, 1, none⟩ = some (.pointer (some ⟨m, 0, none⟩))) (by kernel_rfl) (PlayI.q1 (I4.out.below (Below.refl x4.heap.size x4).drew)) (fun hS => ?_)
  have bd := (Below.refl x4.heap.size x4).drew
  have D4 := (bd.block p39 (Array.getElem?_eq_some_iff.1 P39.out).1).trans P39.out
  have B4d : Hid (Below x4.heap.size x4 x4.drew) := Lib.hid bd
  generalize x4.drew = x4d at *
  clear bd
  have z0 := (cell_of_row x4d p39 0 _ _ _ D4).trans rfl
  have z1 := (cell_of_row x4d p39 1 _ _ _ D4).trans rfl
  have z2 := (cell_of_row x4d p39 2 _ _ _ D4).trans rfl
  have z3 := (cell_of_row x4d p39 3 _ _ _ D4).trans rfl
  have z4 := (cell_of_row x4d p39 4 _ _ _ D4).trans rfl
  have z5 := (cell_of_row x4d p39 5 _ _ _ D4).trans rfl
  clear D4
  refine wpAnyH_take (i := 0) (v := ?_) rfl (by kernel_rfl) (by kernel_rfl) (by kernel_rfl) (fun _ _ _ h => h) (Or.inl ⟨by kernel_rfl, ?_⟩) hS ?_
  rotate_left
  · intro w _
    go_simp
    try with_reducible rfl
  simp only [Act.put, List.getElem_toArray, List.getElem_cons_zero, List.getElem_cons_succ, List.setIfInBounds_toArray, List.set_cons_zero, List.set_cons_succ]
  refine wpAnyH_take (i := 1) (v := ?_) rfl (by kernel_rfl) (by kernel_rfl) (by kernel_rfl) (fun _ _ _ h => h) (Or.inl ⟨by kernel_rfl, ?_⟩) hS ?_
  rotate_left
  · intro w _
    go_simp
    try with_reducible rfl
  simp only [Act.put, List.getElem_toArray, List.getElem_cons_zero, List.getElem_cons_succ, List.setIfInBounds_toArray, List.set_cons_zero, List.set_cons_succ]
  refine wpAnyH_take (i := 2) (v := ?_) rfl (by kernel_rfl) (by kernel_rfl) (by kernel_rfl) (fun _ _ _ h => h) (Or.inl ⟨by kernel_rfl, ?_⟩) hS ?_
  rotate_left
  · intro w _
    go_simp
    try with_reducible rfl
  simp only [Act.put, List.getElem_toArray, List.getElem_cons_zero, List.getElem_cons_succ, List.setIfInBounds_toArray, List.set_cons_zero, List.set_cons_succ]
  refine wpAnyH_take (i := 3) (v := ?_) rfl (by kernel_rfl) (by kernel_rfl) (by kernel_rfl) (fun _ _ _ h => h) (Or.inl ⟨by kernel_rfl, ?_⟩) hS ?_
  rotate_left
  · intro w hSw
    try dsimp only at hSw
    go_split_ands
    go_simp
    try with_reducible rfl
  simp only [Act.put, List.getElem_toArray, List.getElem_cons_zero, List.getElem_cons_succ, List.setIfInBounds_toArray, List.set_cons_zero, List.set_cons_succ]
  refine wpAnyH_ready (rs := [4]) (by kernel_rfl) (by simp) (AllReadyH.cons rfl (fun K hK => ?_) AllReadyH.nil)
  go_simp
  refine hK.out _ _ (hS) (fun hS2 => ?_)
  clear hK K hS
  have hS := hS2
  clear hS2
  try simp only [Act.put, List.getElem_toArray, List.getElem_cons_zero, List.getElem_cons_succ, List.setIfInBounds_toArray, List.set_cons_zero, List.set_cons_succ]
  refine wpAnyH_ready (rs := [5]) (by kernel_rfl) (by simp) (AllReadyH.cons rfl (fun K hK => ?_) AllReadyH.nil)
  go_simp
  go_at_call 44
  refine (KK.out x4d (Rel.below B4d.out)).mono ?_
  rintro e x5 ⟨rfl, hs⟩
  have FF := Lib.hid (fin_ok BB1.out HBW.out T4.out (Rel.below B4d.out) hs)
  obtain ⟨N5, I5⟩ := hs.2.2
  have Q5 := Lib.hid (PlayI.q1 I5)
  clear hs KK I5
  refine hK.out _ _ (Q5.out) (fun hS2 => ?_)
  clear hK K hS
  have hS := hS2
  clear hS2
  try simp only [Act.put, List.getElem_toArray, List.getElem_cons_zero, List.getElem_cons_succ, List.setIfInBounds_toArray, List.set_cons_zero, List.set_cons_succ]
  refine wpAnyH_take (i := 6) (v := ?_) rfl (by kernel_rfl) (by kernel_rfl) (by kernel_rfl) (fun _ _ _ h => h) (Or.inl ⟨by kernel_rfl, ?_⟩) hS ?_
  rotate_left
  · intro w _
    go_simp
    try with_reducible rfl
  simp only [Act.put, List.getElem_toArray, List.getElem_cons_zero, List.getElem_cons_succ, List.setIfInBounds_toArray, List.set_cons_zero, List.set_cons_succ]
  refine wpAnyH_take (i := 7) (v := ?_) rfl (by kernel_rfl) (by kernel_rfl) (by kernel_rfl) (fun _ _ _ h => h) (Or.inl ⟨by kernel_rfl, ?_⟩) hS ?_
  rotate_left
  · intro w _
    go_simp
    try with_reducible rfl
  simp only [Act.put, List.getElem_toArray, List.getElem_cons_zero, List.getElem_cons_succ, List.setIfInBounds_toArray, List.set_cons_zero, List.set_cons_succ]
  refine wpAnyH_take (i := 8) (v := ?_) rfl (by kernel_rfl) (by kernel_rfl) (by kernel_rfl) (fun _ _ _ h => h) (Or.inl ⟨by kernel_rfl, ?_⟩) hS ?_
  rotate_left
  · intro w _
    go_simp
    try with_reducible rfl
  simp only [Act.put, List.getElem_toArray, List.getElem_cons_zero, List.getElem_cons_succ, List.setIfInBounds_toArray, List.set_cons_zero, List.set_cons_succ]
  refine wpAnyH_take (i := 9) (v := ?_) rfl (by kernel_rfl) (by kernel_rfl) (by kernel_rfl) (fun _ _ _ h => h) (Or.inl ⟨by kernel_rfl, ?_⟩) hS ?_
  rotate_left
  · intro w _
    go_simp
    try with_reducible rfl
  simp only [Act.put, List.getElem_toArray, List.getElem_cons_zero, List.getElem_cons_succ, List.setIfInBounds_toArray, List.set_cons_zero, List.set_cons_succ]
  refine wpAnyH_take (i := 10) (v := ?_) rfl (by kernel_rfl) (by kernel_rfl) (by kernel_rfl) (fun _ _ _ h => h) (Or.inl ⟨by kernel_rfl, ?_⟩) hS ?_
  rotate_left
  · intro w _
    go_simp
    try with_reducible rfl
  simp only [Act.put, List.getElem_toArray, List.getElem_cons_zero, List.getElem_cons_succ, List.setIfInBounds_toArray, List.set_cons_zero, List.set_cons_succ]
  refine wpAnyH_done (by kernel_rfl) ?_ _
  go_wp2_with fail
  go_ret
  exact ⟨rfl, FF.out⟩
set_option maxHeartbeats 8000000 in
set_option maxRecDepth 100000 in
theorem step_marks {w : World} {B q b m : Nat} {L : List Th} {last : Int} {closed : Bool} (h : PS w B q b m L last closed) (hI : ∃ N0 c f, PlayI w q b m N0 c f) (hl : last ≤ 100000) (s : St) (hk : s.kind = 1) :
    Calls Try.prog 10 #[.pointer (some ⟨q, 0, none⟩), .agg s.cells.toArray] w fun e w' => e = .returned (.bool true) ∧ Fin w B q b m last w' := by
  obtain ⟨kind, name, code, pan, word, sid⟩ := s
  simp only at hk
  subst hk
  change Calls Try.prog 10 #[.pointer (some ⟨q, 0, none⟩), .agg #[.int .i64 (1), .string name, .int .i64 code, .int .i64 pan, .string word, .int .i64 sid]] w _
  obtain ⟨w1, hw1⟩ : ∃ x, x = ((w.alloc (.cells #[.int .i64 1, .string name, .int .i64 code, .int .i64 pan, .string word, .int .i64 sid] 36)).setCell ⟨q, 2, none⟩ (.slice none 0 0)).setCell ⟨q, 3, none⟩ (.slice none 0 0) := ⟨_, rfl⟩
  obtain ⟨ps1, pn1, s1, b1⟩ := h.start hI _ hw1
  obtain ⟨N0, c0, f0, hI⟩ := hI
  obtain ⟨wa, hwa⟩ : ∃ x, x = w.alloc (.cells #[.int .i64 1, .string name, .int .i64 code, .int .i64 pan, .string word, .int .i64 sid] 36) := ⟨_, rfl⟩
  have ha : PlayI wa q b m N0 c0 f0 := by
    rw [hwa]
    exact hI.below ((Below.refl _ w).alloc (Nat.le_refl _) _)
  have f2 := ha.frozen 2
  have f3 := ha.frozen 3
  obtain ⟨ac, cc, af, cf, e0, e1, e2, e3, e4, _, _⟩ := ha.cells
  rw [← hwa] at hw1
  have HWA := Lib.hid hwa
  have HW1 := Lib.hid hw1
  have PS1 := Lib.hid ps1
  have PN1 := Lib.hid pn1
  have BB1 := Lib.hid b1
  have HBW : Hid (B ≤ w1.heap.size) := Lib.hid ps1.hBw
  have HL := Lib.hid hl
  obtain ⟨p3, hp3⟩ : ∃ p, p = w.heap.size := ⟨_, rfl⟩
  rw [← hp3] at s1
  have HP3 := Lib.hid hp3
  have S1 := Lib.hid s1
  have P3N : Hid (p3 < w1.heap.size) := Lib.hid (Array.getElem?_eq_some_iff.1 s1).1
  obtain ⟨r0, r1, y0, y1, y2, y3, y4, y5⟩ := ss_cells (pn1.to 0) s1
  clear h hI hl hw1 ps1 pn1 b1 hp3 s1 ha hwa
  go_enter Try.func10, Try.ntmps10
  go_upto_region 1 with fail
  rw [← HWA.out, ← HP3.out]
  go_upto_region 3 with fail
  rw [← HW1.out]
  clear f2 f3 e0 e1 e2 e3 e4 HW1 HP3 HWA
  have J := Lib.hid (jmark PS1.out (PN1.out.to 0) HL.out)
  go_wp2_with fail
  refine J.out.mono ?_
  rintro e x1 ⟨vx, vy, rfl, hT, hI1, hK⟩
  have T1 := Lib.hid hT
  have K1 := Lib.hid (hK x1 (Rel.refl _ _ _))
  have S2 := Lib.hid (step_TY S1.out hT)
  obtain ⟨r0', r1', _⟩ := ss_cells hI1 S2.out
  clear hT hI1 hK r0 r1 y0 y1 y2 y3 y4 y5 J
  go_wp2_with fail
  refine K1.out.mono ?_
  rintro e x3 ⟨rfl, hs⟩
  have FF := Lib.hid (fin_ok BB1.out HBW.out T1.out (Rel.refl _ _ _) hs)
  clear hs r0' r1'
  go_wp2_with fail
  go_ret
  exact ⟨by simp, FF.out⟩
end Go.Proofs.Ytnkababhgloclaa
