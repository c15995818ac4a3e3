/- The document's bag walked: Close, Back. -/
import Derived.Test.YtnkababhgloclaaRBagC
namespace Go.Proofs.Ytnkababhgloclaa
open Go.RowKit Go.ChangeShapes
theorem own_setD {w : World} {B e z n g t p : Nat} {v : Value} {xs : List Value} {C : Array Value} (h : w.ownsRow B e z v n xs) (he : e ≠ t) (hm : w.heap[g]? = some (.cells C t (0, 0))) (u : Value) : (w.setCell ⟨g, p, none⟩ u).ownsRow B e z v n xs := by
  refine ownsRow_setCell_other h (a := ⟨g, p, none⟩) (fun hb => ?_) u
  obtain ⟨C', hC'⟩ := own_type h hb
  rw [hm] at hC'
  injection hC' with hC'
  injection hC' with _ h2 _
  exact he h2.symm
section
variable {w w' : World} {B m : Nat} {L : List RT} {last : Int} {closed : Bool}
theorem RBagAt.set {L' : List RT} {last' : Int} {closed' : Bool} (h : RBagAt w B m L last closed) (p : Nat) (u : Value) {v : Value} (hv : ∀ v0, w.heap[m]? = some (.cells #[v0, .int .i64 last, .bool closed] 29 (0, 0)) → (#[v0, .int .i64 last, .bool closed] : Array Value).setIfInBounds p u = #[v, .int .i64 last', .bool closed'] ∧ (w.ownsRow B 92 6 v0 L.length (rc6 L) → w.ownsRow B 92 6 v L'.length (rc6 L'))) :
    RBagAt (w.setCell ⟨m, p, none⟩ u) B m L' last' closed' ∧ Rel B (SD m) w (w.setCell ⟨m, p, none⟩ u) := by
  obtain ⟨hB, v0, hb, ho⟩ := h
  obtain ⟨h1, h2⟩ := hv v0 hb
  have hs := heap_setCell_same w m p _ _ u hb
  rw [h1] at hs
  exact ⟨⟨hB, v, hs, own_setD (h2 ho) (by decide) hb u⟩, Rel.set (a := ⟨m, p, none⟩) hB hb (.inl ⟨rfl, _, _, rfl⟩) u⟩
theorem RBagAt.row (h : RBagAt w B m L last closed) {L' : List RT} {v : Value} (hv : w.ownsRow B 92 6 v L'.length (rc6 L')) : RBagAt (w.setCell ⟨m, 0, none⟩ v) B m L' last closed ∧ Rel B (SD m) w (w.setCell ⟨m, 0, none⟩ v) :=
  h.set 0 v (v := v) (fun _ _ => ⟨rfl, fun _ => hv⟩)
theorem RBagAt.shut (h : RBagAt w B m L last closed) : RBagAt (w.setCell ⟨m, 2, none⟩ (.bool true)) B m L last true ∧ Rel B (SD m) w (w.setCell ⟨m, 2, none⟩ (.bool true)) := by
  obtain ⟨hB, v0, hb, ho⟩ := h
  have hs := heap_setCell_same w m 2 _ _ (.bool true) hb
  exact ⟨⟨hB, v0, hs, own_setD ho (by decide) hb _⟩, Rel.set (a := ⟨m, 2, none⟩) hB hb (.inl ⟨rfl, _, _, rfl⟩) _⟩
theorem RBagAt.count (h : RBagAt w B m L last closed) (x : Int) : RBagAt (w.setCell ⟨m, 1, none⟩ (.int .i64 x)) B m L x closed ∧ Rel B (SD m) w (w.setCell ⟨m, 1, none⟩ (.int .i64 x)) := by
  obtain ⟨hB, v0, hb, ho⟩ := h
  have hs := heap_setCell_same w m 1 _ _ (.int .i64 x) hb
  exact ⟨⟨hB, v0, hs, own_setD ho (by decide) hb _⟩, Rel.set (a := ⟨m, 1, none⟩) hB hb (.inl ⟨rfl, _, _, rfl⟩) _⟩
theorem SD_row (k : Nat) (C : Array Value) (z : Nat × Nat) : SD m k (.cells C 92 z) := .inr ⟨C, z, rfl⟩
end
set_option maxHeartbeats 4000000 in
theorem rclose_done {w : World} {B m : Nat} {L : List RT} {last : Int} (h : RBagAt w B m L last true) :
    Calls Try.prog 15 #[.pointer (some ⟨m, 0, none⟩)] w fun e w' => e = .returned (.tuple #[.slice none 0 0, .int .i64 5]) ∧ w' = w := by
  obtain ⟨a, c, c0, c1, c2, ho⟩ := h.cells
  clear h ho c0 c1
  go_enter Try.func15, Try.ntmps15
  go_wp2_with fail
  go_ret2
  exact ⟨rfl, rfl⟩
set_option maxHeartbeats 4000000 in
theorem rclose_any {w : World} {B m : Nat} {L : List RT} {last : Int} (h : RBagAt w B m L last false) (hl : L.length ≤ 256) (hB : B ≤ w.heap.size) :
    Calls Try.prog 15 #[.pointer (some ⟨m, 0, none⟩)] w fun e w' => ∃ vo, e = .returned (.tuple #[vo, .int .i64 0]) ∧ RBagAt w' B m [] last true ∧ w'.ownsRow w.heap.size 92 6 vo (lastR L).length (rc6 (lastR L)) ∧ Rel B (SD m) w w' := by
  obtain ⟨a, c, c0, c1, c2, ho⟩ := h.cells
  have CL := Lib.hid (rlast_any (rts_own ho) hl)
  have H := Lib.hid h
  have HM := Lib.hid h.lt
  clear h ho c1 hB
  go_enter Try.func15, Try.ntmps15
  go_wp2_with fail
  refine CL.out.mono ?_
  rintro er w2 ⟨vo, rfl, hrow, hb⟩
  have h2 := H.out.below hb
  obtain ⟨g1, r1⟩ := h2.row (L' := []) (v := .slice none 0 0) (World.ownsRow_nil _ _ _ _)
  obtain ⟨g2, r2⟩ := g1.shut
  obtain ⟨a2, c2', x0, x1, x2, _⟩ := h2.cells
  have f0 := h2.frozen 0
  have f2 := h2.frozen 2
  have hne : ∀ g, vo.ownBlock = some g → g ≠ m := fun g hg e => by
    have := (hrow.lt g hg).1
    have := HM.out
    omega
  have FIN := Lib.hid (show RBagAt ((w2.setCell ⟨m, 0, none⟩ (.slice none 0 0)).setCell ⟨m, 2, none⟩ (.bool true)) B m [] last true ∧ ((w2.setCell ⟨m, 0, none⟩ (.slice none 0 0)).setCell ⟨m, 2, none⟩ (.bool true)).ownsRow w.heap.size 92 6 vo (lastR L).length (rc6 (lastR L)) ∧ Rel B (SD m) w ((w2.setCell ⟨m, 0, none⟩ (.slice none 0 0)).setCell ⟨m, 2, none⟩ (.bool true)) from
    ⟨g2, ownsRow_setCell_other (ownsRow_setCell_other hrow (a := ⟨m, 0, none⟩) (fun e => hne m e rfl) _) (a := ⟨m, 2, none⟩) (fun e => hne m e rfl) _, (Rel.below hb).trans (r1.trans r2)⟩)
  clear hrow hb h2 g1 r1 g2 r2 hne x1 CL c0 c2
  go_wp2_with fail
  go_ret2
  exact ⟨_, rfl, FIN.out⟩
set_option maxHeartbeats 4000000 in
theorem rback_done {w : World} {B m : Nat} {L : List RT} {last : Int} (h : RBagAt w B m L last true) (id : Int) :
    Calls Try.prog 41 #[.pointer (some ⟨m, 0, none⟩), .int .i64 id] w fun e w' => e = .returned (.tuple #[.slice none 0 0, .int .i64 5]) ∧ w' = w := by
  obtain ⟨a, c, c0, c1, c2, ho⟩ := h.cells
  clear h ho c0 c1
  go_enter Try.func41, Try.ntmps41
  go_wp2_with fail
  go_ret2
  exact ⟨rfl, rfl⟩
set_option maxHeartbeats 4000000 in
theorem rback_none {w : World} {B m : Nat} {L : List RT} {last : Int} (h : RBagAt w B m L last false) (hl : L.length ≤ 256) (id : Int) (hp : posR L id true = none) :
    Calls Try.prog 41 #[.pointer (some ⟨m, 0, none⟩), .int .i64 id] w fun e w' => e = .returned (.tuple #[.slice none 0 0, .int .i64 6]) ∧ w' = w := by
  obtain ⟨a, c, c0, c1, c2, ho⟩ := h.cells
  have CF := rfind_any h hl id true
  rw [hp] at CF
  have CF := Lib.hid CF
  clear h ho c0 c1
  go_enter Try.func41, Try.ntmps41
  go_wp2_with fail
  refine CF.out.mono ?_
  rintro er w2 ⟨rfl, rfl⟩
  have hlt : (-1 : Int) < 0 := by decide
  go_wp2_with fail
  go_ret2
  exact ⟨rfl, rfl⟩
theorem own_empty {w : World} {B t e z : Nat} (hB : B ≤ w.heap.size) (ht : t = e) : (w.alloc (.cells #[] t (0, 0))).ownsRow B e z (.slice (some ⟨w.heap.size, 0, none⟩) 0 0) 0 [] := by
  subst ht
  exact ⟨by simp, .inr ⟨w.heap.size, 0, #[], rfl, hB, heap_alloc_new _ _, Nat.le_refl _, Nat.zero_le _, by simp, by simp⟩⟩
theorem newsD {w w' : World} {B g c : Nat} {L : List RT} (h : w.ownsRow B 92 6 (.slice (some ⟨g, 0, none⟩) L.length c) L.length (rc6 L)) (a b : Nat) (hab : a + b ≤ L.length) (hb : Below w.heap.size w w') : ∀ j u, (rc6 ((L.drop a).take b))[j]? = some u → w'.cell? ((⟨g, a * 6, none⟩ : Addr).add j) = some u := fun j u hu => by
  rw [← rc6_take, ← rc6_drop, List.getElem?_take] at hu
  split at hu
  · rw [List.getElem?_drop] at hu
    have hlt := (List.getElem?_eq_some_iff.1 hu).1
    rw [rc6_len] at hlt
    have e := h.cellAt (a * 6 + j) hlt
    rw [hu] at e
    have e2 : w'.cell? ⟨g, a * 6 + j, none⟩ = some u := (hb.cell (p := ⟨g, a * 6 + j, none⟩) (World.block_lt_of_cell? w _ e)).trans e
    rw [Addr.add_mid]
    exact e2
  · cases hu
theorem roomE {i n : Nat} (h : i < n) (hn : n ≤ 256) : 0 + i ≤ maxLen ∧ (0 + i) * 64 ≤ 140737488355328 := by unfold maxLen; omega
theorem build0D (w : World) : (Instr.buildSlice 27 0 #[]).run Try.prog w = .ok (.slice (some ⟨w.heap.size, 0, none⟩) 0 0) (w.alloc (.cells #[] 92 (0, 0))) := by kernel_rfl
set_option maxHeartbeats 4000000 in
set_option maxRecDepth 100000 in
theorem rback_some {w : World} {B m : Nat} {L : List RT} {last : Int} (h : RBagAt w B m L last false) (hl : L.length ≤ 256) (hB : B ≤ w.heap.size) (id : Int) (i : Nat) (hp : posR L id true = some i) :
    Calls Try.prog 41 #[.pointer (some ⟨m, 0, none⟩), .int .i64 id] w fun e w' => ∃ vo, e = .returned (.tuple #[vo, .int .i64 0]) ∧ RBagAt w' B m (L.take i) last false ∧ w'.ownsRow w.heap.size 92 6 vo (lastR (L.drop i)).length (rc6 (lastR (L.drop i))) ∧ Rel B (SD m) w w' := by
  obtain ⟨ir, hir, hz0, hz1, hz2⟩ := info_parts infoRT
  obtain ⟨a, c, c0, c1, c2, ho⟩ := h.cells
  have CF0 := rfind_any h hl id true
  rw [hp, show placeR (some i) = (i : Int) from rfl] at CF0
  have CF := Lib.hid CF0
  clear CF0
  obtain ⟨hi, _⟩ := posR_lt hp
  obtain ⟨g, rfl, hgx⟩ := rt_at ho i hi
  clear hgx
  have CL := Lib.hid (rlast_any (rts_drop (c' := c - i) ho (Nat.le_of_lt hi)) (by rw [List.length_drop]; omega))
  have H := Lib.hid h
  have HB := Lib.hid hB
  have HO := Lib.hid ho
  have hcap0 := own_cap ho
  obtain ⟨n, hn⟩ : ∃ n, L.length = n := ⟨_, rfl⟩
  have HN := Lib.hid hn
  rw [hn] at c0 CL hi
  have h1 : ¬ (i : Int) < 0 := by omega
  have hin : i ≤ n := Nat.le_of_lt hi
  have hi0 : (0 : Int) ≤ (i : Int) := Int.natCast_nonneg i
  have hi1 : (i : Int) ≤ (n : Int) := Int.ofNat_le.2 hin
  have hd : decide ((i : Int) < 0) = false := decide_eq_false (by omega)
  have hnc : n ≤ c := by rw [← hn]; exact hcap0
  have hic : i ≤ c := Nat.le_trans hin hnc
  have hci : ¬ c = i := by omega
  have HI := Lib.hid hi
  have HL : Hid (n ≤ 256) := Lib.hid (by rw [← hn]; exact hl)
  clear h ho c1 hB hp hn hi hl hcap0
  go_enter Try.func41, Try.ntmps41
  go_wp2_with fail
  refine CF.out.mono ?_
  rintro er w2 ⟨rfl, rfl⟩
  go_wp2_with fail
  refine CL.out.mono ?_
  rintro er w3 ⟨vo, rfl, hrow, hb⟩
  have x0 : w3.cell? ⟨m, 0, none⟩ = some (.slice (some ⟨g, 0, none⟩) n c) := by
    rw [hb.cell (p := ⟨m, 0, none⟩) H.out.lt]
    exact c0
  have H3 := Lib.hid (H.out.below hb)
  have O3 := Lib.hid (own_below HO.out hb)
  have ROW := Lib.hid hrow
  have BW := Lib.hid hb
  have f0 := H3.out.frozen 0
  have hz3 : w2.heap.size ≤ w3.heap.size := hb.size
  have AB := Lib.hid ((Below.refl w3.heap.size w3).alloc (Nat.le_refl _) (.cells #[] 92 (0, 0)))
  have E3 := Lib.hid (own_empty (B := B) (t := 92) (e := 92) (z := 6) (Nat.le_trans HB.out hz3) rfl)
  have NW := Lib.hid (newsD O3.out 0 i (by rw [HN.out]; omega) AB.out)
  rw [Nat.zero_mul, List.drop_zero] at NW
  have HTL : Hid ((rc6 (L.take i)).length = i * 6) := Lib.hid (by rw [rc6_len, List.length_take, HN.out]; omega)
  have hb1 : 0 + i ≤ maxLen := (roomE HI.out HL.out).1
  have hb2 : (0 + i) * 64 ≤ 140737488355328 := (roomE HI.out HL.out).2
  have hbz : B ≤ (w3.alloc (.cells #[] 92 (0, 0))).heap.size := Nat.le_trans (Nat.le_trans HB.out hz3) AB.out.size
  have bld := build0D w3
  have x0' : (w3.alloc (.cells #[] 92 (0, 0))).cell? ⟨m, 0, none⟩ = some (.slice (some ⟨g, 0, none⟩) n c) := by
    rw [AB.out.cell (p := ⟨m, 0, none⟩) H3.out.lt]
    exact x0
  have BG4 := Lib.hid (H3.out.below AB.out)
  clear hrow hb c0 c2 CL CF h1 hz3
  go_wp2_with (refine wpList_append_own _ rfl (.tmp 25) (.tmp 31) 27 rfl B 92 ir _ 6 64 Try.underlying27 hir hz0 hz1 hz2 rfl (by decide) (.slice (some ⟨w3.heap.size, 0, none⟩) 0 0) 0 [] (by rfl) E3.out ⟨g, 0, none⟩ i c (rc6 (L.take i)) (by rfl) HTL.out NW.out (rc6_one _) hb1 hb2 hbz ?_)
  intro v4 w4 hrow4 hgrow4 hnn4
  obtain ⟨a4, c4, rfl⟩ := own_slice hrow4
  have hz3 : w3.heap.size ≤ (w3.alloc (.cells #[] 92 (0, 0))).heap.size := AB.out.size
  have rg : Rel B (SD m) (w3.alloc (.cells #[] 92 (0, 0))) w4 := Rel.row E3.out (Nat.le_refl _) hgrow4 (fun k C z => SD_row k C z)
  have own4 : Below w3.heap.size w3 w4 := AB.out.grown hgrow4 (by simp) (fun j hj => by
    simp only [Value.ownBlock, Option.some.injEq] at hj
    omega)
  have h4 := H3.out.below own4
  obtain ⟨g5, r5⟩ := h4.row (L' := L.take i) (v := .slice a4 i c4) (by
    rw [List.length_take, HN.out, Nat.min_eq_left (Nat.le_of_lt HI.out)]
    exact hrow4)
  obtain ⟨a5, c5, y0, _, _, _⟩ := h4.cells
  have f5 := h4.frozen 0
  have rowF := own_below ROW.out own4
  have hm := H.out.lt
  have FIN := Lib.hid (show RBagAt (w4.setCell ⟨m, 0, none⟩ (.slice a4 i c4)) B m (L.take i) last false ∧ (w4.setCell ⟨m, 0, none⟩ (.slice a4 i c4)).ownsRow w2.heap.size 92 6 vo (lastR (L.drop i)).length (rc6 (lastR (L.drop i))) ∧ Rel B (SD m) w2 (w4.setCell ⟨m, 0, none⟩ (.slice a4 i c4)) from
    ⟨g5, ownsRow_setCell_other rowF (a := ⟨m, 0, none⟩) (fun e => by have := (ROW.out.lt m e).1; omega) _, (Rel.below BW.out).trans ((Rel.below own4).trans r5)⟩)
  clear hrow4 hgrow4 hnn4 rg own4 h4 g5 r5 rowF hm hz3 BG4 x0' x0 NW E3 AB ROW BW
  go_wp2_with fail
  go_ret2
  exact ⟨_, rfl, FIN.out⟩
end Go.Proofs.Ytnkababhgloclaa
