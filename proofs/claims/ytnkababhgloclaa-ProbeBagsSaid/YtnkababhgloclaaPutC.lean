/- Something is put into a bag: put, Add, Mark. (Printed by tools/genput.py.) -/
import Derived.Test.YtnkababhgloclaaBagC
import Derived.Deep.MidRow
import Derived.Deep.DeepCutAuto
import Derived.Deep.CutBlock
namespace Go.Proofs.Ytnkababhgloclaa
open Go.RowKit Go.ChangeShapes
theorem infoT : (Try.prog.info? 101).map (fun i => (i.zero, i.size, i.bytes)) = some (some (.agg #[.int .i64 0, .string .empty, .nilFunc]), 3, 32) := by kernel_rfl
theorem build_th (x : Int) (name : ByteArray) (fn : Option (Nat × Array Value)) (w : World) : (Instr.buildSlice 87 1 #[(0, .agg #[.int .i64 x, .string name, fnV fn])]).run Try.prog w = .ok (.slice (some ⟨w.heap.size, 0, none⟩) 1 1) (w.alloc (.cells #[.int .i64 x, .string name, fnV fn] 101)) := by
  cases fn with
  | none => show (Instr.buildSlice 87 1 #[(0, .agg #[.int .i64 x, .string name, .nilFunc])]).run Try.prog w = .ok (.slice (some ⟨w.heap.size, 0, none⟩) 1 1) (w.alloc (.cells #[.int .i64 x, .string name, .nilFunc] 101)); go_simp
  | some f => obtain ⟨k, c⟩ := f; show (Instr.buildSlice 87 1 #[(0, .agg #[.int .i64 x, .string name, .func (.func k) #[] c])]).run Try.prog w = .ok (.slice (some ⟨w.heap.size, 0, none⟩) 1 1) (w.alloc (.cells #[.int .i64 x, .string name, .func (.func k) #[] c] 101)); go_simp
theorem wp_build_th {o : Oper} {ac : Act} {w : World} {K : Act → World → Prop} {Q : Exit → Act → World → Prop} (x : Operand) (ho : o.op = .buildSlice 87 1 #[(0, x)]) (i : Int) (name : ByteArray) (fn : Option (Nat × Array Value)) (hx : ac.eval x = .agg #[.int .i64 i, .string name, fnV fn])
    (h : K (ac.put o.dst (.slice (some ⟨w.heap.size, 0, none⟩) 1 1)) (w.alloc (.cells #[.int .i64 i, .string name, fnV fn] 101))) : o.wp Try.prog ac w K Q := by
  unfold Oper.wp execOp
  simp only [ho, Sem.run_bind, List.map_toArray, List.map_cons, List.map_nil, hx, build_th, Result.andThen_ok]
  exact h
theorem put_fin {w4 w5 : World} {B b : Nat} {L : List Th} {x : Int} {name : ByteArray} {fn : Option (Nat × Array Value)} {busy closed : Bool} {a : Option Addr} {c g2 cap2 : Nat} (h : BagAt w4 B b L x busy closed) (hcell : w4.cell? ⟨b, 0, none⟩ = some (.slice a L.length c)) (h2 : w4.ownsRow B 101 3 (.slice a L.length c) L.length (hc L))
    (ho : w5.ownsRow B 101 3 (.slice (some ⟨g2, 0, none⟩) (L.length + 1) cap2) (L.length + 1) (hc L ++ [.int .i64 x, .string name, fnV fn])) (hg : w4.grownBy w5 (Value.ownBlock (.slice a L.length c))) :
    (w5.cell? ⟨b, 0, none⟩ = some (.slice a L.length c) ∧ w5.frozen? ⟨b, 0, none⟩ = false) ∧ BagAt (w5.setCell ⟨b, 0, none⟩ (.slice (some ⟨g2, 0, none⟩) (L.length + 1) cap2)) B b (L ++ [⟨x, name, fn⟩]) x busy closed ∧ Rel B (SB b) w4 (w5.setCell ⟨b, 0, none⟩ (.slice (some ⟨g2, 0, none⟩) (L.length + 1) cap2)) := by
  obtain ⟨h0, v, h1, _⟩ := h
  have hv : v = .slice a L.length c := by
    have := (cell_of_row w4 b 0 _ _ _ h1).symm.trans hcell
    simpa using this
  subst hv
  have row : Rel B (SB b) w4 w5 := Rel.row (e := 101) h2 (Nat.le_refl _) hg (fun k C z => show SB b k _ from Or.inr ⟨C, z, rfl⟩)
  have h5 : w5.heap[b]? = some (.cells #[.slice a L.length c, .int .i64 x, .bool busy, .bool closed] 89 (0, 0)) := (hg.block b (Array.getElem?_eq_some_iff.1 h1).1 (fun e => by
    obtain ⟨C, hC⟩ := own_type h2 e.symm
    rw [h1] at hC
    injection hC with hC
    injection hC with _ h3 _
    exact absurd h3 (by decide))).trans h1
  have ho' : w5.ownsRow B 101 3 (.slice (some ⟨g2, 0, none⟩) (L.length + 1) cap2) (L ++ [(⟨x, name, fn⟩ : Th)]).length (hc (L ++ [(⟨x, name, fn⟩ : Th)])) := by
    rw [hc_append, List.length_append]
    simpa [hc, Th.cells] using ho
  exact ⟨⟨(cell_of_row w5 b 0 _ _ _ h5).trans rfl, frozen_of_row w5 b 0 _ _ h5⟩, ⟨h0, _, heap_setCell_same w5 b 0 _ _ _ h5, own_setBag ho' (by decide) h5 _⟩, row.trans (Rel.set (S := SB b) (a := ⟨b, 0, none⟩) h0 h5 (show SB b b _ from Or.inl ⟨rfl, _, _, rfl⟩) _)⟩
set_option maxHeartbeats 8000000 in
set_option maxRecDepth 100000 in
theorem put_room0 {w : World} {B b : Nat} {L : List Th} {last : Int} {busy closed : Bool} (h : BagAt w B b L last busy closed) (hB : B ≤ w.heap.size) (hlen : L.length < 256) (hl0 : 0 ≤ last) (hl1 : last ≤ 4611686018427387904) (name : ByteArray)  :
    Calls Try.prog 61 #[.pointer (some ⟨b, 0, none⟩), .string name, .nilFunc] w fun e w' => e = .returned (.tuple #[.int .i64 (last + 1), .int .i64 0]) ∧ BagAt w' B b (L ++ [⟨last + 1, name, none⟩]) (last + 1) busy closed ∧ Rel B (SB b) w w' := by
  obtain ⟨ir, hi, hz0, hz1, hz2⟩ := info_parts infoT
  obtain ⟨a, c, c0, c1, c2, c3, ho⟩ := h.cells
  have f1 := h.frozen 1
  have HH := Lib.hid h
  have HB := Lib.hid hB
  have HL := Lib.hid (h.setLast (last + 1))
  have RL := Lib.hid (h.relSet 1 (.int .i64 (last + 1)) (SB b) (fun C z => .inl ⟨rfl, C, z, rfl⟩) (Nat.le_refl _))
  obtain ⟨n, hn⟩ : ∃ n, L.length = n := ⟨_, rfl⟩
  have HN := Lib.hid hn
  have hge : ¬ ((n : Int) ≥ 256) := by omega
  clear h
  rw [hn] at c0 ho hlen
  have HO := Lib.hid ho
  clear ho hn
  go_enter Try.func61, Try.ntmps61
  go_upto_region 4 with fail
  go_cut [] (fun wx => Hid (BagAt wx B b (L ++ [⟨last + 1, name, none⟩]) (last + 1) busy closed ∧ Rel B (SB b) w wx))
  case first => as_aux_lemma => --ok
    refine wp_region_any (by kernel_rfl) ?_
    have LD := Lib.hid (HL.out.below ((Below.refl _ (w.setCell ⟨b, 1, none⟩ (.int .i64 (last + 1)))).drew))
    have OD : Hid ((w.setCell ⟨b, 1, none⟩ (.int .i64 (last + 1))).drew.ownsRow B 101 3 (.slice a n c) n (hc L)) := Lib.hid (own_below (own_setBag HO.out (by decide) HH.out.2.choose_spec.1 _) ((Below.refl _ (w.setCell ⟨b, 1, none⟩ (.int .i64 (last + 1)))).drew))
    have RD := Lib.hid (RL.out.drew)
    have D0 : Hid ((w.setCell ⟨b, 1, none⟩ (.int .i64 (last + 1))).drew.cell? ⟨b, 0, none⟩ = some (.slice a n c)) := Lib.hid ((World.cell?_setCell_other _ _ _ _ (by simp)).trans c0)
    have hBd : B ≤ (w.setCell ⟨b, 1, none⟩ (.int .i64 (last + 1))).drew.heap.size := Nat.le_trans HB.out RD.out.size
    have HB := Lib.hid hBd
    change wpAny _ _ _ _ _ _ _ (w.setCell ⟨b, 1, none⟩ (.int .i64 (last + 1))).drew
    obtain ⟨x, hx⟩ : ∃ x, last + 1 = x := ⟨_, rfl⟩
    rw [hx] at LD OD RD HB D0 ⊢
    have HX := Lib.hid hx
    generalize (w.setCell ⟨b, 1, none⟩ (.int .i64 x)).drew = wd at *
    clear hBd HL RL c0 c1 c2 c3 f1 HO HH hx
    have d0 : wd.cell? ⟨b, 0, none⟩ = some (.slice a n c) := D0.out
    obtain ⟨_, _, _, d1, _, _, _⟩ := LD.out.cells
    have BA : Hid (Below wd.heap.size wd (wd.alloc (.cells #[.int .i64 x, .string name, .nilFunc] 101))) := Lib.hid ((Below.refl _ wd).alloc (Nat.le_refl _) _)
    have e0 : (wd.alloc (.cells #[.int .i64 x, .string name, .nilFunc] 101)).cell? ⟨b, 0, none⟩ = some (.slice a n c) := (BA.out.cell (p := ⟨b, 0, none⟩) (World.block_lt_of_cell? wd _ d0)).trans d0
    have E0 := Lib.hid e0
    refine wpAny_take (i := 0) (v := ?_) rfl (by kernel_rfl) (by kernel_rfl) (by kernel_rfl) (fun _ _ _ h => h) (Or.inl ⟨by kernel_rfl, ?_⟩) ?_
    rotate_left
    · intro w
      go_simp
      try with_reducible rfl
    simp only [Act.put, List.getElem_toArray, List.getElem_cons_zero, List.getElem_cons_succ, List.setIfInBounds_toArray, List.set_cons_zero, List.set_cons_succ]
    refine wpAny_take (i := 1) (v := ?_) rfl (by kernel_rfl) (by kernel_rfl) (by kernel_rfl) (fun _ _ _ h => h) (Or.inl ⟨by kernel_rfl, ?_⟩) ?_
    rotate_left
    · intro w
      go_simp
      try with_reducible rfl
    simp only [Act.put, List.getElem_toArray, List.getElem_cons_zero, List.getElem_cons_succ, List.setIfInBounds_toArray, List.set_cons_zero, List.set_cons_succ]
    refine wpAny_take (i := 2) (v := ?_) rfl (by kernel_rfl) (by kernel_rfl) (by kernel_rfl) (fun _ _ _ h => h) (Or.inl ⟨by kernel_rfl, ?_⟩) ?_
    rotate_left
    · intro w
      go_simp
      try with_reducible rfl
    simp only [Act.put, List.getElem_toArray, List.getElem_cons_zero, List.getElem_cons_succ, List.setIfInBounds_toArray, List.set_cons_zero, List.set_cons_succ]
    refine wpAny_take (i := 3) (v := ?_) rfl (by kernel_rfl) (by kernel_rfl) (by kernel_rfl) (fun _ _ _ h => h) (Or.inl ⟨by kernel_rfl, ?_⟩) ?_
    rotate_left
    · intro w
      go_simp
      try with_reducible rfl
    simp only [Act.put, List.getElem_toArray, List.getElem_cons_zero, List.getElem_cons_succ, List.setIfInBounds_toArray, List.set_cons_zero, List.set_cons_succ]
    refine wpAny_take (i := 5) (v := ?_) rfl (by kernel_rfl) (by kernel_rfl) (by kernel_rfl) (fun _ _ _ h => h) (Or.inl ⟨by kernel_rfl, ?_⟩) ?_
    rotate_left
    · intro w
      go_simp
      try with_reducible rfl
    simp only [Act.put, List.getElem_toArray, List.getElem_cons_zero, List.getElem_cons_succ, List.setIfInBounds_toArray, List.set_cons_zero, List.set_cons_succ]
    refine wpAny_take (i := 6) (v := ?_) rfl (by kernel_rfl) (by kernel_rfl) (by kernel_rfl) (fun _ _ _ h => h) (Or.inl ⟨by kernel_rfl, ?_⟩) ?_
    rotate_left
    · intro w
      go_simp
      try with_reducible rfl
    simp only [Act.put, List.getElem_toArray, List.getElem_cons_zero, List.getElem_cons_succ, List.setIfInBounds_toArray, List.set_cons_zero, List.set_cons_succ]
    refine wpAny_take (i := 7) (v := ?_) rfl (by kernel_rfl) (by kernel_rfl) (by kernel_rfl) (fun _ _ _ h => h) (Or.inl ⟨by kernel_rfl, ?_⟩) ?_
    rotate_left
    · intro w
      go_simp
      try with_reducible rfl
    simp only [Act.put, List.getElem_toArray, List.getElem_cons_zero, List.getElem_cons_succ, List.setIfInBounds_toArray, List.set_cons_zero, List.set_cons_succ]
    refine wpAny_take (i := 9) (v := ?_) rfl (by kernel_rfl) (by kernel_rfl) (by kernel_rfl) (fun _ _ _ h => h) (Or.inl ⟨by kernel_rfl, ?_⟩) ?_
    rotate_left
    · intro w
      go_simp
      try with_reducible rfl
    simp only [Act.put, List.getElem_toArray, List.getElem_cons_zero, List.getElem_cons_succ, List.setIfInBounds_toArray, List.set_cons_zero, List.set_cons_succ]
    refine wpAny_take (i := 10) (v := ?_) rfl (by kernel_rfl) (by kernel_rfl) (by kernel_rfl) (fun _ _ _ h => h) (Or.inl ⟨by kernel_rfl, ?_⟩) ?_
    rotate_left
    · intro w
      go_simp
      try with_reducible rfl
    simp only [Act.put, List.getElem_toArray, List.getElem_cons_zero, List.getElem_cons_succ, List.setIfInBounds_toArray, List.set_cons_zero, List.set_cons_succ]
    refine wpAny_ready (rs := [4, 8]) (by kernel_rfl) (by simp) (AllReady.cons rfl (fun K hK => ?_) (AllReady.cons rfl (fun K hK => ?_) AllReady.nil))
    · skip
      go_simp
      refine hK _ _ ?_
      clear hK K
      try simp only [Act.put, List.setIfInBounds_toArray, List.set_cons_zero, List.set_cons_succ]
      refine wpAny_ready (rs := [8]) (by kernel_rfl) (by simp) (AllReady.cons rfl (fun K hK => ?_) AllReady.nil)
      go_simp
      refine hK _ _ ?_
      clear hK K
      try simp only [Act.put, List.setIfInBounds_toArray, List.set_cons_zero, List.set_cons_succ]
      refine wpAny_take (i := 11) (v := ?_) rfl (by kernel_rfl) (by kernel_rfl) (by kernel_rfl) (fun _ _ _ h => h) (Or.inl ⟨by kernel_rfl, ?_⟩) ?_
      rotate_left
      · intro w
        go_simp
        try with_reducible rfl
      simp only [Act.put, List.getElem_toArray, List.getElem_cons_zero, List.getElem_cons_succ, List.setIfInBounds_toArray, List.set_cons_zero, List.set_cons_succ]
      refine wpAny_ready (rs := [12]) (by kernel_rfl) (by simp) (Go.BigFrame.allReady_want rfl (by kernel_rfl) (fun K hK => ?_) AllReady.nil)
      refine wp_build_th (.tmp 32) (by kernel_rfl) x name none (by kernel_rfl) ?_
      try simp only [fnV]
      refine hK _ _ ?_
      clear hK K
      try simp only [Act.put, List.setIfInBounds_toArray, List.set_cons_zero, List.set_cons_succ]
      refine wpAny_ready (rs := [13]) (by kernel_rfl) (by simp) (AllReady.cons rfl (fun K hK => ?_) AllReady.nil)
      refine step_append_lies _ (by rfl) (.tmp 25) (.tmp 33) 87 (by rfl) B 101 ir _ 3 32 Try.underlying87 hi hz0 hz1 hz2 rfl (by omega) (.slice a n c) n (hc L) (by kernel_rfl) (own_below OD.out BA.out) ⟨wd.heap.size, 0, none⟩ 1 1 [.int .i64 x, .string name, .nilFunc] (by kernel_rfl) (by rfl) (World.news_of_block (cs := #[.int .i64 x, .string name, .nilFunc]) (t := 101) (fr := (0, 0)) (heap_alloc_new wd _)) (hc_one [⟨x, name, none⟩]) (by omega) (by unfold maxLen; omega) (by omega) (by have := HB.out; simp; omega) (wd.heap.size + 1) (by simp) ?_
      intro g2 cap2 w5 hown2 hgrow2 hat2 hlt2
      have FIN : Hid (_) := Lib.hid (put_fin (L := L) (fn := none) (LD.out.below BA.out) (by rw [HN.out]; exact E0.out) (by rw [HN.out]; exact own_below OD.out BA.out) (by rw [HN.out]; exact hown2) (by rw [HN.out]; exact hgrow2))
      rw [HN.out] at FIN
      have x5 := FIN.out.1.1
      have f5 := FIN.out.1.2
      clear hown2 hgrow2 hat2 hlt2
      refine hK _ _ ?_
      clear hK K
      try simp only [Act.put, List.setIfInBounds_toArray, List.set_cons_zero, List.set_cons_succ]
      refine wpAny_take (i := 14) (v := ?_) rfl (by kernel_rfl) (by kernel_rfl) (by kernel_rfl) (fun _ _ _ h => h) (Or.inl ⟨by kernel_rfl, ?_⟩) ?_
      rotate_left
      · intro w
        go_simp
        try with_reducible rfl
      simp only [Act.put, List.getElem_toArray, List.getElem_cons_zero, List.getElem_cons_succ, List.setIfInBounds_toArray, List.set_cons_zero, List.set_cons_succ]
      refine wpAny_take (i := 15) (v := ?_) rfl (by kernel_rfl) (by kernel_rfl) (by kernel_rfl) (fun _ _ _ h => h) (Or.inl ⟨by kernel_rfl, ?_⟩) ?_
      rotate_left
      · intro w
        go_simp
        try with_reducible rfl
      simp only [Act.put, List.getElem_toArray, List.getElem_cons_zero, List.getElem_cons_succ, List.setIfInBounds_toArray, List.set_cons_zero, List.set_cons_succ]
      refine wpAny_ready (rs := [16]) (by kernel_rfl) (by simp) (AllReady.cons rfl (fun K hK => ?_) AllReady.nil)
      go_simp
      refine hK _ _ ?_
      clear hK K
      try simp only [Act.put, List.setIfInBounds_toArray, List.set_cons_zero, List.set_cons_succ]
      refine wpAny_done (by kernel_rfl) ?_ _
      go_wp2_with fail
      go_meet
      rw [HX.out]
      exact Lib.hid ⟨FIN.out.2.1, RD.out.trans ((Rel.alloc _ _).trans FIN.out.2.2)⟩
    · skip
      go_simp
      refine hK _ _ ?_
      clear hK K
      try simp only [Act.put, List.setIfInBounds_toArray, List.set_cons_zero, List.set_cons_succ]
      refine wpAny_take (i := 11) (v := ?_) rfl (by kernel_rfl) (by kernel_rfl) (by kernel_rfl) (fun _ _ _ h => h) (Or.inl ⟨by kernel_rfl, ?_⟩) ?_
      rotate_left
      · intro w
        go_simp
        try with_reducible rfl
      simp only [Act.put, List.getElem_toArray, List.getElem_cons_zero, List.getElem_cons_succ, List.setIfInBounds_toArray, List.set_cons_zero, List.set_cons_succ]
      refine wpAny_ready (rs := [4, 12]) (by kernel_rfl) (by simp) (AllReady.cons rfl (fun K hK => ?_) (Go.BigFrame.allReady_want rfl (by kernel_rfl) (fun K hK => ?_) AllReady.nil))
      · skip
        go_simp
        refine hK _ _ ?_
        clear hK K
        try simp only [Act.put, List.setIfInBounds_toArray, List.set_cons_zero, List.set_cons_succ]
        refine wpAny_ready (rs := [12]) (by kernel_rfl) (by simp) (Go.BigFrame.allReady_want rfl (by kernel_rfl) (fun K hK => ?_) AllReady.nil)
        refine wp_build_th (.tmp 32) (by kernel_rfl) x name none (by kernel_rfl) ?_
        try simp only [fnV]
        refine hK _ _ ?_
        clear hK K
        try simp only [Act.put, List.setIfInBounds_toArray, List.set_cons_zero, List.set_cons_succ]
        refine wpAny_ready (rs := [13]) (by kernel_rfl) (by simp) (AllReady.cons rfl (fun K hK => ?_) AllReady.nil)
        refine step_append_lies _ (by rfl) (.tmp 25) (.tmp 33) 87 (by rfl) B 101 ir _ 3 32 Try.underlying87 hi hz0 hz1 hz2 rfl (by omega) (.slice a n c) n (hc L) (by kernel_rfl) (own_below OD.out BA.out) ⟨wd.heap.size, 0, none⟩ 1 1 [.int .i64 x, .string name, .nilFunc] (by kernel_rfl) (by rfl) (World.news_of_block (cs := #[.int .i64 x, .string name, .nilFunc]) (t := 101) (fr := (0, 0)) (heap_alloc_new wd _)) (hc_one [⟨x, name, none⟩]) (by omega) (by unfold maxLen; omega) (by omega) (by have := HB.out; simp; omega) (wd.heap.size + 1) (by simp) ?_
        intro g2 cap2 w5 hown2 hgrow2 hat2 hlt2
        have FIN : Hid (_) := Lib.hid (put_fin (L := L) (fn := none) (LD.out.below BA.out) (by rw [HN.out]; exact E0.out) (by rw [HN.out]; exact own_below OD.out BA.out) (by rw [HN.out]; exact hown2) (by rw [HN.out]; exact hgrow2))
        rw [HN.out] at FIN
        have x5 := FIN.out.1.1
        have f5 := FIN.out.1.2
        clear hown2 hgrow2 hat2 hlt2
        refine hK _ _ ?_
        clear hK K
        try simp only [Act.put, List.setIfInBounds_toArray, List.set_cons_zero, List.set_cons_succ]
        refine wpAny_take (i := 14) (v := ?_) rfl (by kernel_rfl) (by kernel_rfl) (by kernel_rfl) (fun _ _ _ h => h) (Or.inl ⟨by kernel_rfl, ?_⟩) ?_
        rotate_left
        · intro w
          go_simp
          try with_reducible rfl
        simp only [Act.put, List.getElem_toArray, List.getElem_cons_zero, List.getElem_cons_succ, List.setIfInBounds_toArray, List.set_cons_zero, List.set_cons_succ]
        refine wpAny_take (i := 15) (v := ?_) rfl (by kernel_rfl) (by kernel_rfl) (by kernel_rfl) (fun _ _ _ h => h) (Or.inl ⟨by kernel_rfl, ?_⟩) ?_
        rotate_left
        · intro w
          go_simp
          try with_reducible rfl
        simp only [Act.put, List.getElem_toArray, List.getElem_cons_zero, List.getElem_cons_succ, List.setIfInBounds_toArray, List.set_cons_zero, List.set_cons_succ]
        refine wpAny_ready (rs := [16]) (by kernel_rfl) (by simp) (AllReady.cons rfl (fun K hK => ?_) AllReady.nil)
        go_simp
        refine hK _ _ ?_
        clear hK K
        try simp only [Act.put, List.setIfInBounds_toArray, List.set_cons_zero, List.set_cons_succ]
        refine wpAny_done (by kernel_rfl) ?_ _
        go_wp2_with fail
        go_meet
        rw [HX.out]
        exact Lib.hid ⟨FIN.out.2.1, RD.out.trans ((Rel.alloc _ _).trans FIN.out.2.2)⟩
      · skip
        refine wp_build_th (.tmp 32) (by kernel_rfl) x name none (by kernel_rfl) ?_
        try simp only [fnV]
        refine hK _ _ ?_
        clear hK K
        try simp only [Act.put, List.setIfInBounds_toArray, List.set_cons_zero, List.set_cons_succ]
        refine wpAny_ready (rs := [4]) (by kernel_rfl) (by simp) (AllReady.cons rfl (fun K hK => ?_) AllReady.nil)
        go_simp
        refine hK _ _ ?_
        clear hK K
        try simp only [Act.put, List.setIfInBounds_toArray, List.set_cons_zero, List.set_cons_succ]
        refine wpAny_ready (rs := [13]) (by kernel_rfl) (by simp) (AllReady.cons rfl (fun K hK => ?_) AllReady.nil)
        refine step_append_lies _ (by rfl) (.tmp 25) (.tmp 33) 87 (by rfl) B 101 ir _ 3 32 Try.underlying87 hi hz0 hz1 hz2 rfl (by omega) (.slice a n c) n (hc L) (by kernel_rfl) (own_below OD.out BA.out) ⟨wd.heap.size, 0, none⟩ 1 1 [.int .i64 x, .string name, .nilFunc] (by kernel_rfl) (by rfl) (World.news_of_block (cs := #[.int .i64 x, .string name, .nilFunc]) (t := 101) (fr := (0, 0)) (heap_alloc_new wd _)) (hc_one [⟨x, name, none⟩]) (by omega) (by unfold maxLen; omega) (by omega) (by have := HB.out; simp; omega) (wd.heap.size + 1) (by simp) ?_
        intro g2 cap2 w5 hown2 hgrow2 hat2 hlt2
        have FIN : Hid (_) := Lib.hid (put_fin (L := L) (fn := none) (LD.out.below BA.out) (by rw [HN.out]; exact E0.out) (by rw [HN.out]; exact own_below OD.out BA.out) (by rw [HN.out]; exact hown2) (by rw [HN.out]; exact hgrow2))
        rw [HN.out] at FIN
        have x5 := FIN.out.1.1
        have f5 := FIN.out.1.2
        clear hown2 hgrow2 hat2 hlt2
        refine hK _ _ ?_
        clear hK K
        try simp only [Act.put, List.setIfInBounds_toArray, List.set_cons_zero, List.set_cons_succ]
        refine wpAny_take (i := 14) (v := ?_) rfl (by kernel_rfl) (by kernel_rfl) (by kernel_rfl) (fun _ _ _ h => h) (Or.inl ⟨by kernel_rfl, ?_⟩) ?_
        rotate_left
        · intro w
          go_simp
          try with_reducible rfl
        simp only [Act.put, List.getElem_toArray, List.getElem_cons_zero, List.getElem_cons_succ, List.setIfInBounds_toArray, List.set_cons_zero, List.set_cons_succ]
        refine wpAny_take (i := 15) (v := ?_) rfl (by kernel_rfl) (by kernel_rfl) (by kernel_rfl) (fun _ _ _ h => h) (Or.inl ⟨by kernel_rfl, ?_⟩) ?_
        rotate_left
        · intro w
          go_simp
          try with_reducible rfl
        simp only [Act.put, List.getElem_toArray, List.getElem_cons_zero, List.getElem_cons_succ, List.setIfInBounds_toArray, List.set_cons_zero, List.set_cons_succ]
        refine wpAny_ready (rs := [16]) (by kernel_rfl) (by simp) (AllReady.cons rfl (fun K hK => ?_) AllReady.nil)
        go_simp
        refine hK _ _ ?_
        clear hK K
        try simp only [Act.put, List.setIfInBounds_toArray, List.set_cons_zero, List.set_cons_succ]
        refine wpAny_done (by kernel_rfl) ?_ _
        go_wp2_with fail
        go_meet
        rw [HX.out]
        exact Lib.hid ⟨FIN.out.2.1, RD.out.trans ((Rel.alloc _ _).trans FIN.out.2.2)⟩
  case rest =>
    obtain ⟨_, _, _, c1, _, _, _⟩ := hcut.out.1.cells
    go_wp2_with fail
    go_ret2
    exact ⟨rfl, hcut.out.1, hcut.out.2⟩
set_option maxHeartbeats 8000000 in
set_option maxRecDepth 100000 in
theorem put_room1 {w : World} {B b : Nat} {L : List Th} {last : Int} {busy closed : Bool} (h : BagAt w B b L last busy closed) (hB : B ≤ w.heap.size) (hlen : L.length < 256) (hl0 : 0 ≤ last) (hl1 : last ≤ 4611686018427387904) (name : ByteArray) (kf : Nat) (cf : Array Value) :
    Calls Try.prog 61 #[.pointer (some ⟨b, 0, none⟩), .string name, .func (.func kf) #[] cf] w fun e w' => e = .returned (.tuple #[.int .i64 (last + 1), .int .i64 0]) ∧ BagAt w' B b (L ++ [⟨last + 1, name, some (kf, cf)⟩]) (last + 1) busy closed ∧ Rel B (SB b) w w' := by
  obtain ⟨ir, hi, hz0, hz1, hz2⟩ := info_parts infoT
  obtain ⟨a, c, c0, c1, c2, c3, ho⟩ := h.cells
  have f1 := h.frozen 1
  have HH := Lib.hid h
  have HB := Lib.hid hB
  have HL := Lib.hid (h.setLast (last + 1))
  have RL := Lib.hid (h.relSet 1 (.int .i64 (last + 1)) (SB b) (fun C z => .inl ⟨rfl, C, z, rfl⟩) (Nat.le_refl _))
  obtain ⟨n, hn⟩ : ∃ n, L.length = n := ⟨_, rfl⟩
  have HN := Lib.hid hn
  have hge : ¬ ((n : Int) ≥ 256) := by omega
  clear h
  rw [hn] at c0 ho hlen
  have HO := Lib.hid ho
  clear ho hn
  go_enter Try.func61, Try.ntmps61
  go_upto_region 4 with fail
  go_cut [] (fun wx => Hid (BagAt wx B b (L ++ [⟨last + 1, name, some (kf, cf)⟩]) (last + 1) busy closed ∧ Rel B (SB b) w wx))
  case first => as_aux_lemma => --ok
    refine wp_region_any (by kernel_rfl) ?_
    have LD := Lib.hid (HL.out.below ((Below.refl _ (w.setCell ⟨b, 1, none⟩ (.int .i64 (last + 1)))).drew))
    have OD : Hid ((w.setCell ⟨b, 1, none⟩ (.int .i64 (last + 1))).drew.ownsRow B 101 3 (.slice a n c) n (hc L)) := Lib.hid (own_below (own_setBag HO.out (by decide) HH.out.2.choose_spec.1 _) ((Below.refl _ (w.setCell ⟨b, 1, none⟩ (.int .i64 (last + 1)))).drew))
    have RD := Lib.hid (RL.out.drew)
    have D0 : Hid ((w.setCell ⟨b, 1, none⟩ (.int .i64 (last + 1))).drew.cell? ⟨b, 0, none⟩ = some (.slice a n c)) := Lib.hid ((World.cell?_setCell_other _ _ _ _ (by simp)).trans c0)
    have hBd : B ≤ (w.setCell ⟨b, 1, none⟩ (.int .i64 (last + 1))).drew.heap.size := Nat.le_trans HB.out RD.out.size
    have HB := Lib.hid hBd
    change wpAny _ _ _ _ _ _ _ (w.setCell ⟨b, 1, none⟩ (.int .i64 (last + 1))).drew
    obtain ⟨x, hx⟩ : ∃ x, last + 1 = x := ⟨_, rfl⟩
    rw [hx] at LD OD RD HB D0 ⊢
    have HX := Lib.hid hx
    generalize (w.setCell ⟨b, 1, none⟩ (.int .i64 x)).drew = wd at *
    clear hBd HL RL c0 c1 c2 c3 f1 HO HH hx
    have d0 : wd.cell? ⟨b, 0, none⟩ = some (.slice a n c) := D0.out
    obtain ⟨_, _, _, d1, _, _, _⟩ := LD.out.cells
    have BA : Hid (Below wd.heap.size wd (wd.alloc (.cells #[.int .i64 x, .string name, .func (.func kf) #[] cf] 101))) := Lib.hid ((Below.refl _ wd).alloc (Nat.le_refl _) _)
    have e0 : (wd.alloc (.cells #[.int .i64 x, .string name, .func (.func kf) #[] cf] 101)).cell? ⟨b, 0, none⟩ = some (.slice a n c) := (BA.out.cell (p := ⟨b, 0, none⟩) (World.block_lt_of_cell? wd _ d0)).trans d0
    have E0 := Lib.hid e0
    refine wpAny_take (i := 0) (v := ?_) rfl (by kernel_rfl) (by kernel_rfl) (by kernel_rfl) (fun _ _ _ h => h) (Or.inl ⟨by kernel_rfl, ?_⟩) ?_
    rotate_left
    · intro w
      go_simp
      try with_reducible rfl
    simp only [Act.put, List.getElem_toArray, List.getElem_cons_zero, List.getElem_cons_succ, List.setIfInBounds_toArray, List.set_cons_zero, List.set_cons_succ]
    refine wpAny_take (i := 1) (v := ?_) rfl (by kernel_rfl) (by kernel_rfl) (by kernel_rfl) (fun _ _ _ h => h) (Or.inl ⟨by kernel_rfl, ?_⟩) ?_
    rotate_left
    · intro w
      go_simp
      try with_reducible rfl
    simp only [Act.put, List.getElem_toArray, List.getElem_cons_zero, List.getElem_cons_succ, List.setIfInBounds_toArray, List.set_cons_zero, List.set_cons_succ]
    refine wpAny_take (i := 2) (v := ?_) rfl (by kernel_rfl) (by kernel_rfl) (by kernel_rfl) (fun _ _ _ h => h) (Or.inl ⟨by kernel_rfl, ?_⟩) ?_
    rotate_left
    · intro w
      go_simp
      try with_reducible rfl
    simp only [Act.put, List.getElem_toArray, List.getElem_cons_zero, List.getElem_cons_succ, List.setIfInBounds_toArray, List.set_cons_zero, List.set_cons_succ]
    refine wpAny_take (i := 3) (v := ?_) rfl (by kernel_rfl) (by kernel_rfl) (by kernel_rfl) (fun _ _ _ h => h) (Or.inl ⟨by kernel_rfl, ?_⟩) ?_
    rotate_left
    · intro w
      go_simp
      try with_reducible rfl
    simp only [Act.put, List.getElem_toArray, List.getElem_cons_zero, List.getElem_cons_succ, List.setIfInBounds_toArray, List.set_cons_zero, List.set_cons_succ]
    refine wpAny_take (i := 5) (v := ?_) rfl (by kernel_rfl) (by kernel_rfl) (by kernel_rfl) (fun _ _ _ h => h) (Or.inl ⟨by kernel_rfl, ?_⟩) ?_
    rotate_left
    · intro w
      go_simp
      try with_reducible rfl
    simp only [Act.put, List.getElem_toArray, List.getElem_cons_zero, List.getElem_cons_succ, List.setIfInBounds_toArray, List.set_cons_zero, List.set_cons_succ]
    refine wpAny_take (i := 6) (v := ?_) rfl (by kernel_rfl) (by kernel_rfl) (by kernel_rfl) (fun _ _ _ h => h) (Or.inl ⟨by kernel_rfl, ?_⟩) ?_
    rotate_left
    · intro w
      go_simp
      try with_reducible rfl
    simp only [Act.put, List.getElem_toArray, List.getElem_cons_zero, List.getElem_cons_succ, List.setIfInBounds_toArray, List.set_cons_zero, List.set_cons_succ]
    refine wpAny_take (i := 7) (v := ?_) rfl (by kernel_rfl) (by kernel_rfl) (by kernel_rfl) (fun _ _ _ h => h) (Or.inl ⟨by kernel_rfl, ?_⟩) ?_
    rotate_left
    · intro w
      go_simp
      try with_reducible rfl
    simp only [Act.put, List.getElem_toArray, List.getElem_cons_zero, List.getElem_cons_succ, List.setIfInBounds_toArray, List.set_cons_zero, List.set_cons_succ]
    refine wpAny_take (i := 9) (v := ?_) rfl (by kernel_rfl) (by kernel_rfl) (by kernel_rfl) (fun _ _ _ h => h) (Or.inl ⟨by kernel_rfl, ?_⟩) ?_
    rotate_left
    · intro w
      go_simp
      try with_reducible rfl
    simp only [Act.put, List.getElem_toArray, List.getElem_cons_zero, List.getElem_cons_succ, List.setIfInBounds_toArray, List.set_cons_zero, List.set_cons_succ]
    refine wpAny_take (i := 10) (v := ?_) rfl (by kernel_rfl) (by kernel_rfl) (by kernel_rfl) (fun _ _ _ h => h) (Or.inl ⟨by kernel_rfl, ?_⟩) ?_
    rotate_left
    · intro w
      go_simp
      try with_reducible rfl
    simp only [Act.put, List.getElem_toArray, List.getElem_cons_zero, List.getElem_cons_succ, List.setIfInBounds_toArray, List.set_cons_zero, List.set_cons_succ]
    refine wpAny_ready (rs := [4, 8]) (by kernel_rfl) (by simp) (AllReady.cons rfl (fun K hK => ?_) (AllReady.cons rfl (fun K hK => ?_) AllReady.nil))
    · skip
      go_simp
      refine hK _ _ ?_
      clear hK K
      try simp only [Act.put, List.setIfInBounds_toArray, List.set_cons_zero, List.set_cons_succ]
      refine wpAny_ready (rs := [8]) (by kernel_rfl) (by simp) (AllReady.cons rfl (fun K hK => ?_) AllReady.nil)
      go_simp
      refine hK _ _ ?_
      clear hK K
      try simp only [Act.put, List.setIfInBounds_toArray, List.set_cons_zero, List.set_cons_succ]
      refine wpAny_take (i := 11) (v := ?_) rfl (by kernel_rfl) (by kernel_rfl) (by kernel_rfl) (fun _ _ _ h => h) (Or.inl ⟨by kernel_rfl, ?_⟩) ?_
      rotate_left
      · intro w
        go_simp
        try with_reducible rfl
      simp only [Act.put, List.getElem_toArray, List.getElem_cons_zero, List.getElem_cons_succ, List.setIfInBounds_toArray, List.set_cons_zero, List.set_cons_succ]
      refine wpAny_ready (rs := [12]) (by kernel_rfl) (by simp) (Go.BigFrame.allReady_want rfl (by kernel_rfl) (fun K hK => ?_) AllReady.nil)
      refine wp_build_th (.tmp 32) (by kernel_rfl) x name (some (kf, cf)) (by kernel_rfl) ?_
      try simp only [fnV]
      refine hK _ _ ?_
      clear hK K
      try simp only [Act.put, List.setIfInBounds_toArray, List.set_cons_zero, List.set_cons_succ]
      refine wpAny_ready (rs := [13]) (by kernel_rfl) (by simp) (AllReady.cons rfl (fun K hK => ?_) AllReady.nil)
      refine step_append_lies _ (by rfl) (.tmp 25) (.tmp 33) 87 (by rfl) B 101 ir _ 3 32 Try.underlying87 hi hz0 hz1 hz2 rfl (by omega) (.slice a n c) n (hc L) (by kernel_rfl) (own_below OD.out BA.out) ⟨wd.heap.size, 0, none⟩ 1 1 [.int .i64 x, .string name, .func (.func kf) #[] cf] (by kernel_rfl) (by rfl) (World.news_of_block (cs := #[.int .i64 x, .string name, .func (.func kf) #[] cf]) (t := 101) (fr := (0, 0)) (heap_alloc_new wd _)) (hc_one [⟨x, name, some (kf, cf)⟩]) (by omega) (by unfold maxLen; omega) (by omega) (by have := HB.out; simp; omega) (wd.heap.size + 1) (by simp) ?_
      intro g2 cap2 w5 hown2 hgrow2 hat2 hlt2
      have FIN : Hid (_) := Lib.hid (put_fin (L := L) (fn := some (kf, cf)) (LD.out.below BA.out) (by rw [HN.out]; exact E0.out) (by rw [HN.out]; exact own_below OD.out BA.out) (by rw [HN.out]; exact hown2) (by rw [HN.out]; exact hgrow2))
      rw [HN.out] at FIN
      have x5 := FIN.out.1.1
      have f5 := FIN.out.1.2
      clear hown2 hgrow2 hat2 hlt2
      refine hK _ _ ?_
      clear hK K
      try simp only [Act.put, List.setIfInBounds_toArray, List.set_cons_zero, List.set_cons_succ]
      refine wpAny_take (i := 14) (v := ?_) rfl (by kernel_rfl) (by kernel_rfl) (by kernel_rfl) (fun _ _ _ h => h) (Or.inl ⟨by kernel_rfl, ?_⟩) ?_
      rotate_left
      · intro w
        go_simp
        try with_reducible rfl
      simp only [Act.put, List.getElem_toArray, List.getElem_cons_zero, List.getElem_cons_succ, List.setIfInBounds_toArray, List.set_cons_zero, List.set_cons_succ]
      refine wpAny_take (i := 15) (v := ?_) rfl (by kernel_rfl) (by kernel_rfl) (by kernel_rfl) (fun _ _ _ h => h) (Or.inl ⟨by kernel_rfl, ?_⟩) ?_
      rotate_left
      · intro w
        go_simp
        try with_reducible rfl
      simp only [Act.put, List.getElem_toArray, List.getElem_cons_zero, List.getElem_cons_succ, List.setIfInBounds_toArray, List.set_cons_zero, List.set_cons_succ]
      refine wpAny_ready (rs := [16]) (by kernel_rfl) (by simp) (AllReady.cons rfl (fun K hK => ?_) AllReady.nil)
      go_simp
      refine hK _ _ ?_
      clear hK K
      try simp only [Act.put, List.setIfInBounds_toArray, List.set_cons_zero, List.set_cons_succ]
      refine wpAny_done (by kernel_rfl) ?_ _
      go_wp2_with fail
      go_meet
      rw [HX.out]
      exact Lib.hid ⟨FIN.out.2.1, RD.out.trans ((Rel.alloc _ _).trans FIN.out.2.2)⟩
    · skip
      go_simp
      refine hK _ _ ?_
      clear hK K
      try simp only [Act.put, List.setIfInBounds_toArray, List.set_cons_zero, List.set_cons_succ]
      refine wpAny_take (i := 11) (v := ?_) rfl (by kernel_rfl) (by kernel_rfl) (by kernel_rfl) (fun _ _ _ h => h) (Or.inl ⟨by kernel_rfl, ?_⟩) ?_
      rotate_left
      · intro w
        go_simp
        try with_reducible rfl
      simp only [Act.put, List.getElem_toArray, List.getElem_cons_zero, List.getElem_cons_succ, List.setIfInBounds_toArray, List.set_cons_zero, List.set_cons_succ]
      refine wpAny_ready (rs := [4, 12]) (by kernel_rfl) (by simp) (AllReady.cons rfl (fun K hK => ?_) (Go.BigFrame.allReady_want rfl (by kernel_rfl) (fun K hK => ?_) AllReady.nil))
      · skip
        go_simp
        refine hK _ _ ?_
        clear hK K
        try simp only [Act.put, List.setIfInBounds_toArray, List.set_cons_zero, List.set_cons_succ]
        refine wpAny_ready (rs := [12]) (by kernel_rfl) (by simp) (Go.BigFrame.allReady_want rfl (by kernel_rfl) (fun K hK => ?_) AllReady.nil)
        refine wp_build_th (.tmp 32) (by kernel_rfl) x name (some (kf, cf)) (by kernel_rfl) ?_
        try simp only [fnV]
        refine hK _ _ ?_
        clear hK K
        try simp only [Act.put, List.setIfInBounds_toArray, List.set_cons_zero, List.set_cons_succ]
        refine wpAny_ready (rs := [13]) (by kernel_rfl) (by simp) (AllReady.cons rfl (fun K hK => ?_) AllReady.nil)
        refine step_append_lies _ (by rfl) (.tmp 25) (.tmp 33) 87 (by rfl) B 101 ir _ 3 32 Try.underlying87 hi hz0 hz1 hz2 rfl (by omega) (.slice a n c) n (hc L) (by kernel_rfl) (own_below OD.out BA.out) ⟨wd.heap.size, 0, none⟩ 1 1 [.int .i64 x, .string name, .func (.func kf) #[] cf] (by kernel_rfl) (by rfl) (World.news_of_block (cs := #[.int .i64 x, .string name, .func (.func kf) #[] cf]) (t := 101) (fr := (0, 0)) (heap_alloc_new wd _)) (hc_one [⟨x, name, some (kf, cf)⟩]) (by omega) (by unfold maxLen; omega) (by omega) (by have := HB.out; simp; omega) (wd.heap.size + 1) (by simp) ?_
        intro g2 cap2 w5 hown2 hgrow2 hat2 hlt2
        have FIN : Hid (_) := Lib.hid (put_fin (L := L) (fn := some (kf, cf)) (LD.out.below BA.out) (by rw [HN.out]; exact E0.out) (by rw [HN.out]; exact own_below OD.out BA.out) (by rw [HN.out]; exact hown2) (by rw [HN.out]; exact hgrow2))
        rw [HN.out] at FIN
        have x5 := FIN.out.1.1
        have f5 := FIN.out.1.2
        clear hown2 hgrow2 hat2 hlt2
        refine hK _ _ ?_
        clear hK K
        try simp only [Act.put, List.setIfInBounds_toArray, List.set_cons_zero, List.set_cons_succ]
        refine wpAny_take (i := 14) (v := ?_) rfl (by kernel_rfl) (by kernel_rfl) (by kernel_rfl) (fun _ _ _ h => h) (Or.inl ⟨by kernel_rfl, ?_⟩) ?_
        rotate_left
        · intro w
          go_simp
          try with_reducible rfl
        simp only [Act.put, List.getElem_toArray, List.getElem_cons_zero, List.getElem_cons_succ, List.setIfInBounds_toArray, List.set_cons_zero, List.set_cons_succ]
        refine wpAny_take (i := 15) (v := ?_) rfl (by kernel_rfl) (by kernel_rfl) (by kernel_rfl) (fun _ _ _ h => h) (Or.inl ⟨by kernel_rfl, ?_⟩) ?_
        rotate_left
        · intro w
          go_simp
          try with_reducible rfl
        simp only [Act.put, List.getElem_toArray, List.getElem_cons_zero, List.getElem_cons_succ, List.setIfInBounds_toArray, List.set_cons_zero, List.set_cons_succ]
        refine wpAny_ready (rs := [16]) (by kernel_rfl) (by simp) (AllReady.cons rfl (fun K hK => ?_) AllReady.nil)
        go_simp
        refine hK _ _ ?_
        clear hK K
        try simp only [Act.put, List.setIfInBounds_toArray, List.set_cons_zero, List.set_cons_succ]
        refine wpAny_done (by kernel_rfl) ?_ _
        go_wp2_with fail
        go_meet
        rw [HX.out]
        exact Lib.hid ⟨FIN.out.2.1, RD.out.trans ((Rel.alloc _ _).trans FIN.out.2.2)⟩
      · skip
        refine wp_build_th (.tmp 32) (by kernel_rfl) x name (some (kf, cf)) (by kernel_rfl) ?_
        try simp only [fnV]
        refine hK _ _ ?_
        clear hK K
        try simp only [Act.put, List.setIfInBounds_toArray, List.set_cons_zero, List.set_cons_succ]
        refine wpAny_ready (rs := [4]) (by kernel_rfl) (by simp) (AllReady.cons rfl (fun K hK => ?_) AllReady.nil)
        go_simp
        refine hK _ _ ?_
        clear hK K
        try simp only [Act.put, List.setIfInBounds_toArray, List.set_cons_zero, List.set_cons_succ]
        refine wpAny_ready (rs := [13]) (by kernel_rfl) (by simp) (AllReady.cons rfl (fun K hK => ?_) AllReady.nil)
        refine step_append_lies _ (by rfl) (.tmp 25) (.tmp 33) 87 (by rfl) B 101 ir _ 3 32 Try.underlying87 hi hz0 hz1 hz2 rfl (by omega) (.slice a n c) n (hc L) (by kernel_rfl) (own_below OD.out BA.out) ⟨wd.heap.size, 0, none⟩ 1 1 [.int .i64 x, .string name, .func (.func kf) #[] cf] (by kernel_rfl) (by rfl) (World.news_of_block (cs := #[.int .i64 x, .string name, .func (.func kf) #[] cf]) (t := 101) (fr := (0, 0)) (heap_alloc_new wd _)) (hc_one [⟨x, name, some (kf, cf)⟩]) (by omega) (by unfold maxLen; omega) (by omega) (by have := HB.out; simp; omega) (wd.heap.size + 1) (by simp) ?_
        intro g2 cap2 w5 hown2 hgrow2 hat2 hlt2
        have FIN : Hid (_) := Lib.hid (put_fin (L := L) (fn := some (kf, cf)) (LD.out.below BA.out) (by rw [HN.out]; exact E0.out) (by rw [HN.out]; exact own_below OD.out BA.out) (by rw [HN.out]; exact hown2) (by rw [HN.out]; exact hgrow2))
        rw [HN.out] at FIN
        have x5 := FIN.out.1.1
        have f5 := FIN.out.1.2
        clear hown2 hgrow2 hat2 hlt2
        refine hK _ _ ?_
        clear hK K
        try simp only [Act.put, List.setIfInBounds_toArray, List.set_cons_zero, List.set_cons_succ]
        refine wpAny_take (i := 14) (v := ?_) rfl (by kernel_rfl) (by kernel_rfl) (by kernel_rfl) (fun _ _ _ h => h) (Or.inl ⟨by kernel_rfl, ?_⟩) ?_
        rotate_left
        · intro w
          go_simp
          try with_reducible rfl
        simp only [Act.put, List.getElem_toArray, List.getElem_cons_zero, List.getElem_cons_succ, List.setIfInBounds_toArray, List.set_cons_zero, List.set_cons_succ]
        refine wpAny_take (i := 15) (v := ?_) rfl (by kernel_rfl) (by kernel_rfl) (by kernel_rfl) (fun _ _ _ h => h) (Or.inl ⟨by kernel_rfl, ?_⟩) ?_
        rotate_left
        · intro w
          go_simp
          try with_reducible rfl
        simp only [Act.put, List.getElem_toArray, List.getElem_cons_zero, List.getElem_cons_succ, List.setIfInBounds_toArray, List.set_cons_zero, List.set_cons_succ]
        refine wpAny_ready (rs := [16]) (by kernel_rfl) (by simp) (AllReady.cons rfl (fun K hK => ?_) AllReady.nil)
        go_simp
        refine hK _ _ ?_
        clear hK K
        try simp only [Act.put, List.setIfInBounds_toArray, List.set_cons_zero, List.set_cons_succ]
        refine wpAny_done (by kernel_rfl) ?_ _
        go_wp2_with fail
        go_meet
        rw [HX.out]
        exact Lib.hid ⟨FIN.out.2.1, RD.out.trans ((Rel.alloc _ _).trans FIN.out.2.2)⟩
  case rest =>
    obtain ⟨_, _, _, c1, _, _, _⟩ := hcut.out.1.cells
    go_wp2_with fail
    go_ret2
    exact ⟨rfl, hcut.out.1, hcut.out.2⟩
theorem put_room {w : World} {B b : Nat} {L : List Th} {last : Int} {busy closed : Bool} (h : BagAt w B b L last busy closed) (hB : B ≤ w.heap.size) (hlen : L.length < 256) (hl0 : 0 ≤ last) (hl1 : last ≤ 4611686018427387904) (name : ByteArray) (fn : Option (Nat × Array Value)) :
    Calls Try.prog 61 #[.pointer (some ⟨b, 0, none⟩), .string name, fnV fn] w fun e w' => e = .returned (.tuple #[.int .i64 (last + 1), .int .i64 0]) ∧ BagAt w' B b (L ++ [⟨last + 1, name, fn⟩]) (last + 1) busy closed ∧ Rel B (SB b) w w' := by
  rcases fn with _ | ⟨kf, cf⟩
  · exact put_room0 h hB hlen hl0 hl1 name
  · exact put_room1 h hB hlen hl0 hl1 name kf cf
set_option maxHeartbeats 1000000 in
theorem put_full {w : World} {B b : Nat} {L : List Th} {last : Int} {busy closed : Bool} (h : BagAt w B b L last busy closed) (hlen : L.length = 256) (name : ByteArray) (v : Value) :
    Calls Try.prog 61 #[.pointer (some ⟨b, 0, none⟩), .string name, v] w fun e w' => e = .returned (.tuple #[.int .i64 0, .int .i64 3]) ∧ w' = w := by
  obtain ⟨a, c, c0, _⟩ := h.cells
  rw [hlen] at c0
  clear h
  go_enter Try.func61, Try.ntmps61
  go_wp2_with fail
  go_ret2
  exact ⟨rfl, rfl⟩
theorem fn_some (k : Nat) (c : Array Value) (w : World) : (binOp BinOp.eql 73 (.func (.func k) #[] c) .nilFunc).run Try.prog w = .ok (.bool false) w := by kernel_rfl
theorem fn_none (w : World) : (binOp BinOp.eql 73 .nilFunc .nilFunc).run Try.prog w = .ok (.bool true) w := by kernel_rfl
theorem fn_some' (k : Nat) (c : Array Value) (w : World) : (binOp BinOp.neq 73 (.func (.func k) #[] c) .nilFunc).run Try.prog w = .ok (.bool true) w := by kernel_rfl
theorem fn_none' (w : World) : (binOp BinOp.neq 73 .nilFunc .nilFunc).run Try.prog w = .ok (.bool false) w := by kernel_rfl
set_option maxHeartbeats 1000000 in
theorem add_nil (name : ByteArray) (v : Value) (w : World) : Calls Try.prog 26 #[.pointer none, .string name, v] w fun e w' => e = .returned (.tuple #[.int .i64 0, .int .i64 2]) ∧ w' = w := by
  go_enter Try.func26, Try.ntmps26
  go_wp2_with fail
  go_ret2
  exact ⟨rfl, rfl⟩
set_option maxHeartbeats 1000000 in
theorem add_nofn (b : Nat) (name : ByteArray) (w : World) : Calls Try.prog 26 #[.pointer (some ⟨b, 0, none⟩), .string name, .nilFunc] w fun e w' => e = .returned (.tuple #[.int .i64 0, .int .i64 2]) ∧ w' = w := by
  have h1 := fn_none
  go_enter Try.func26, Try.ntmps26
  go_wp2_with fail
  go_ret2
  exact ⟨rfl, rfl⟩
set_option maxHeartbeats 4000000 in
theorem add_done {w : World} {B b : Nat} {L : List Th} {last : Int} {busy closed : Bool} (h : BagAt w B b L last busy closed) (hd : (closed || busy) = true) (name : ByteArray) (k : Nat) (c : Array Value) :
    Calls Try.prog 26 #[.pointer (some ⟨b, 0, none⟩), .string name, .func (.func k) #[] c] w fun e w' => e = .returned (.tuple #[.int .i64 0, .int .i64 5]) ∧ w' = w := by
  have h1 := fn_some
  have CW := wrong_any h
  rw [hd] at CW
  have CW := Lib.hid CW
  clear h hd
  go_enter Try.func26, Try.ntmps26
  go_wp2_with fail
  refine CW.out.mono ?_
  rintro e w1 ⟨rfl, rfl⟩
  go_wp2_with fail
  go_ret2
  exact ⟨rfl, rfl⟩
set_option maxHeartbeats 4000000 in
theorem add_long {w : World} {B b : Nat} {L : List Th} {last : Int} (h : BagAt w B b L last false false) (name : ByteArray) (hn : 31 < name.size) (k : Nat) (c : Array Value) :
    Calls Try.prog 26 #[.pointer (some ⟨b, 0, none⟩), .string name, .func (.func k) #[] c] w fun e w' => e = .returned (.tuple #[.int .i64 0, .int .i64 1]) ∧ w' = w := by
  have h1 := fn_some
  have hlt : (name.size : Int) > 31 := by omega
  have CW := Lib.hid (wrong_any h)
  clear h hn
  go_enter Try.func26, Try.ntmps26
  go_wp2_with fail
  refine CW.out.mono ?_
  rintro e w1 ⟨rfl, rfl⟩
  go_wp2_with fail
  go_ret2
  exact ⟨rfl, rfl⟩
set_option maxHeartbeats 4000000 in
theorem add_full {w : World} {B b : Nat} {L : List Th} {last : Int} (h : BagAt w B b L last false false) (hlen : L.length = 256) (name : ByteArray) (hn : name.size ≤ 31) (k : Nat) (c : Array Value) :
    Calls Try.prog 26 #[.pointer (some ⟨b, 0, none⟩), .string name, .func (.func k) #[] c] w fun e w' => e = .returned (.tuple #[.int .i64 0, .int .i64 3]) ∧ w' = w := by
  have h1 := fn_some
  have hlt : ¬ (name.size : Int) > 31 := by omega
  have CW := Lib.hid (wrong_any h)
  have CP := Lib.hid (put_full h hlen name (.func (.func k) #[] c))
  clear h hn hlen
  go_enter Try.func26, Try.ntmps26
  go_wp2_with fail
  refine CW.out.mono ?_
  rintro e w1 ⟨rfl, rfl⟩
  go_wp2_with fail
  refine CP.out.mono ?_
  rintro e w1 ⟨rfl, rfl⟩
  go_wp2_with fail
  go_ret2
  exact ⟨rfl, rfl⟩
set_option maxHeartbeats 4000000 in
theorem add_room {w : World} {B b : Nat} {L : List Th} {last : Int} (h : BagAt w B b L last false false) (hB : B ≤ w.heap.size) (hlen : L.length < 256) (hl0 : 0 ≤ last) (hl1 : last ≤ 4611686018427387904) (name : ByteArray) (hn : name.size ≤ 31) (k : Nat) (c : Array Value) :
    Calls Try.prog 26 #[.pointer (some ⟨b, 0, none⟩), .string name, .func (.func k) #[] c] w fun e w' => e = .returned (.tuple #[.int .i64 (last + 1), .int .i64 0]) ∧ BagAt w' B b (L ++ [⟨last + 1, name, some (k, c)⟩]) (last + 1) false false ∧ Rel B (SB b) w w' := by
  have h1 := fn_some
  have hlt : ¬ (name.size : Int) > 31 := by omega
  have CW := Lib.hid (wrong_any h)
  have CP := Lib.hid (put_room h hB hlen hl0 hl1 name (some (k, c)))
  clear h hn hlen hB
  go_enter Try.func26, Try.ntmps26
  go_wp2_with fail
  refine CW.out.mono ?_
  rintro e w1 ⟨rfl, rfl⟩
  go_wp2_with fail
  refine CP.out.mono ?_
  rintro e w1 ⟨rfl, hb, hr⟩
  have HB := Lib.hid hb
  have HR := Lib.hid hr
  clear hb hr
  go_wp2_with fail
  go_ret2
  exact ⟨rfl, HB.out, HR.out⟩
set_option maxHeartbeats 1000000 in
theorem bmark_nil (w : World) : Calls Try.prog 25 #[.pointer none] w fun e w' => e = .returned (.tuple #[.int .i64 0, .int .i64 2]) ∧ w' = w := by
  have CW := Lib.hid (wrong_nil w)
  go_enter Try.func25, Try.ntmps25
  go_wp2_with fail
  refine CW.out.mono ?_
  rintro e w1 ⟨rfl, rfl⟩
  go_wp2_with fail
  go_ret2
  exact ⟨rfl, rfl⟩
set_option maxHeartbeats 4000000 in
theorem bmark_done {w : World} {B b : Nat} {L : List Th} {last : Int} {busy closed : Bool} (h : BagAt w B b L last busy closed) (hd : (closed || busy) = true) :
    Calls Try.prog 25 #[.pointer (some ⟨b, 0, none⟩)] w fun e w' => e = .returned (.tuple #[.int .i64 0, .int .i64 5]) ∧ w' = w := by
  have CW := wrong_any h
  rw [hd] at CW
  have CW := Lib.hid CW
  clear h hd
  go_enter Try.func25, Try.ntmps25
  go_wp2_with fail
  refine CW.out.mono ?_
  rintro e w1 ⟨rfl, rfl⟩
  go_wp2_with fail
  go_ret2
  exact ⟨rfl, rfl⟩
set_option maxHeartbeats 4000000 in
theorem bmark_full {w : World} {B b : Nat} {L : List Th} {last : Int} (h : BagAt w B b L last false false) (hlen : L.length = 256) :
    Calls Try.prog 25 #[.pointer (some ⟨b, 0, none⟩)] w fun e w' => e = .returned (.tuple #[.int .i64 0, .int .i64 3]) ∧ w' = w := by
  have CW := Lib.hid (wrong_any h)
  have CP := Lib.hid (put_full h hlen ⟨#[]⟩ .nilFunc)
  clear h hlen
  go_enter Try.func25, Try.ntmps25
  go_wp2_with fail
  refine CW.out.mono ?_
  rintro e w1 ⟨rfl, rfl⟩
  go_wp2_with fail
  refine CP.out.mono ?_
  rintro e w1 ⟨rfl, rfl⟩
  go_wp2_with fail
  go_ret2
  exact ⟨rfl, rfl⟩
set_option maxHeartbeats 4000000 in
theorem bmark_room {w : World} {B b : Nat} {L : List Th} {last : Int} (h : BagAt w B b L last false false) (hB : B ≤ w.heap.size) (hlen : L.length < 256) (hl0 : 0 ≤ last) (hl1 : last ≤ 4611686018427387904) :
    Calls Try.prog 25 #[.pointer (some ⟨b, 0, none⟩)] w fun e w' => e = .returned (.tuple #[.int .i64 (last + 1), .int .i64 0]) ∧ BagAt w' B b (L ++ [⟨last + 1, ⟨#[]⟩, none⟩]) (last + 1) false false ∧ Rel B (SB b) w w' := by
  have CW := Lib.hid (wrong_any h)
  have CP := Lib.hid (put_room h hB hlen hl0 hl1 ⟨#[]⟩ none)
  clear h hlen hB
  go_enter Try.func25, Try.ntmps25
  go_wp2_with fail
  refine CW.out.mono ?_
  rintro e w1 ⟨rfl, rfl⟩
  go_wp2_with fail
  refine CP.out.mono ?_
  rintro e w1 ⟨rfl, hb, hr⟩
  have HB := Lib.hid hb
  have HR := Lib.hid hr
  clear hb hr
  go_wp2_with fail
  go_ret2
  exact ⟨rfl, HB.out, HR.out⟩
end Go.Proofs.Ytnkababhgloclaa
