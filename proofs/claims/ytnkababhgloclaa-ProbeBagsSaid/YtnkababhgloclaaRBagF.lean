/- Something is put into the document's bag: put, Add, Mark. (Printed by tools/genrput.py.) -/
import Derived.Test.YtnkababhgloclaaRBagE
import Derived.Deep.MidRow
import Derived.Deep.DeepCutAuto
import Derived.Deep.CutBlock
namespace Go.Proofs.Ytnkababhgloclaa
open Go.RowKit Go.ChangeShapes
theorem build_rt (x : Int) (tm : Bool) (tn : ByteArray) (tc : Int) (tp : Bool) (tw : ByteArray) (w : World) : (Instr.buildSlice 27 1 #[(0, .agg #[.int .i64 x, .bool tm, .string tn, .int .i64 tc, .bool tp, .string tw])]).run Try.prog w = .ok (.slice (some ⟨w.heap.size, 0, none⟩) 1 1) (w.alloc (.cells #[.int .i64 x, .bool tm, .string tn, .int .i64 tc, .bool tp, .string tw] 92)) := by go_simp
theorem wp_build_rt {o : Oper} {ac : Act} {w : World} {K : Act → World → Prop} {Q : Exit → Act → World → Prop} (y : Operand) (ho : o.op = .buildSlice 27 1 #[(0, y)]) (x : Int) (tm : Bool) (tn : ByteArray) (tc : Int) (tp : Bool) (tw : ByteArray) (hx : ac.eval y = .agg #[.int .i64 x, .bool tm, .string tn, .int .i64 tc, .bool tp, .string tw])
    (h : K (ac.put o.dst (.slice (some ⟨w.heap.size, 0, none⟩) 1 1)) (w.alloc (.cells #[.int .i64 x, .bool tm, .string tn, .int .i64 tc, .bool tp, .string tw] 92))) : o.wp Try.prog ac w K Q := by
  unfold Oper.wp execOp
  simp only [ho, Sem.run_bind, List.map_toArray, List.map_cons, List.map_nil, hx, build_rt, Result.andThen_ok]
  exact h
theorem rput_fin {w4 w5 : World} {B m : Nat} {L : List RT} {x : Int} {tm : Bool} {tn : ByteArray} {tc : Int} {tp : Bool} {tw : ByteArray} {closed : Bool} {a : Option Addr} {c g2 cap2 : Nat} (h : RBagAt w4 B m L x closed) (hcell : w4.cell? ⟨m, 0, none⟩ = some (.slice a L.length c)) (h2 : w4.ownsRow B 92 6 (.slice a L.length c) L.length (rc6 L))
    (ho : w5.ownsRow B 92 6 (.slice (some ⟨g2, 0, none⟩) (L.length + 1) cap2) (L.length + 1) (rc6 L ++ [.int .i64 x, .bool tm, .string tn, .int .i64 tc, .bool tp, .string tw])) (hg : w4.grownBy w5 (Value.ownBlock (.slice a L.length c))) :
    (w5.cell? ⟨m, 0, none⟩ = some (.slice a L.length c) ∧ w5.frozen? ⟨m, 0, none⟩ = false) ∧ RBagAt (w5.setCell ⟨m, 0, none⟩ (.slice (some ⟨g2, 0, none⟩) (L.length + 1) cap2)) B m (L ++ [⟨x, tm, tn, tc, tp, tw⟩]) x closed ∧ Rel B (SD m) w4 (w5.setCell ⟨m, 0, none⟩ (.slice (some ⟨g2, 0, none⟩) (L.length + 1) cap2)) := by
  obtain ⟨h0, v, h1, _⟩ := h
  have hv : v = .slice a L.length c := by
    have := (cell_of_row w4 m 0 _ _ _ h1).symm.trans hcell
    simpa using this
  subst hv
  have row : Rel B (SD m) w4 w5 := Rel.row (e := 92) h2 (Nat.le_refl _) hg (fun k C z => SD_row k C z)
  have h5 : w5.heap[m]? = some (.cells #[.slice a L.length c, .int .i64 x, .bool closed] 29 (0, 0)) := (hg.block m (Array.getElem?_eq_some_iff.1 h1).1 (fun e => by
    obtain ⟨C, hC⟩ := own_type h2 e.symm
    rw [h1] at hC
    injection hC with hC
    injection hC with _ h3 _
    exact absurd h3 (by decide))).trans h1
  have ho' : w5.ownsRow B 92 6 (.slice (some ⟨g2, 0, none⟩) (L.length + 1) cap2) (L ++ [(⟨x, tm, tn, tc, tp, tw⟩ : RT)]).length (rc6 (L ++ [(⟨x, tm, tn, tc, tp, tw⟩ : RT)])) := by
    rw [rc6_append, List.length_append]
    simpa [rc6, RT.cells] using ho
  exact ⟨⟨(cell_of_row w5 m 0 _ _ _ h5).trans rfl, frozen_of_row w5 m 0 _ _ h5⟩, ⟨h0, _, heap_setCell_same w5 m 0 _ _ _ h5, own_setD ho' (by decide) h5 _⟩, row.trans (Rel.set (S := SD m) (a := ⟨m, 0, none⟩) h0 h5 (.inl ⟨rfl, _, _, rfl⟩) _)⟩
theorem apartD {w : World} {p g k t t' : Nat} {C C' : Array Value} {z z' : Nat × Nat} (hp : w.heap[p]? = some (.cells C t z)) (hg : w.heap[g]? = some (.cells C' t' z')) (ht : t ≠ t') (x : Value) : (w.setCell ⟨g, k, none⟩ x).heap[p]? = some (.cells C t z) :=
  (Below.heap_setCell w ⟨g, k, none⟩ x p (fun e => by
    simp only at e
    subst e
    rw [hp] at hg
    injection hg with hg
    injection hg with _ h2 _
    exact ht h2)).trans hp
set_option maxHeartbeats 8000000 in
set_option maxRecDepth 100000 in
theorem rput_room {w : World} {B m : Nat} {L : List RT} {last : Int} {closed : Bool} (h : RBagAt w B m L last closed) (hB : B ≤ w.heap.size) (hlen : L.length < 256) (hl0 : 0 ≤ last) (hl1 : last ≤ 4611686018427387904) (id : Int) (tm : Bool) (tn : ByteArray) (tc : Int) (tp : Bool) (tw : ByteArray) :
    Calls Try.prog 66 #[.pointer (some ⟨m, 0, none⟩), .agg #[.int .i64 id, .bool tm, .string tn, .int .i64 tc, .bool tp, .string tw]] w fun e w' => e = .returned (.tuple #[.int .i64 (last + 1), .int .i64 0]) ∧ RBagAt w' B m (L ++ [⟨last + 1, tm, tn, tc, tp, tw⟩]) (last + 1) closed ∧ Rel B (SD m) w w' := by
  obtain ⟨ir, hi, hz0, hz1, hz2⟩ := info_parts infoRT
  obtain ⟨p3, hp3⟩ : ∃ p, p = w.heap.size := ⟨_, rfl⟩
  obtain ⟨wa, hwa⟩ : ∃ x, x = w.alloc (.cells #[.int .i64 id, .bool tm, .string tn, .int .i64 tc, .bool tp, .string tw] 92) := ⟨_, rfl⟩
  have ba := (Below.refl w.heap.size w).alloc (Nat.le_refl _) (.cells #[.int .i64 id, .bool tm, .string tn, .int .i64 tc, .bool tp, .string tw] 92)
  have cb := heap_alloc_new w (.cells #[.int .i64 id, .bool tm, .string tn, .int .i64 tc, .bool tp, .string tw] 92)
  rw [← hwa] at ba cb
  rw [← hp3] at cb
  have ha := h.below ba
  obtain ⟨a, c, c0, c1, _, _⟩ := ha.cells
  have f1 := ha.frozen 1
  obtain ⟨hBm, v0, hb0, ho0⟩ := h
  have hma : wa.heap[m]? = some (.cells #[v0, .int .i64 last, .bool closed] 29 (0, 0)) := (ba.block m (Array.getElem?_eq_some_iff.1 hb0).1).trans hb0
  have hmp : m ≠ p3 := by have := (Array.getElem?_eq_some_iff.1 hb0).1; omega
  have hmb := heap_setCell_same wa m 1 _ _ (.int .i64 (last + 1)) hma
  have cbb := apartD (k := 1) cb hma (by decide) (.int .i64 (last + 1))
  have hmc := (Below.heap_setCell (wa.setCell ⟨m, 1, none⟩ (.int .i64 (last + 1))) ⟨p3, 0, none⟩ (.int .i64 (last + 1)) m (by simpa using hmp)).trans hmb
  have ccc := heap_setCell_same (wa.setCell ⟨m, 1, none⟩ (.int .i64 (last + 1))) p3 0 _ _ (.int .i64 (last + 1)) cbb
  have rowC : ((wa.setCell ⟨m, 1, none⟩ (.int .i64 (last + 1))).setCell ⟨p3, 0, none⟩ (.int .i64 (last + 1))).ownsRow B 92 6 v0 L.length (rc6 L) := own_same ho0 (fun g hg => by
    have hlt := (ho0.lt g hg).2
    have hgm : g ≠ m := fun e => by
      obtain ⟨C, hC⟩ := own_type ho0 hg
      rw [e, hb0] at hC
      injection hC with hC
      injection hC with _ h3 _
      exact absurd h3 (by decide)
    exact ((Below.heap_setCell _ ⟨p3, 0, none⟩ _ g (by simp only; omega)).trans (Below.heap_setCell _ ⟨m, 1, none⟩ _ g (by simpa using hgm))).trans (ba.block g hlt))
  have HC : RBagAt ((wa.setCell ⟨m, 1, none⟩ (.int .i64 (last + 1))).setCell ⟨p3, 0, none⟩ (.int .i64 (last + 1))) B m L (last + 1) closed := ⟨hBm, v0, hmc, rowC⟩
  have RC : Rel B (SD m) w ((wa.setCell ⟨m, 1, none⟩ (.int .i64 (last + 1))).setCell ⟨p3, 0, none⟩ (.int .i64 (last + 1))) := (Rel.below ba).trans ((Rel.set (a := ⟨m, 1, none⟩) hBm hma (.inl ⟨rfl, _, _, rfl⟩) _).trans (Rel.set (a := ⟨p3, 0, none⟩) (by simp only; omega) cbb (.inr ⟨_, _, rfl⟩) _))
  have g0 := frozen_of_row _ p3 0 _ _ cbb
  have g1 := (cell_of_row _ p3 0 _ _ _ cbb).trans (show (#[Value.int .i64 id, .bool tm, .string tn, .int .i64 tc, .bool tp, .string tw] : Array Value)[0]? = some (.int .i64 id) from rfl)
  have HHC := Lib.hid HC
  have RRC := Lib.hid RC
  have CCC := Lib.hid ccc
  have HB := Lib.hid (Nat.le_trans hB RC.size)
  obtain ⟨n, hn⟩ : ∃ n, L.length = n := ⟨_, rfl⟩
  have HN := Lib.hid hn
  have hge : ¬ ((n : Int) ≥ 256) := by omega
  have wl : wrap64 (last + 1) = last + 1 := IntWalk.wrap64_in _ (by omega)
  have RM := Lib.hid (roomD (n := n) (by omega))
  rw [hn] at c0
  have HWA := Lib.hid hwa
  have HP3 := Lib.hid hp3
  clear hB hl0 hl1 ba cb ha hb0 ho0 hma hmp hmb cbb hmc ccc rowC HC RC hn hwa hp3 hBm hlen
  go_enter Try.func66, Try.ntmps66
  go_upto_region 1 with fail
  rw [← HWA.out, ← HP3.out]
  go_upto_region 5 with fail
  go_cut [] (fun wx => Hid (RBagAt wx B m (L ++ [⟨last + 1, tm, tn, tc, tp, tw⟩]) (last + 1) closed ∧ Rel B (SD m) w wx))
  case first => as_aux_lemma => --ok
    refine wp_region_any (by kernel_rfl) ?_
    obtain ⟨x, hx⟩ : ∃ x, last + 1 = x := ⟨_, rfl⟩
    rw [hx] at HHC RRC CCC HB ⊢
    have HX := Lib.hid hx
    obtain ⟨wv, hwv⟩ : ∃ y, y = (wa.setCell ⟨m, 1, none⟩ (.int .i64 x)).setCell ⟨p3, 0, none⟩ (.int .i64 x) := ⟨_, rfl⟩
    rw [← hwv] at HHC RRC CCC HB ⊢
    change wpAny _ _ _ _ _ _ _ wv.drew
    have LD := Lib.hid (HHC.out.below (Below.refl _ wv).drew)
    have RD := Lib.hid RRC.out.drew
    have HBd : B ≤ wv.drew.heap.size := HB.out
    have HB := Lib.hid HBd
    have CD : Hid (wv.drew.heap[p3]? = some (.cells #[.int .i64 x, .bool tm, .string tn, .int .i64 tc, .bool tp, .string tw] 92 (0, 0))) := Lib.hid CCC.out
    generalize wv.drew = wd at *
    clear HBd hwv HHC RRC CCC c0 c1 f1 g0 g1 hx wl
    obtain ⟨a, c, d0, d1, _, od⟩ := LD.out.cells
    rw [HN.out] at d0 od
    have OD := Lib.hid od
    have s0 := (cell_of_row wd p3 0 _ _ _ CD.out).trans (show (#[Value.int .i64 x, .bool tm, .string tn, .int .i64 tc, .bool tp, .string tw] : Array Value)[0]? = some (.int .i64 x) from rfl)
    have s1 := (cell_of_row wd p3 1 _ _ _ CD.out).trans (show (#[Value.int .i64 x, .bool tm, .string tn, .int .i64 tc, .bool tp, .string tw] : Array Value)[1]? = some (.bool tm) from rfl)
    have s2 := (cell_of_row wd p3 2 _ _ _ CD.out).trans (show (#[Value.int .i64 x, .bool tm, .string tn, .int .i64 tc, .bool tp, .string tw] : Array Value)[2]? = some (.string tn) from rfl)
    have s3 := (cell_of_row wd p3 3 _ _ _ CD.out).trans (show (#[Value.int .i64 x, .bool tm, .string tn, .int .i64 tc, .bool tp, .string tw] : Array Value)[3]? = some (.int .i64 tc) from rfl)
    have s4 := (cell_of_row wd p3 4 _ _ _ CD.out).trans (show (#[Value.int .i64 x, .bool tm, .string tn, .int .i64 tc, .bool tp, .string tw] : Array Value)[4]? = some (.bool tp) from rfl)
    have s5 := (cell_of_row wd p3 5 _ _ _ CD.out).trans (show (#[Value.int .i64 x, .bool tm, .string tn, .int .i64 tc, .bool tp, .string tw] : Array Value)[5]? = some (.string tw) from rfl)
    have BA : Hid (Below wd.heap.size wd (wd.alloc (.cells #[.int .i64 x, .bool tm, .string tn, .int .i64 tc, .bool tp, .string tw] 92))) := Lib.hid ((Below.refl _ wd).alloc (Nat.le_refl _) _)
    have e0 : (wd.alloc (.cells #[.int .i64 x, .bool tm, .string tn, .int .i64 tc, .bool tp, .string tw] 92)).cell? ⟨m, 0, none⟩ = some (.slice a n c) := (BA.out.cell (p := ⟨m, 0, none⟩) (World.block_lt_of_cell? wd _ d0)).trans d0
    have E0 := Lib.hid e0
    clear od
    refine wpAny_take (i := 0) (v := ?_) rfl (by kernel_rfl) (by kernel_rfl) (by kernel_rfl) (fun _ _ _ h => h) (Or.inl ⟨by kernel_rfl, ?_⟩) ?_
    rotate_left
    · intro w
      go_simp
      try with_reducible rfl
    simp only [Act.put, List.getElem_toArray, List.getElem_cons_zero, List.getElem_cons_succ, List.setIfInBounds_toArray, List.set_cons_zero, List.set_cons_succ]
    refine wpAny_take (i := 1) (v := ?_) rfl (by kernel_rfl) (by kernel_rfl) (by kernel_rfl) (fun _ _ _ h => h) (Or.inl ⟨by kernel_rfl, ?_⟩) ?_
    rotate_left
    · intro w
      go_simp
      try with_reducible rfl
    simp only [Act.put, List.getElem_toArray, List.getElem_cons_zero, List.getElem_cons_succ, List.setIfInBounds_toArray, List.set_cons_zero, List.set_cons_succ]
    refine wpAny_take (i := 2) (v := ?_) rfl (by kernel_rfl) (by kernel_rfl) (by kernel_rfl) (fun _ _ _ h => h) (Or.inl ⟨by kernel_rfl, ?_⟩) ?_
    rotate_left
    · intro w
      go_simp
      try with_reducible rfl
    simp only [Act.put, List.getElem_toArray, List.getElem_cons_zero, List.getElem_cons_succ, List.setIfInBounds_toArray, List.set_cons_zero, List.set_cons_succ]
    refine wpAny_take (i := 3) (v := ?_) rfl (by kernel_rfl) (by kernel_rfl) (by kernel_rfl) (fun _ _ _ h => h) (Or.inl ⟨by kernel_rfl, ?_⟩) ?_
    rotate_left
    · intro w
      go_simp
      try with_reducible rfl
    simp only [Act.put, List.getElem_toArray, List.getElem_cons_zero, List.getElem_cons_succ, List.setIfInBounds_toArray, List.set_cons_zero, List.set_cons_succ]
    refine wpAny_ready (rs := [4, 5]) (by kernel_rfl) (by simp) (AllReady.cons rfl (fun K hK => ?_) (AllReady.cons rfl (fun K hK => ?_) AllReady.nil))
    · skip
      go_simp
      refine hK _ _ ?_
      clear hK K
      try simp only [Act.put, List.setIfInBounds_toArray, List.set_cons_zero, List.set_cons_succ]
      refine wpAny_ready (rs := [5]) (by kernel_rfl) (by simp) (AllReady.cons rfl (fun K hK => ?_) AllReady.nil)
      go_simp
      refine hK _ _ ?_
      clear hK K
      try simp only [Act.put, List.setIfInBounds_toArray, List.set_cons_zero, List.set_cons_succ]
      refine wpAny_ready (rs := [6]) (by kernel_rfl) (by simp) (Go.BigFrame.allReady_want rfl (by kernel_rfl) (fun K hK => ?_) AllReady.nil)
      refine wp_build_rt (.tmp 29) (by kernel_rfl) x tm tn tc tp tw (by kernel_rfl) ?_
      refine hK _ _ ?_
      clear hK K
      try simp only [Act.put, List.setIfInBounds_toArray, List.set_cons_zero, List.set_cons_succ]
      refine wpAny_ready (rs := [7]) (by kernel_rfl) (by simp) (AllReady.cons rfl (fun K hK => ?_) AllReady.nil)
      refine step_append_lies _ (by rfl) (.tmp 28) (.tmp 30) 27 (by rfl) B 92 ir _ 6 64 Try.underlying27 hi hz0 hz1 hz2 rfl (by decide) (.slice a n c) n (rc6 L) (by kernel_rfl) (own_below OD.out BA.out) ⟨wd.heap.size, 0, none⟩ 1 1 [.int .i64 x, .bool tm, .string tn, .int .i64 tc, .bool tp, .string tw] (by kernel_rfl) (by rfl) (World.news_of_block (cs := #[.int .i64 x, .bool tm, .string tn, .int .i64 tc, .bool tp, .string tw]) (t := 92) (fr := (0, 0)) (heap_alloc_new wd _)) (rc6_one [⟨x, tm, tn, tc, tp, tw⟩]) (by decide) RM.out.1 RM.out.2.1 (Nat.le_trans HB.out (by simp)) (wd.heap.size + 1) (by simp) ?_
      intro g2 cap2 w5 hown2 hgrow2 hat2 hlt2
      have FIN : Hid (_) := Lib.hid (rput_fin (L := L) (LD.out.below BA.out) (by rw [HN.out]; exact E0.out) (by rw [HN.out]; exact own_below OD.out BA.out) (by rw [HN.out]; exact hown2) (by rw [HN.out]; exact hgrow2))
      rw [HN.out] at FIN
      have x5 := FIN.out.1.1
      have f5 := FIN.out.1.2
      clear hown2 hgrow2 hat2 hlt2
      refine hK _ _ ?_
      clear hK K
      try simp only [Act.put, List.setIfInBounds_toArray, List.set_cons_zero, List.set_cons_succ]
      refine wpAny_take (i := 8) (v := ?_) rfl (by kernel_rfl) (by kernel_rfl) (by kernel_rfl) (fun _ _ _ h => h) (Or.inl ⟨by kernel_rfl, ?_⟩) ?_
      rotate_left
      · intro w
        go_simp
        try with_reducible rfl
      simp only [Act.put, List.getElem_toArray, List.getElem_cons_zero, List.getElem_cons_succ, List.setIfInBounds_toArray, List.set_cons_zero, List.set_cons_succ]
      refine wpAny_take (i := 9) (v := ?_) rfl (by kernel_rfl) (by kernel_rfl) (by kernel_rfl) (fun _ _ _ h => h) (Or.inl ⟨by kernel_rfl, ?_⟩) ?_
      rotate_left
      · intro w
        go_simp
        try with_reducible rfl
      simp only [Act.put, List.getElem_toArray, List.getElem_cons_zero, List.getElem_cons_succ, List.setIfInBounds_toArray, List.set_cons_zero, List.set_cons_succ]
      refine wpAny_ready (rs := [10]) (by kernel_rfl) (by simp) (AllReady.cons rfl (fun K hK => ?_) AllReady.nil)
      go_simp
      refine hK _ _ ?_
      clear hK K
      try simp only [Act.put, List.setIfInBounds_toArray, List.set_cons_zero, List.set_cons_succ]
      refine wpAny_done (by kernel_rfl) ?_ _
      go_wp2_with fail
      go_meet
      rw [HX.out]
      exact Lib.hid ⟨FIN.out.2.1, RD.out.trans ((Rel.alloc _ _).trans FIN.out.2.2)⟩
    · skip
      go_simp
      refine hK _ _ ?_
      clear hK K
      try simp only [Act.put, List.setIfInBounds_toArray, List.set_cons_zero, List.set_cons_succ]
      refine wpAny_ready (rs := [4, 6]) (by kernel_rfl) (by simp) (AllReady.cons rfl (fun K hK => ?_) (Go.BigFrame.allReady_want rfl (by kernel_rfl) (fun K hK => ?_) AllReady.nil))
      · skip
        go_simp
        refine hK _ _ ?_
        clear hK K
        try simp only [Act.put, List.setIfInBounds_toArray, List.set_cons_zero, List.set_cons_succ]
        refine wpAny_ready (rs := [6]) (by kernel_rfl) (by simp) (Go.BigFrame.allReady_want rfl (by kernel_rfl) (fun K hK => ?_) AllReady.nil)
        refine wp_build_rt (.tmp 29) (by kernel_rfl) x tm tn tc tp tw (by kernel_rfl) ?_
        refine hK _ _ ?_
        clear hK K
        try simp only [Act.put, List.setIfInBounds_toArray, List.set_cons_zero, List.set_cons_succ]
        refine wpAny_ready (rs := [7]) (by kernel_rfl) (by simp) (AllReady.cons rfl (fun K hK => ?_) AllReady.nil)
        refine step_append_lies _ (by rfl) (.tmp 28) (.tmp 30) 27 (by rfl) B 92 ir _ 6 64 Try.underlying27 hi hz0 hz1 hz2 rfl (by decide) (.slice a n c) n (rc6 L) (by kernel_rfl) (own_below OD.out BA.out) ⟨wd.heap.size, 0, none⟩ 1 1 [.int .i64 x, .bool tm, .string tn, .int .i64 tc, .bool tp, .string tw] (by kernel_rfl) (by rfl) (World.news_of_block (cs := #[.int .i64 x, .bool tm, .string tn, .int .i64 tc, .bool tp, .string tw]) (t := 92) (fr := (0, 0)) (heap_alloc_new wd _)) (rc6_one [⟨x, tm, tn, tc, tp, tw⟩]) (by decide) RM.out.1 RM.out.2.1 (Nat.le_trans HB.out (by simp)) (wd.heap.size + 1) (by simp) ?_
        intro g2 cap2 w5 hown2 hgrow2 hat2 hlt2
        have FIN : Hid (_) := Lib.hid (rput_fin (L := L) (LD.out.below BA.out) (by rw [HN.out]; exact E0.out) (by rw [HN.out]; exact own_below OD.out BA.out) (by rw [HN.out]; exact hown2) (by rw [HN.out]; exact hgrow2))
        rw [HN.out] at FIN
        have x5 := FIN.out.1.1
        have f5 := FIN.out.1.2
        clear hown2 hgrow2 hat2 hlt2
        refine hK _ _ ?_
        clear hK K
        try simp only [Act.put, List.setIfInBounds_toArray, List.set_cons_zero, List.set_cons_succ]
        refine wpAny_take (i := 8) (v := ?_) rfl (by kernel_rfl) (by kernel_rfl) (by kernel_rfl) (fun _ _ _ h => h) (Or.inl ⟨by kernel_rfl, ?_⟩) ?_
        rotate_left
        · intro w
          go_simp
          try with_reducible rfl
        simp only [Act.put, List.getElem_toArray, List.getElem_cons_zero, List.getElem_cons_succ, List.setIfInBounds_toArray, List.set_cons_zero, List.set_cons_succ]
        refine wpAny_take (i := 9) (v := ?_) rfl (by kernel_rfl) (by kernel_rfl) (by kernel_rfl) (fun _ _ _ h => h) (Or.inl ⟨by kernel_rfl, ?_⟩) ?_
        rotate_left
        · intro w
          go_simp
          try with_reducible rfl
        simp only [Act.put, List.getElem_toArray, List.getElem_cons_zero, List.getElem_cons_succ, List.setIfInBounds_toArray, List.set_cons_zero, List.set_cons_succ]
        refine wpAny_ready (rs := [10]) (by kernel_rfl) (by simp) (AllReady.cons rfl (fun K hK => ?_) AllReady.nil)
        go_simp
        refine hK _ _ ?_
        clear hK K
        try simp only [Act.put, List.setIfInBounds_toArray, List.set_cons_zero, List.set_cons_succ]
        refine wpAny_done (by kernel_rfl) ?_ _
        go_wp2_with fail
        go_meet
        rw [HX.out]
        exact Lib.hid ⟨FIN.out.2.1, RD.out.trans ((Rel.alloc _ _).trans FIN.out.2.2)⟩
      · skip
        refine wp_build_rt (.tmp 29) (by kernel_rfl) x tm tn tc tp tw (by kernel_rfl) ?_
        refine hK _ _ ?_
        clear hK K
        try simp only [Act.put, List.setIfInBounds_toArray, List.set_cons_zero, List.set_cons_succ]
        refine wpAny_ready (rs := [4]) (by kernel_rfl) (by simp) (AllReady.cons rfl (fun K hK => ?_) AllReady.nil)
        go_simp
        refine hK _ _ ?_
        clear hK K
        try simp only [Act.put, List.setIfInBounds_toArray, List.set_cons_zero, List.set_cons_succ]
        refine wpAny_ready (rs := [7]) (by kernel_rfl) (by simp) (AllReady.cons rfl (fun K hK => ?_) AllReady.nil)
        refine step_append_lies _ (by rfl) (.tmp 28) (.tmp 30) 27 (by rfl) B 92 ir _ 6 64 Try.underlying27 hi hz0 hz1 hz2 rfl (by decide) (.slice a n c) n (rc6 L) (by kernel_rfl) (own_below OD.out BA.out) ⟨wd.heap.size, 0, none⟩ 1 1 [.int .i64 x, .bool tm, .string tn, .int .i64 tc, .bool tp, .string tw] (by kernel_rfl) (by rfl) (World.news_of_block (cs := #[.int .i64 x, .bool tm, .string tn, .int .i64 tc, .bool tp, .string tw]) (t := 92) (fr := (0, 0)) (heap_alloc_new wd _)) (rc6_one [⟨x, tm, tn, tc, tp, tw⟩]) (by decide) RM.out.1 RM.out.2.1 (Nat.le_trans HB.out (by simp)) (wd.heap.size + 1) (by simp) ?_
        intro g2 cap2 w5 hown2 hgrow2 hat2 hlt2
        have FIN : Hid (_) := Lib.hid (rput_fin (L := L) (LD.out.below BA.out) (by rw [HN.out]; exact E0.out) (by rw [HN.out]; exact own_below OD.out BA.out) (by rw [HN.out]; exact hown2) (by rw [HN.out]; exact hgrow2))
        rw [HN.out] at FIN
        have x5 := FIN.out.1.1
        have f5 := FIN.out.1.2
        clear hown2 hgrow2 hat2 hlt2
        refine hK _ _ ?_
        clear hK K
        try simp only [Act.put, List.setIfInBounds_toArray, List.set_cons_zero, List.set_cons_succ]
        refine wpAny_take (i := 8) (v := ?_) rfl (by kernel_rfl) (by kernel_rfl) (by kernel_rfl) (fun _ _ _ h => h) (Or.inl ⟨by kernel_rfl, ?_⟩) ?_
        rotate_left
        · intro w
          go_simp
          try with_reducible rfl
        simp only [Act.put, List.getElem_toArray, List.getElem_cons_zero, List.getElem_cons_succ, List.setIfInBounds_toArray, List.set_cons_zero, List.set_cons_succ]
        refine wpAny_take (i := 9) (v := ?_) rfl (by kernel_rfl) (by kernel_rfl) (by kernel_rfl) (fun _ _ _ h => h) (Or.inl ⟨by kernel_rfl, ?_⟩) ?_
        rotate_left
        · intro w
          go_simp
          try with_reducible rfl
        simp only [Act.put, List.getElem_toArray, List.getElem_cons_zero, List.getElem_cons_succ, List.setIfInBounds_toArray, List.set_cons_zero, List.set_cons_succ]
        refine wpAny_ready (rs := [10]) (by kernel_rfl) (by simp) (AllReady.cons rfl (fun K hK => ?_) AllReady.nil)
        go_simp
        refine hK _ _ ?_
        clear hK K
        try simp only [Act.put, List.setIfInBounds_toArray, List.set_cons_zero, List.set_cons_succ]
        refine wpAny_done (by kernel_rfl) ?_ _
        go_wp2_with fail
        go_meet
        rw [HX.out]
        exact Lib.hid ⟨FIN.out.2.1, RD.out.trans ((Rel.alloc _ _).trans FIN.out.2.2)⟩
  case rest =>
    obtain ⟨_, _, _, k1, _, _⟩ := hcut.out.1.cells
    go_wp2_with fail
    go_ret2
    exact ⟨rfl, hcut.out.1, hcut.out.2⟩
end Go.Proofs.Ytnkababhgloclaa
