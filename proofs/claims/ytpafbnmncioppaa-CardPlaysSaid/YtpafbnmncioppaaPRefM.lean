/- The document's registry notes who begins: Mark. (Printed by tools/genrmark.py.) -/
import Derived.Test.YtpafbnmncioppaaPRefE
namespace Go.Proofs.Ytpafbnmncioppaa
open Go.RowKit Go.ChangeShapes
theorem nc_append : ∀ (l k : List Nt), nc (l ++ k) = nc l ++ nc k
  | [], _ => rfl
  | n :: l, k => by simp [nc, nc_append l k]
theorem CRow.besideN {T : Nat → Prop} {w w4 w5 : World} {B n : Nat} {v v2 : Value} {cs : List Cd} {xs : List Value} (h : CRow T w4 B v2 cs) (h2 : w4.ownsRow B 80 4 v n xs) (hg : w4.grownBy w5 v.ownBlock) : CRow (TN T w w5) w5 B v2 cs := by
  obtain ⟨l2, e1, e2, e3, e4, e5⟩ := h
  exact ⟨l2, e1, e2.kept hg (own_ne e2 h2 (by decide)), fun r hr => (e3 r hr).kept hg (own_ne (e3 r hr) h2 (by decide)), fun g hh => .inl (e4 g hh), fun r hr g hh => .inl (e5 r hr g hh)⟩
theorem kept_rowN {T : Nat → Prop} {w w4 w5 : World} {B n : Nat} {v : Value} {xs : List Value} (h2 : w4.ownsRow B 80 4 v n xs) (h4 : InT T v) (hb : Below w.heap.size w w4) (hg : w4.grownBy w5 v.ownBlock) : Kept (Own3 T w) w w5 := by
  refine ⟨hg.os.trans hb.os, hg.tape.trans hb.tape, hg.output.trans hb.output, Nat.le_trans hb.size hg.size, fun k hk hx => ?_⟩
  refine (hg.block k (Nat.lt_of_lt_of_le hk hb.size) (fun e => hx ?_)).trans (hb.block k hk)
  refine ⟨h4 k e.symm, ?_⟩
  rcases h2.2 with ⟨rfl, _⟩ | ⟨g, cap, cur, rfl, _, hc, _⟩
  · cases e
  · simp only [Value.ownBlock, Option.some.injEq] at e
    subst e
    exact ⟨_, _, _, (hb.block k hk).symm.trans hc, .inr (.inr rfl)⟩
theorem addN {T : Nat → Prop} {B m : Nat} {cs rs : List Cd} {ns : List Nt} {w w4 w5 : World} {an : Option Addr} {cn : Nat} {vc vr : Value} {nt : Nt} {g2 cap2 : Nat}
    (hM : T m ∧ B ≤ m) (hH : Own3 T w m) (hmlt : m < w.heap.size) (m4 : w4.heap[m]? = some (.cells #[vc, vr, .slice an ns.length cn, .bool false] 58 (0, 0)))
    (c1 : CRow T w B vc cs) (r1 : CRow T w B vr rs) (n1 : w.ownsRow B 80 4 (.slice an ns.length cn) ns.length (nc ns)) (n2 : InT T (.slice an ns.length cn)) (n3 : ∀ g, vc.ownBlock = some g → vr.ownBlock ≠ some g) (hb : Below w.heap.size w w4)
    (ho : w5.ownsRow B 80 4 (.slice (some ⟨g2, 0, none⟩) (ns.length + 1) cap2) (ns.length + 1) (nc ns ++ nt.cells)) (hg : w4.grownBy w5 (Value.ownBlock (.slice an ns.length cn))) (hat : Value.ownBlock (.slice an ns.length cn) = some g2 ∨ g2 = w4.heap.size) (hlt : g2 < w5.heap.size) :
    w5.heap[m]? = some (.cells #[vc, vr, .slice an ns.length cn, .bool false] 58 (0, 0)) ∧ RReg (TN T w (w5.setCell ⟨m, 2, none⟩ (.slice (some ⟨g2, 0, none⟩) (ns.length + 1) cap2))) (w5.setCell ⟨m, 2, none⟩ (.slice (some ⟨g2, 0, none⟩) (ns.length + 1) cap2)) B m cs rs (ns ++ [nt]) false ∧ Kept (Own3 T w) w (w5.setCell ⟨m, 2, none⟩ (.slice (some ⟨g2, 0, none⟩) (ns.length + 1) cap2)) := by
  have N4 := own_below n1 hb
  have hm4 : m < w4.heap.size := Nat.lt_of_lt_of_le hmlt hb.size
  have m5 : w5.heap[m]? = some (.cells #[vc, vr, .slice an ns.length cn, .bool false] 58 (0, 0)) := (hg.block m hm4 (fun e => by
    rcases N4.2 with ⟨e2, _⟩ | ⟨g, cap, cur, e2, _, hc, _⟩
    · rw [e2] at e; cases e
    · rw [e2] at e
      simp only [Value.ownBlock, Option.some.injEq] at e
      subst e
      rw [m4] at hc
      injection hc with hc
      injection hc with _ h2 _
      exact absurd h2 (by decide))).trans m4
  have GC := CRow.besideN (w := w) (c1.below hb) N4 hg
  have GR := CRow.besideN (w := w) (r1.below hb) N4 hg
  have KT := (kept_rowN (T := T) N4 n2 hb hg).trans (kept_setCell (Own3 T w) w5 m 2 (.slice (some ⟨g2, 0, none⟩) (ns.length + 1) cap2) hH)
  have hz : (w5.setCell ⟨m, 2, none⟩ (.slice (some ⟨g2, 0, none⟩) (ns.length + 1) cap2)).heap.size = w5.heap.size := by simp
  have hn' : w5.ownsRow B 80 4 (.slice (some ⟨g2, 0, none⟩) (ns.length + 1) cap2) (ns ++ [nt]).length (nc (ns ++ [nt])) := by
    rw [nc_append, List.length_append]
    simpa [nc] using ho
  refine ⟨m5, RReg.mono (T := TN T w w5) ⟨⟨.inl hM.1, hM.2⟩, _, _, _, heap_setCell_same w5 m 2 _ _ _ m5, GC.setReg m5 _, GR.setReg m5 _, ⟨own_setReg hn' (by decide) m5 _, fun g hg => ?_⟩, n3⟩ (fun k hk => by
    rcases hk with hk | hk
    · exact .inl hk
    · exact .inr (by rw [hz]; exact hk)), KT⟩
  simp only [Value.ownBlock, Option.some.injEq] at hg
  subst hg
  rcases hat with hat | hat
  · exact .inl (n2 _ hat)
  · exact .inr ⟨by have := hb.size; omega, hlt⟩
theorem buildN_one (p : ByteArray) (i s S : Int) (w : World) : (Instr.buildSlice 56 1 #[(0, .agg #[.string p, .int .i64 i, .int .i64 s, .int .i64 S])]).run Try.prog w = .ok (.slice (some ⟨w.heap.size, 0, none⟩) 1 1) (w.alloc (.cells #[.string p, .int .i64 i, .int .i64 s, .int .i64 S] 80)) := by
  go_simp
theorem wp_buildN_one {o : Oper} {ac : Act} {w : World} {K : Act → World → Prop} {Q : Exit → Act → World → Prop} (x : Operand) (ho : o.op = .buildSlice 56 1 #[(0, x)]) (p : ByteArray) (i s S : Int) (hx : ac.eval x = .agg #[.string p, .int .i64 i, .int .i64 s, .int .i64 S])
    (h : K (ac.put o.dst (.slice (some ⟨w.heap.size, 0, none⟩) 1 1)) (w.alloc (.cells #[.string p, .int .i64 i, .int .i64 s, .int .i64 S] 80))) : o.wp Try.prog ac w K Q := by
  unfold Oper.wp execOp
  simp only [ho, Sem.run_bind, List.map_toArray, List.map_cons, List.map_nil, hx, buildN_one, Result.andThen_ok]
  exact h
set_option maxHeartbeats 8000000 in
set_option maxRecDepth 100000 in
theorem rmark_any (T : Nat → Prop) (B m : Nat) (cs rs : List Cd) (ns : List Nt) (fz : Bool) (p : ByteArray) (i s : Int) (w : World) (h : RReg T w B m cs rs ns fz) (hB : B ≤ w.heap.size) (hns : ns.length ≤ 256) (hcs : cs.length ≤ 64) :
    Calls Try.prog 40 #[.pointer (some ⟨m, 0, none⟩), .string p, .int .i64 i, .int .i64 s] w (Doc T w B m (markA ns fz p i) cs rs (markN cs ns fz p i s) fz) := by
  obtain ⟨ir, hi, hz0, hz1, hz2⟩ := info_parts infoN
  have HH := Lib.hid h
  obtain ⟨h0, vc, vr, vn, h1, h2, h3, ⟨h4, h5⟩, h6⟩ := h
  obtain ⟨an, cn, rfl⟩ := own_slice h4
  obtain ⟨ac, cc, rfl⟩ := h2.slice
  have hmlt : m < w.heap.size := (Array.getElem?_eq_some_iff.1 h1).1
  have HB := Lib.hid hB
  have HM := Lib.hid h0
  have C1 := Lib.hid h2
  have R1 := Lib.hid h3
  have N1 := Lib.hid h4
  have N2 := Lib.hid h5
  have N3 := Lib.hid h6
  have HML := Lib.hid hmlt
  have CELL : Hid (∀ w', Below w.heap.size w w' → w'.heap[m]? = some (.cells #[.slice ac cs.length cc, vr, .slice an ns.length cn, .bool fz] 58 (0, 0))) := Lib.hid (fun w' hb => (hb.block m hmlt).trans h1)
  have SAME : Hid (RReg (TN T w w) w B m cs rs ns fz ∧ Kept (Own3 T w) w w) := Lib.hid ⟨HH.out.mono (fun k hk => .inl hk), Kept.refl _ _⟩
  have c3 : w.cell? ⟨m, 3, none⟩ = some (.bool fz) := (cell_of_row _ m 3 _ _ _ h1).trans rfl
  have c2 : w.cell? ⟨m, 2, none⟩ = some (.slice an ns.length cn) := (cell_of_row _ m 2 _ _ _ h1).trans rfl
  have c0 : w.cell? ⟨m, 0, none⟩ = some (.slice ac cs.length cc) := (cell_of_row _ m 0 _ _ _ h1).trans rfl
  have CN := Lib.hid (rname_any p w)
  clear h0 h1 h2 h3 h4 h5 h6 hmlt hB
  cases fz with
  | true =>
    go_enter Try.func40, Try.ntmps40
    go_wp2_with fail
    go_ret
    exact ⟨rfl, SAME.out.1, SAME.out.2⟩
  | false =>
    by_cases hbad : (!nameB p || decide (i < 0) || decide (8 < i)) = true
    · have HA : Hid (markA ns false p i = 1) := Lib.hid (by simp only [markA, hbad, if_true, Bool.false_eq_true, if_false])
      have HN2 : Hid (markN cs ns false p i s = ns) := Lib.hid (by unfold markN; rw [HA.out]; rfl)
      rw [HA.out, HN2.out]
      cases hn : nameB p with
      | false =>
        rw [hn] at CN
        clear hbad hn
        go_enter Try.func40, Try.ntmps40
        go_wp2_with fail
        refine CN.out.mono ?_
        rintro e w1 ⟨rfl, rfl⟩
        go_wp2_with fail
        go_ret
        exact ⟨rfl, SAME.out.1, SAME.out.2⟩
      | true =>
        rw [hn] at CN hbad
        clear hn
        by_cases hi0 : i < 0
        · clear hbad
          go_enter Try.func40, Try.ntmps40
          go_wp2_with fail
          refine CN.out.mono ?_
          rintro e w1 ⟨rfl, rfl⟩
          go_wp2_with fail
          go_ret
          exact ⟨rfl, SAME.out.1, SAME.out.2⟩
        · have hi8 : i > 8 := by
            simp only [Bool.not_true, Bool.false_or, Bool.or_eq_true, decide_eq_true_eq] at hbad
            omega
          clear hbad
          go_enter Try.func40, Try.ntmps40
          go_wp2_with fail
          refine CN.out.mono ?_
          rintro e w1 ⟨rfl, rfl⟩
          go_wp2_with fail
          go_ret
          exact ⟨rfl, SAME.out.1, SAME.out.2⟩
    · have hgood := Bool.eq_false_iff.2 hbad
      have hn : nameB p = true ∧ ¬ i < 0 ∧ ¬ i > 8 := by
        simp only [Bool.or_eq_false_iff, Bool.not_eq_false', decide_eq_false_iff_not] at hgood
        exact ⟨hgood.1.1, hgood.1.2, hgood.2⟩
      obtain ⟨hn, hi0, hi8⟩ := hn
      rw [hn] at CN
      clear hbad
      by_cases hf : 256 ≤ ns.length
      · have HA : Hid (markA ns false p i = 3) := Lib.hid (by simp only [markA, hgood, hf, if_true, Bool.false_eq_true, if_false])
        have HN2 : Hid (markN cs ns false p i s = ns) := Lib.hid (by unfold markN; rw [HA.out]; rfl)
        rw [HA.out, HN2.out]
        have d1 : decide ((ns.length : Int) ≥ 256) = true := decide_eq_true (by omega)
        clear hgood hn
        go_enter Try.func40, Try.ntmps40
        go_wp2_with fail
        refine CN.out.mono ?_
        rintro e w1 ⟨rfl, rfl⟩
        go_wp2_with fail
        go_ret
        exact ⟨rfl, SAME.out.1, SAME.out.2⟩
      · have HA : Hid (markA ns false p i = 0) := Lib.hid (by simp only [markA, hgood, hf, Bool.false_eq_true, if_false])
        have HN2 : Hid (markN cs ns false p i s = ns ++ [⟨p, i, s, cs.length⟩]) := Lib.hid (by unfold markN; rw [HA.out]; rfl)
        rw [HA.out, HN2.out]
        have d1 : decide ((ns.length : Int) ≥ 256) = false := decide_eq_false (by omega)
        clear hgood hn
        go_enter Try.func40, Try.ntmps40
        go_wp2_with fail
        refine CN.out.mono ?_
        rintro e w1 ⟨rfl, rfl⟩
        go_upto_region 7 with fail
        go_cut [] (fun wx => Hid (RReg (TN T w wx) wx B m cs rs (ns ++ [⟨p, i, s, cs.length⟩]) false ∧ Kept (Own3 T w) w wx))
        case first => as_aux_lemma => --ok
          have B3 : Hid (Below w.heap.size w w.drew) := Lib.hid ((Below.refl _ _).drew)
          refine wp_region_any (by kernel_rfl) ?_
          refine wpAny_take (i := 0) (v := ?_) rfl (by kernel_rfl) (by kernel_rfl) (by kernel_rfl) (fun _ _ _ h => h) (Or.inl ⟨by kernel_rfl, ?_⟩) ?_
          rotate_left
          · intro w
            go_simp
            try with_reducible rfl
          simp only [Act.put, List.getElem_toArray, List.getElem_cons_zero, List.getElem_cons_succ, List.setIfInBounds_toArray, List.set_cons_zero, List.set_cons_succ]
          refine wpAny_take (i := 1) (v := ?_) rfl (by kernel_rfl) (by kernel_rfl) (by kernel_rfl) (fun _ _ _ h => h) (Or.inl ⟨by kernel_rfl, ?_⟩) ?_
          rotate_left
          · intro w
            go_simp
            try with_reducible rfl
          simp only [Act.put, List.getElem_toArray, List.getElem_cons_zero, List.getElem_cons_succ, List.setIfInBounds_toArray, List.set_cons_zero, List.set_cons_succ]
          refine wpAny_take (i := 2) (v := ?_) rfl (by kernel_rfl) (by kernel_rfl) (by kernel_rfl) (fun _ _ _ h => h) (Or.inl ⟨by kernel_rfl, ?_⟩) ?_
          rotate_left
          · intro w
            go_simp
            try with_reducible rfl
          simp only [Act.put, List.getElem_toArray, List.getElem_cons_zero, List.getElem_cons_succ, List.setIfInBounds_toArray, List.set_cons_zero, List.set_cons_succ]
          refine wpAny_take (i := 3) (v := ?_) rfl (by kernel_rfl) (by kernel_rfl) (by kernel_rfl) (fun _ _ _ h => h) (Or.inl ⟨by kernel_rfl, ?_⟩) ?_
          rotate_left
          · intro w
            go_simp
            try with_reducible rfl
          simp only [Act.put, List.getElem_toArray, List.getElem_cons_zero, List.getElem_cons_succ, List.setIfInBounds_toArray, List.set_cons_zero, List.set_cons_succ]
          refine wpAny_take (i := 5) (v := ?_) rfl (by kernel_rfl) (by kernel_rfl) (by kernel_rfl) (fun _ _ _ h => h) (Or.inl ⟨by kernel_rfl, ?_⟩) ?_
          rotate_left
          · intro w
            go_simp
            try with_reducible rfl
          simp only [Act.put, List.getElem_toArray, List.getElem_cons_zero, List.getElem_cons_succ, List.setIfInBounds_toArray, List.set_cons_zero, List.set_cons_succ]
          refine wpAny_take (i := 6) (v := ?_) rfl (by kernel_rfl) (by kernel_rfl) (by kernel_rfl) (fun _ _ _ h => h) (Or.inl ⟨by kernel_rfl, ?_⟩) ?_
          rotate_left
          · intro w
            go_simp
            try with_reducible rfl
          simp only [Act.put, List.getElem_toArray, List.getElem_cons_zero, List.getElem_cons_succ, List.setIfInBounds_toArray, List.set_cons_zero, List.set_cons_succ]
          refine wpAny_take (i := 7) (v := ?_) rfl (by kernel_rfl) (by kernel_rfl) (by kernel_rfl) (fun _ _ _ h => h) (Or.inl ⟨by kernel_rfl, ?_⟩) ?_
          rotate_left
          · intro w
            go_simp
            try with_reducible rfl
          simp only [Act.put, List.getElem_toArray, List.getElem_cons_zero, List.getElem_cons_succ, List.setIfInBounds_toArray, List.set_cons_zero, List.set_cons_succ]
          refine wpAny_take (i := 8) (v := ?_) rfl (by kernel_rfl) (by kernel_rfl) (by kernel_rfl) (fun _ _ _ h => h) (Or.inl ⟨by kernel_rfl, ?_⟩) ?_
          rotate_left
          · intro w
            go_simp
            try with_reducible rfl
          simp only [Act.put, List.getElem_toArray, List.getElem_cons_zero, List.getElem_cons_succ, List.setIfInBounds_toArray, List.set_cons_zero, List.set_cons_succ]
          refine wpAny_take (i := 9) (v := ?_) rfl (by kernel_rfl) (by kernel_rfl) (by kernel_rfl) (fun _ _ _ h => h) (Or.inl ⟨by kernel_rfl, ?_⟩) ?_
          rotate_left
          · intro w
            go_simp
            try with_reducible rfl
          simp only [Act.put, List.getElem_toArray, List.getElem_cons_zero, List.getElem_cons_succ, List.setIfInBounds_toArray, List.set_cons_zero, List.set_cons_succ]
          refine wpAny_take (i := 10) (v := ?_) rfl (by kernel_rfl) (by kernel_rfl) (by kernel_rfl) (fun _ _ _ h => h) (Or.inl ⟨by kernel_rfl, ?_⟩) ?_
          rotate_left
          · intro w
            go_simp
            try with_reducible rfl
          simp only [Act.put, List.getElem_toArray, List.getElem_cons_zero, List.getElem_cons_succ, List.setIfInBounds_toArray, List.set_cons_zero, List.set_cons_succ]
          refine wpAny_ready (rs := [4, 11]) (by kernel_rfl) (by simp) (AllReady.cons rfl (fun K hK => ?_) (AllReady.cons rfl (fun K hK => ?_) AllReady.nil))
          · skip
            go_simp
            refine hK _ _ ?_
            clear hK K
            try simp only [Act.put, List.setIfInBounds_toArray, List.set_cons_zero, List.set_cons_succ]
            refine wpAny_ready (rs := [11]) (by kernel_rfl) (by simp) (AllReady.cons rfl (fun K hK => ?_) AllReady.nil)
            go_simp
            refine hK _ _ ?_
            clear hK K
            try simp only [Act.put, List.setIfInBounds_toArray, List.set_cons_zero, List.set_cons_succ]
            refine wpAny_take (i := 12) (v := ?_) rfl (by kernel_rfl) (by kernel_rfl) (by kernel_rfl) (fun _ _ _ h => h) (Or.inl ⟨by kernel_rfl, ?_⟩) ?_
            rotate_left
            · intro w
              go_simp
              try with_reducible rfl
            simp only [Act.put, List.getElem_toArray, List.getElem_cons_zero, List.getElem_cons_succ, List.setIfInBounds_toArray, List.set_cons_zero, List.set_cons_succ]
            refine wpAny_take (i := 13) (v := ?_) rfl (by kernel_rfl) (by kernel_rfl) (by kernel_rfl) (fun _ _ _ h => h) (Or.inl ⟨by kernel_rfl, ?_⟩) ?_
            rotate_left
            · intro w
              go_simp
              try with_reducible rfl
            simp only [Act.put, List.getElem_toArray, List.getElem_cons_zero, List.getElem_cons_succ, List.setIfInBounds_toArray, List.set_cons_zero, List.set_cons_succ]
            refine wpAny_ready (rs := [14]) (by kernel_rfl) (by simp) (Go.BigFrame.allReady_want rfl (by kernel_rfl) (fun K hK => ?_) AllReady.nil)
            refine wp_buildN_one (.tmp 43) (by kernel_rfl) p i s cs.length (by kernel_rfl) ?_
            refine hK _ _ ?_
            clear hK K
            try simp only [Act.put, List.setIfInBounds_toArray, List.set_cons_zero, List.set_cons_succ]
            have B5 := Lib.hid (B3.out.alloc (Nat.le_of_eq (by rfl)) (.cells #[.string p, .int .i64 i, .int .i64 s, .int .i64 cs.length] 80))
            have cy : (w.drew.alloc (.cells #[.string p, .int .i64 i, .int .i64 s, .int .i64 cs.length] 80)).cell? ⟨m, 2, none⟩ = some (.slice an ns.length cn) := (cell_of_row _ m 2 _ _ _ (CELL.out _ B5.out)).trans rfl
            have cy2 : (w.alloc (.cells #[.string p, .int .i64 i, .int .i64 s, .int .i64 cs.length] 80)).cell? ⟨m, 2, none⟩ = some (.slice an ns.length cn) := (cell_of_row _ m 2 _ _ _ (CELL.out _ ((Below.refl _ w).alloc (Nat.le_refl _) _))).trans rfl
            refine wpAny_ready (rs := [15]) (by kernel_rfl) (by simp) (AllReady.cons rfl (fun K hK => ?_) AllReady.nil)
            have OW4 := Lib.hid (own_below N1.out B5.out)
            refine step_append_lies _ (by rfl) (.tmp 34) (.tmp 44) 56 (by rfl) B 80 ir _ 4 40 Try.underlying56 hi hz0 hz1 hz2 rfl (by omega) (.slice an ns.length cn) ns.length (nc ns) (by kernel_rfl) OW4.out ⟨w.drew.heap.size, 0, none⟩ 1 1 [.string p, .int .i64 i, .int .i64 s, .int .i64 cs.length] (by kernel_rfl) (by rfl) (World.news_of_block (cs := #[.string p, .int .i64 i, .int .i64 s, .int .i64 cs.length]) (t := 80) (fr := (0, 0)) (heap_alloc_new w.drew _)) (by simp [Value.oneCell']) (by omega) (by unfold maxLen; omega) (by omega) (by have := HB.out; have := B3.out.size; simp; omega) (w.drew.heap.size + 1) (by simp) ?_
            intro g2 cap2 w5 hown2 hgrow2 hat2 hlt2
            have FIN := Lib.hid (addN (nt := ⟨p, i, s, cs.length⟩) HM.out (reg_at HH.out) HML.out (CELL.out _ B5.out) C1.out R1.out N1.out N2.out N3.out B5.out hown2 hgrow2 (hat2.imp id (fun e => by rw [e]; simp)) hlt2)
            have x5 : w5.cell? ⟨m, 2, none⟩ = some (.slice an ns.length cn) := (cell_of_row _ m 2 _ _ _ FIN.out.1).trans rfl
            have f5 := frozen_of_row w5 m 2 _ _ FIN.out.1
            clear hown2 hgrow2 hat2 hlt2
            refine hK _ _ ?_
            clear hK K
            try simp only [Act.put, List.setIfInBounds_toArray, List.set_cons_zero, List.set_cons_succ]
            refine wpAny_take (i := 16) (v := ?_) rfl (by kernel_rfl) (by kernel_rfl) (by kernel_rfl) (fun _ _ _ h => h) (Or.inl ⟨by kernel_rfl, ?_⟩) ?_
            rotate_left
            · intro w
              go_simp
              try with_reducible rfl
            simp only [Act.put, List.getElem_toArray, List.getElem_cons_zero, List.getElem_cons_succ, List.setIfInBounds_toArray, List.set_cons_zero, List.set_cons_succ]
            refine wpAny_take (i := 17) (v := ?_) rfl (by kernel_rfl) (by kernel_rfl) (by kernel_rfl) (fun _ _ _ h => h) (Or.inl ⟨by kernel_rfl, ?_⟩) ?_
            rotate_left
            · intro w
              go_simp
              try with_reducible rfl
            simp only [Act.put, List.getElem_toArray, List.getElem_cons_zero, List.getElem_cons_succ, List.setIfInBounds_toArray, List.set_cons_zero, List.set_cons_succ]
            refine wpAny_ready (rs := [18]) (by kernel_rfl) (by simp) (AllReady.cons rfl (fun K hK => ?_) AllReady.nil)
            go_simp
            refine hK _ _ ?_
            clear hK K
            try simp only [Act.put, List.setIfInBounds_toArray, List.set_cons_zero, List.set_cons_succ]
            refine wpAny_done (by kernel_rfl) ?_ _
            go_wp2_with fail
            go_meet
            exact Lib.hid ⟨FIN.out.2.1, FIN.out.2.2⟩
          · skip
            go_simp
            refine hK _ _ ?_
            clear hK K
            try simp only [Act.put, List.setIfInBounds_toArray, List.set_cons_zero, List.set_cons_succ]
            refine wpAny_take (i := 12) (v := ?_) rfl (by kernel_rfl) (by kernel_rfl) (by kernel_rfl) (fun _ _ _ h => h) (Or.inl ⟨by kernel_rfl, ?_⟩) ?_
            rotate_left
            · intro w
              go_simp
              try with_reducible rfl
            simp only [Act.put, List.getElem_toArray, List.getElem_cons_zero, List.getElem_cons_succ, List.setIfInBounds_toArray, List.set_cons_zero, List.set_cons_succ]
            refine wpAny_take (i := 13) (v := ?_) rfl (by kernel_rfl) (by kernel_rfl) (by kernel_rfl) (fun _ _ _ h => h) (Or.inl ⟨by kernel_rfl, ?_⟩) ?_
            rotate_left
            · intro w
              go_simp
              try with_reducible rfl
            simp only [Act.put, List.getElem_toArray, List.getElem_cons_zero, List.getElem_cons_succ, List.setIfInBounds_toArray, List.set_cons_zero, List.set_cons_succ]
            refine wpAny_ready (rs := [4, 14]) (by kernel_rfl) (by simp) (AllReady.cons rfl (fun K hK => ?_) (Go.BigFrame.allReady_want rfl (by kernel_rfl) (fun K hK => ?_) AllReady.nil))
            · skip
              go_simp
              refine hK _ _ ?_
              clear hK K
              try simp only [Act.put, List.setIfInBounds_toArray, List.set_cons_zero, List.set_cons_succ]
              refine wpAny_ready (rs := [14]) (by kernel_rfl) (by simp) (Go.BigFrame.allReady_want rfl (by kernel_rfl) (fun K hK => ?_) AllReady.nil)
              refine wp_buildN_one (.tmp 43) (by kernel_rfl) p i s cs.length (by kernel_rfl) ?_
              refine hK _ _ ?_
              clear hK K
              try simp only [Act.put, List.setIfInBounds_toArray, List.set_cons_zero, List.set_cons_succ]
              have B5 := Lib.hid (B3.out.alloc (Nat.le_of_eq (by rfl)) (.cells #[.string p, .int .i64 i, .int .i64 s, .int .i64 cs.length] 80))
              have cy : (w.drew.alloc (.cells #[.string p, .int .i64 i, .int .i64 s, .int .i64 cs.length] 80)).cell? ⟨m, 2, none⟩ = some (.slice an ns.length cn) := (cell_of_row _ m 2 _ _ _ (CELL.out _ B5.out)).trans rfl
              have cy2 : (w.alloc (.cells #[.string p, .int .i64 i, .int .i64 s, .int .i64 cs.length] 80)).cell? ⟨m, 2, none⟩ = some (.slice an ns.length cn) := (cell_of_row _ m 2 _ _ _ (CELL.out _ ((Below.refl _ w).alloc (Nat.le_refl _) _))).trans rfl
              refine wpAny_ready (rs := [15]) (by kernel_rfl) (by simp) (AllReady.cons rfl (fun K hK => ?_) AllReady.nil)
              have OW4 := Lib.hid (own_below N1.out B5.out)
              refine step_append_lies _ (by rfl) (.tmp 34) (.tmp 44) 56 (by rfl) B 80 ir _ 4 40 Try.underlying56 hi hz0 hz1 hz2 rfl (by omega) (.slice an ns.length cn) ns.length (nc ns) (by kernel_rfl) OW4.out ⟨w.drew.heap.size, 0, none⟩ 1 1 [.string p, .int .i64 i, .int .i64 s, .int .i64 cs.length] (by kernel_rfl) (by rfl) (World.news_of_block (cs := #[.string p, .int .i64 i, .int .i64 s, .int .i64 cs.length]) (t := 80) (fr := (0, 0)) (heap_alloc_new w.drew _)) (by simp [Value.oneCell']) (by omega) (by unfold maxLen; omega) (by omega) (by have := HB.out; have := B3.out.size; simp; omega) (w.drew.heap.size + 1) (by simp) ?_
              intro g2 cap2 w5 hown2 hgrow2 hat2 hlt2
              have FIN := Lib.hid (addN (nt := ⟨p, i, s, cs.length⟩) HM.out (reg_at HH.out) HML.out (CELL.out _ B5.out) C1.out R1.out N1.out N2.out N3.out B5.out hown2 hgrow2 (hat2.imp id (fun e => by rw [e]; simp)) hlt2)
              have x5 : w5.cell? ⟨m, 2, none⟩ = some (.slice an ns.length cn) := (cell_of_row _ m 2 _ _ _ FIN.out.1).trans rfl
              have f5 := frozen_of_row w5 m 2 _ _ FIN.out.1
              clear hown2 hgrow2 hat2 hlt2
              refine hK _ _ ?_
              clear hK K
              try simp only [Act.put, List.setIfInBounds_toArray, List.set_cons_zero, List.set_cons_succ]
              refine wpAny_take (i := 16) (v := ?_) rfl (by kernel_rfl) (by kernel_rfl) (by kernel_rfl) (fun _ _ _ h => h) (Or.inl ⟨by kernel_rfl, ?_⟩) ?_
              rotate_left
              · intro w
                go_simp
                try with_reducible rfl
              simp only [Act.put, List.getElem_toArray, List.getElem_cons_zero, List.getElem_cons_succ, List.setIfInBounds_toArray, List.set_cons_zero, List.set_cons_succ]
              refine wpAny_take (i := 17) (v := ?_) rfl (by kernel_rfl) (by kernel_rfl) (by kernel_rfl) (fun _ _ _ h => h) (Or.inl ⟨by kernel_rfl, ?_⟩) ?_
              rotate_left
              · intro w
                go_simp
                try with_reducible rfl
              simp only [Act.put, List.getElem_toArray, List.getElem_cons_zero, List.getElem_cons_succ, List.setIfInBounds_toArray, List.set_cons_zero, List.set_cons_succ]
              refine wpAny_ready (rs := [18]) (by kernel_rfl) (by simp) (AllReady.cons rfl (fun K hK => ?_) AllReady.nil)
              go_simp
              refine hK _ _ ?_
              clear hK K
              try simp only [Act.put, List.setIfInBounds_toArray, List.set_cons_zero, List.set_cons_succ]
              refine wpAny_done (by kernel_rfl) ?_ _
              go_wp2_with fail
              go_meet
              exact Lib.hid ⟨FIN.out.2.1, FIN.out.2.2⟩
            · skip
              refine wp_buildN_one (.tmp 43) (by kernel_rfl) p i s cs.length (by kernel_rfl) ?_
              refine hK _ _ ?_
              clear hK K
              try simp only [Act.put, List.setIfInBounds_toArray, List.set_cons_zero, List.set_cons_succ]
              have B5 := Lib.hid (B3.out.alloc (Nat.le_of_eq (by rfl)) (.cells #[.string p, .int .i64 i, .int .i64 s, .int .i64 cs.length] 80))
              have cy : (w.drew.alloc (.cells #[.string p, .int .i64 i, .int .i64 s, .int .i64 cs.length] 80)).cell? ⟨m, 2, none⟩ = some (.slice an ns.length cn) := (cell_of_row _ m 2 _ _ _ (CELL.out _ B5.out)).trans rfl
              have cy2 : (w.alloc (.cells #[.string p, .int .i64 i, .int .i64 s, .int .i64 cs.length] 80)).cell? ⟨m, 2, none⟩ = some (.slice an ns.length cn) := (cell_of_row _ m 2 _ _ _ (CELL.out _ ((Below.refl _ w).alloc (Nat.le_refl _) _))).trans rfl
              refine wpAny_ready (rs := [4]) (by kernel_rfl) (by simp) (AllReady.cons rfl (fun K hK => ?_) AllReady.nil)
              go_simp
              refine hK _ _ ?_
              clear hK K
              try simp only [Act.put, List.setIfInBounds_toArray, List.set_cons_zero, List.set_cons_succ]
              refine wpAny_ready (rs := [15]) (by kernel_rfl) (by simp) (AllReady.cons rfl (fun K hK => ?_) AllReady.nil)
              have OW4 := Lib.hid (own_below N1.out B5.out)
              refine step_append_lies _ (by rfl) (.tmp 34) (.tmp 44) 56 (by rfl) B 80 ir _ 4 40 Try.underlying56 hi hz0 hz1 hz2 rfl (by omega) (.slice an ns.length cn) ns.length (nc ns) (by kernel_rfl) OW4.out ⟨w.drew.heap.size, 0, none⟩ 1 1 [.string p, .int .i64 i, .int .i64 s, .int .i64 cs.length] (by kernel_rfl) (by rfl) (World.news_of_block (cs := #[.string p, .int .i64 i, .int .i64 s, .int .i64 cs.length]) (t := 80) (fr := (0, 0)) (heap_alloc_new w.drew _)) (by simp [Value.oneCell']) (by omega) (by unfold maxLen; omega) (by omega) (by have := HB.out; have := B3.out.size; simp; omega) (w.drew.heap.size + 1) (by simp) ?_
              intro g2 cap2 w5 hown2 hgrow2 hat2 hlt2
              have FIN := Lib.hid (addN (nt := ⟨p, i, s, cs.length⟩) HM.out (reg_at HH.out) HML.out (CELL.out _ B5.out) C1.out R1.out N1.out N2.out N3.out B5.out hown2 hgrow2 (hat2.imp id (fun e => by rw [e]; simp)) hlt2)
              have x5 : w5.cell? ⟨m, 2, none⟩ = some (.slice an ns.length cn) := (cell_of_row _ m 2 _ _ _ FIN.out.1).trans rfl
              have f5 := frozen_of_row w5 m 2 _ _ FIN.out.1
              clear hown2 hgrow2 hat2 hlt2
              refine hK _ _ ?_
              clear hK K
              try simp only [Act.put, List.setIfInBounds_toArray, List.set_cons_zero, List.set_cons_succ]
              refine wpAny_take (i := 16) (v := ?_) rfl (by kernel_rfl) (by kernel_rfl) (by kernel_rfl) (fun _ _ _ h => h) (Or.inl ⟨by kernel_rfl, ?_⟩) ?_
              rotate_left
              · intro w
                go_simp
                try with_reducible rfl
              simp only [Act.put, List.getElem_toArray, List.getElem_cons_zero, List.getElem_cons_succ, List.setIfInBounds_toArray, List.set_cons_zero, List.set_cons_succ]
              refine wpAny_take (i := 17) (v := ?_) rfl (by kernel_rfl) (by kernel_rfl) (by kernel_rfl) (fun _ _ _ h => h) (Or.inl ⟨by kernel_rfl, ?_⟩) ?_
              rotate_left
              · intro w
                go_simp
                try with_reducible rfl
              simp only [Act.put, List.getElem_toArray, List.getElem_cons_zero, List.getElem_cons_succ, List.setIfInBounds_toArray, List.set_cons_zero, List.set_cons_succ]
              refine wpAny_ready (rs := [18]) (by kernel_rfl) (by simp) (AllReady.cons rfl (fun K hK => ?_) AllReady.nil)
              go_simp
              refine hK _ _ ?_
              clear hK K
              try simp only [Act.put, List.setIfInBounds_toArray, List.set_cons_zero, List.set_cons_succ]
              refine wpAny_done (by kernel_rfl) ?_ _
              go_wp2_with fail
              go_meet
              exact Lib.hid ⟨FIN.out.2.1, FIN.out.2.2⟩
        case rest =>
          go_wp2_with fail
          go_ret
          exact ⟨rfl, hcut.out.1, hcut.out.2⟩
end Go.Proofs.Ytpafbnmncioppaa
