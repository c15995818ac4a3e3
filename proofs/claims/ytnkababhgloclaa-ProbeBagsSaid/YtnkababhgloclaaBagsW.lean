/- ProbeBags: a bag, step by step, closures asked: it is so for every script. -/
import Derived.Test.YtnkababhgloclaaPlayG1
import Derived.Test.YtnkababhgloclaaPlayG2
import Derived.Test.YtnkababhgloclaaPlayG3
import Derived.Test.YtnkababhgloclaaPlayG4
import Derived.Test.YtnkababhgloclaaStxC
import Derived.Deep.CutRange
namespace Go.Proofs.Ytnkababhgloclaa
open Go.RowKit Go.ChangeShapes Go.WideShapes Tx
theorem step_any {w : World} {B q b m : Nat} {L : List Th} {last : Int} {closed : Bool} (h : PS w B q b m L last closed) (hI : ∃ N0 c f, PlayI w q b m N0 c f) (hl : last ≤ 100000) (s : St) :
    Calls Try.prog 10 #[.pointer (some ⟨q, 0, none⟩), .agg s.cells.toArray] w fun e w' => e = .returned (.bool true) ∧ Fin w B q b m last w' := by
  by_cases h1 : s.kind = 1
  · exact step_marks h hI hl s h1
  by_cases h2 : s.kind = 2
  · exact step_undoes h hI hl s h2
  by_cases h3 : s.kind = 3
  · exact step_keeps h hI hl s h3
  by_cases h4 : s.kind = 4
  · exact step_backs h hI hl s h4
  by_cases h5 : s.kind = 5
  · exact step_closes h hI hl s h5
  by_cases h6 : s.kind = 6
  · exact step_nils h hI hl s h6
  exact step_adds h hI hl s ⟨h1, h2, h3, h4, h5, h6⟩
theorem heldR_map (w : World) (L : List Th) : heldR (L.map (rtOf w)) = heldN L := by
  unfold heldR heldN
  rw [List.filter_map, List.map_map]
  have e : ((fun t : RT => !t.mark) ∘ rtOf w) = fun t : Th => t.fn.isSome := funext fun t => by
    show (!t.fn.isNone) = t.fn.isSome
    cases t.fn <;> rfl
  rw [e]
  rfl
/-- The play between two steps of the law. -/
def BSt (W : World) (q b m i : Nat) (w : World) : Prop := ∃ L last closed, PS w W.heap.size q b m L last closed ∧ (∃ N0 c f, PlayI w q b m N0 c f) ∧ last ≤ (i : Int) ∧ Below W.heap.size W w
theorem BSt.below {W w w' : World} {q b m i : Nat} (h : BSt W q b m i w) (hb : Below w.heap.size w w') : BSt W q b m i w' := by
  obtain ⟨L, last, closed, h1, ⟨N0, c, f, h2⟩, h3, h4⟩ := h
  exact ⟨L, last, closed, h1.below hb, ⟨N0, c, f, h2.below hb⟩, h3, h4.trans (hb.mono h4.size)⟩
theorem BSt.fin {W w w' : World} {q b m i : Nat} {last : Int} (h0 : Below W.heap.size W w) (hl : last ≤ (i : Int)) (h : Fin w W.heap.size q b m last w') : BSt W q b m (i + 1) w' := by
  obtain ⟨⟨L, l, c, h1, h2⟩, h3, h4⟩ := h
  exact ⟨L, l, c, h1, h3, by omega, h0.trans h4⟩
theorem idxS {i n : Nat} (h : i < n) (h6 : i < 600) : (0 : Int) ≤ (i : Int) ∧ (i : Int) < (n : Int) ∧ wrap64 ((i : Int) + 1) = (i : Int) + 1 ∧ decide ((i : Int) < (n : Int)) = true ∧ decide ((i : Int) < 600) = true := ⟨by omega, by omega, IntWalk.wrap64_in _ (by omega), decide_eq_true (by omega), decide_eq_true (by omega)⟩
theorem PS.fresh {w w1 : World} {B q b m : Nat} {L : List Th} {last : Int} {closed : Bool} (h : PS w B q b m L last closed) (hI : ∃ N0 c f, PlayI w q b m N0 c f) (hw : w1 = (w.setCell ⟨q, 2, none⟩ (.slice none 0 0)).setCell ⟨q, 3, none⟩ (.slice none 0 0)) :
    PS w1 B q b m L last closed ∧ PlayNil w1 q b m ∧ Below B w w1 := by
  obtain ⟨N0, c, f, hI⟩ := hI
  obtain ⟨vc, vf, hb, _⟩ := hI
  have h1 := heap_setCell_same _ q 2 _ _ (.slice none 0 0) hb
  have h2 := heap_setCell_same _ q 3 _ _ (.slice none 0 0) h1
  have r1 : Rel B OP w (w.setCell ⟨q, 2, none⟩ (.slice none 0 0)) := Rel.set (a := ⟨q, 2, none⟩) h.hBq hb ⟨_, _, rfl⟩ _
  have r2 : Rel B OP (w.setCell ⟨q, 2, none⟩ (.slice none 0 0)) ((w.setCell ⟨q, 2, none⟩ (.slice none 0 0)).setCell ⟨q, 3, none⟩ (.slice none 0 0)) := Rel.set (a := ⟨q, 3, none⟩) h.hBq h1 ⟨_, _, rfl⟩ _
  have r := r1.trans r2
  rw [← hw] at r h2
  refine ⟨?_, h2, r.out (Below.refl _ _) h.hBw⟩
  exact h.to ((Old.refl _).rel r (fun k C z _ => ⟨OP_not (by decide) _ _ _, OP_not (by decide) _ _ _, OP_not (by decide) _ _ _⟩)) r.size (h.bag.rel r (fun C z => OP_not (by decide) _ _ _) (fun k C z => OP_not (by decide) _ _ _)) (h.rbag.rel r (fun C z => OP_not (by decide) _ _ _) (fun k C z => OP_not (by decide) _ _ _)) (fun _ h => h) (Nat.le_refl _) (Int.le_refl _)
set_option maxHeartbeats 8000000 in
set_option maxRecDepth 100000 in
theorem probeBags_walk {H : Type} {enc : TypeId × Value → H} (v : Value) (d : DataW H) (ps : List MemPlace) (W : World)
    (h : DataW.Trod enc Try.prog W 0 (fun _ => true) true 22 v d ps) {base : Nat} (hok : Value.okWide Try.prog W .any base 22 v) (hw : ∀ n ∈ DataW.weights Try.prog 22 d, n ≤ reachBytes) (hsh : W.ShapedOpen Try.prog) :
    Calls Try.prog 3 #[v] W fun e w' => e = .returned (.bool true) ∧ Below W.heap.size W w' := by
  obtain ⟨ts, hv, hsz, hTo⟩ := sts_arg hok h hw
  have HV := Lib.hid hv
  obtain ⟨av, cv, rfl, hzz, hcells⟩ := hv
  have HCELL := Lib.hid hcells
  obtain ⟨nt, hnt⟩ : ∃ n, ts.length = n := ⟨_, rfl⟩
  have HNT := Lib.hid hnt
  rw [hnt]
  obtain ⟨w1, hw1⟩ : ∃ x, x = ((W.alloc (.cells #[.slice none 0 0, .int .i64 0, .bool false, .bool false] 89 (0, 0))).alloc (.cells #[.slice none 0 0, .int .i64 0, .bool false] 29)).alloc (.cells #[.pointer (some ⟨W.heap.size, 0, none⟩), .pointer (some ⟨W.heap.size + 1, 0, none⟩), .slice none 0 0, .slice none 0 0, .bool false] 32) := ⟨_, rfl⟩
  have ST0 : Hid (BSt W (W.heap.size + 1 + 1) W.heap.size (W.heap.size + 1) 0 w1) := Lib.hid (by
    have b1 : Below W.heap.size W (W.alloc (.cells #[.slice none 0 0, .int .i64 0, .bool false, .bool false] 89 (0, 0))) := (Below.refl _ W).alloc (Nat.le_refl _) _
    have g1 := bag_new W W.heap.size (Nat.le_refl _)
    obtain ⟨x1, hx1⟩ : ∃ x, x = W.alloc (.cells #[.slice none 0 0, .int .i64 0, .bool false, .bool false] 89 (0, 0)) := ⟨_, rfl⟩
    rw [← hx1] at b1 g1 hw1
    have z1 : x1.heap.size = W.heap.size + 1 := by rw [hx1]; exact sz_alloc _ _
    have b2 : Below x1.heap.size x1 (x1.alloc (.cells #[.slice none 0 0, .int .i64 0, .bool false] 29)) := (Below.refl _ x1).alloc (Nat.le_refl _) _
    have g2 := heap_alloc_new x1 (.cells #[.slice none 0 0, .int .i64 0, .bool false] 29)
    obtain ⟨x2, hx2⟩ : ∃ x, x = x1.alloc (.cells #[.slice none 0 0, .int .i64 0, .bool false] 29) := ⟨_, rfl⟩
    rw [← hx2] at b2 g2 hw1
    have z2 : x2.heap.size = W.heap.size + 1 + 1 := by rw [hx2, sz_alloc, z1]
    have b3 : Below x2.heap.size x2 (x2.alloc (.cells #[.pointer (some ⟨W.heap.size, 0, none⟩), .pointer (some ⟨W.heap.size + 1, 0, none⟩), .slice none 0 0, .slice none 0 0, .bool false] 32)) := (Below.refl _ x2).alloc (Nat.le_refl _) _
    have g3 := heap_alloc_new x2 (.cells #[.pointer (some ⟨W.heap.size, 0, none⟩), .pointer (some ⟨W.heap.size + 1, 0, none⟩), .slice none 0 0, .slice none 0 0, .bool false] 32)
    rw [← hw1] at b3 g3
    rw [z1] at g2
    rw [z2] at g3
    have b23 : Below x1.heap.size x1 w1 := b2.trans (b3.mono (by omega))
    have pn : PlayNil w1 (W.heap.size + 1 + 1) W.heap.size (W.heap.size + 1) := g3
    refine ⟨[], 0, false, ⟨g1.below b23, ⟨Nat.le_succ _, _, (b3.block _ (Array.getElem?_eq_some_iff.1 g2).1).trans g2, World.ownsRow_nil _ _ _ _⟩, fun t ht => (by cases ht), by simp, Int.le_refl _, by omega, ?_⟩, ⟨0, [], [], pn.to 0⟩, by simp, b1.trans (b23.mono (by omega))⟩
    have := b23.size
    omega)
  have HW1 := Lib.hid hw1
  clear h hok hw hsh hsz hTo hnt hzz hcells hw1
  go_enter Try.func3, Try.ntmps3
  go_upto_region 2 with (refine (bnew_any W).mono ?_; rintro er w2 ⟨rfl, hw2⟩; have hw2 := hw2.symm; subst hw2)
  rw [← HW1.out]
  obtain ⟨q, hq⟩ : ∃ p, p = W.heap.size + 1 + 1 := ⟨_, rfl⟩
  obtain ⟨m, hm⟩ : ∃ p, p = W.heap.size + 1 := ⟨_, rfl⟩
  obtain ⟨b, hb⟩ : ∃ p, p = W.heap.size := ⟨_, rfl⟩
  rw [← hq, ← hm, ← hb] at ST0
  rw [← hq]
  have HB := Lib.hid hb
  clear hq hm hb HW1
  have p0 : Hid (∃ N0 c f, PlayI w1 q b m N0 c f) := Lib.hid (by
    obtain ⟨_, _, _, _, h, _⟩ := ST0.out
    exact h)
  obtain ⟨N0, c, f, hI⟩ := p0.out
  obtain ⟨_, _, _, _, e0, e1, _⟩ := hI.cells
  clear p0 hI
  go_upto_block 0 with fail
  clear e0 e1
  go_cut [] (fun wx => Hid (∃ i, i ≤ 600 ∧ BSt W q b m i wx))
  case first => as_aux_lemma => --ok
    go_wp2_with fail
    go_loopg [4] nt (fun r v4 wr => ∃ i : Nat, i ≤ nt ∧ i ≤ 600 ∧ r = nt - i ∧ v4 = .int .i64 i ∧ Hid (BSt W q b m i wr))
    case atStart => exact ⟨0, Nat.zero_le _, Nat.zero_le _, rfl, rfl, ST0⟩
    case round =>
      clear ST0
      obtain ⟨i, hi, hi6, hr, rfl, hq⟩ := hrel
      have HR := Lib.hid hr
      have HS := Lib.hid hq.out
      have HI6 := Lib.hid hi6
      clear hr hq hi6
      by_cases hlt : i < nt
      · by_cases h6 : i < 600
        · have hit : i < ts.length := by rw [HNT.out]; exact hlt
          obtain ⟨bb, off, rfl, gx⟩ := HCELL.out i hit
          obtain ⟨⟨kind, name, code, pan, word, sid⟩, ht⟩ : ∃ t, ts[i] = t := ⟨_, rfl⟩
          rw [ht] at gx
          obtain ⟨L, last, closed, hps, hpi, hla, hbe⟩ := HS.out
          have gy : ∀ j u, (St.cells ⟨kind, name, code, pan, word, sid⟩)[j]? = some u → wr.cell? ⟨bb, off + i * 6 + j, none⟩ = some u := fun j u hu => (hbe.cell (p := ⟨bb, off + i * 6 + j, none⟩) (World.block_lt_of_cell? W _ (gx j u hu))).trans (gx j u hu)
          have d0 : wr.cell? ⟨bb, off + i * 6, none⟩ = some (.int .i64 kind) := gy 0 _ rfl
          have d1 : wr.cell? ⟨bb, off + i * 6 + 1, none⟩ = some (.string name) := gy 1 _ rfl
          have d2 : wr.cell? ⟨bb, off + i * 6 + 2, none⟩ = some (.int .i64 code) := gy 2 _ rfl
          have d3 : wr.cell? ⟨bb, off + i * 6 + 3, none⟩ = some (.int .i64 pan) := gy 3 _ rfl
          have d4 : wr.cell? ⟨bb, off + i * 6 + 4, none⟩ = some (.string word) := gy 4 _ rfl
          have d5 : wr.cell? ⟨bb, off + i * 6 + 5, none⟩ = some (.int .i64 sid) := gy 5 _ rfl
          have CS : Hid (Calls Try.prog 10 #[.pointer (some ⟨q, 0, none⟩), .agg #[.int .i64 kind, .string name, .int .i64 code, .int .i64 pan, .string word, .int .i64 sid]] wr fun e w' => e = .returned (.bool true) ∧ Fin wr W.heap.size q b m last w') := Lib.hid (step_any hps hpi (by omega) ⟨kind, name, code, pan, word, sid⟩)
          obtain ⟨k1, k2, wk, k3, k4⟩ := idxS hlt h6
          have k5 : (i : Int) < 600 := by omega
          have HLT := Lib.hid hlt
          have HLA := Lib.hid hla
          have HBE := Lib.hid hbe
          have H6 := Lib.hid h6
          clear gx gy ht hps hpi hla hbe hit hlt h6 hi
          go_wp2_with fail
          refine CS.out.mono ?_
          rintro er x1 ⟨rfl, hfin⟩
          have S1 := Lib.hid (BSt.fin HBE.out HLA.out hfin)
          clear hfin CS d0 d1 d2 d3 d4 d5 HS HBE HLA
          obtain ⟨L1, last1, closed1, hps, ⟨N1, c1, f1, hpi⟩, _, _⟩ := S1.out
          obtain ⟨_, _, _, _, e0, e1, _⟩ := hpi.cells
          have CH := Lib.hid (held_any hps.bag hps.len)
          have PS1 := Lib.hid hps
          have PI1 := Lib.hid hpi
          clear hps hpi
          go_wp2_with fail
          refine CH.out.mono ?_
          rintro er x2 ⟨vl, rfl, hrow, hb2⟩
          obtain ⟨al, cl, rfl⟩ := own_slice hrow
          have ps2 := PS1.out.below hb2
          obtain ⟨_, _, _, _, e0', e1', _⟩ := (PI1.out.below hb2).cells
          have CR0 := rheld_any ps2.rbag (by rw [List.length_map]; exact ps2.len)
          rw [heldR_map] at CR0
          have CR := Lib.hid CR0
          have ROW := Lib.hid hrow
          have B2 := Lib.hid hb2
          clear CR0 ps2 hrow hb2 e0 e1 CH PI1
          go_wp2_with fail
          refine CR.out.mono ?_
          rintro er x3 ⟨vr, rfl, hrow3, hb3⟩
          have hll := Nat.le_trans (heldN_len L1) PS1.out.len
          have CX0 := stexts_any _ _ _ _ x3 (strs_own (own_below ROW.out hb3) (by unfold maxLen; omega)) (strs_own hrow3 (by unfold maxLen; omega))
          rw [decide_eq_true (rfl : heldN L1 = heldN L1)] at CX0
          have CX := Lib.hid CX0
          obtain ⟨nn, hnn⟩ : ∃ n, (heldN L1).length = n := ⟨_, rfl⟩
          have HNN := Lib.hid hll
          have ROW3 := Lib.hid (own_below ROW.out hb3)
          have B3 : Hid (Below x1.heap.size x1 x3) := Lib.hid (B2.out.trans (hb3.mono B2.out.size))
          clear CX0 hrow3 hb3 hll CR ROW B2 e0' e1'
          rw [hnn] at HNN ROW3 CX ⊢
          go_wp2_with fail
          refine CX.out.mono ?_
          rintro er x4 ⟨rfl, nd, hx4⟩
          have B4 : Hid (Below x1.heap.size x1 x4) := Lib.hid (by rw [hx4]; exact below_drewN B3.out nd)
          have ROW4 : Hid (x4.ownsRow x1.heap.size 9 1 (.slice al nn cl) nn (sc (heldN L1))) := Lib.hid (by rw [hx4]; exact own_below ROW3.out (below_drewN (Below.refl _ x3) nd))
          clear hx4 CX ROW3 B3 hnn
          go_wp2_with fail
          go_loopg [6] nn (fun r v6 wr => ∃ k : Nat, k ≤ nn ∧ r = nn - k ∧ v6 = .int .i64 k ∧ Hid (Below x1.heap.size x1 wr ∧ ∃ xs, wr.ownsRow x1.heap.size 9 1 (.slice al nn cl) nn xs))
          case atStart => exact ⟨0, Nat.zero_le _, rfl, rfl, Lib.hid ⟨B4.out, _, ROW4.out⟩⟩
          case round =>
            clear B4 ROW4
            obtain ⟨k, hk, hr2, rfl, hq2⟩ := hrel
            have HR2 := Lib.hid hr2
            obtain ⟨hb5, xs, ho5⟩ := hq2.out
            have B5 := Lib.hid hb5
            have O5 := Lib.hid ho5
            clear hr2 hq2 hb5 ho5
            by_cases hlt2 : k < nn
            · obtain ⟨g, cl', hform, _⟩ := O5.out.form (by omega)
              injection hform with q1 q2 q3
              subst q1 q3
              have hc := O5.out.cellAt k (by omega)
              have hf := O5.out.frozenAt k
              have hxl := O5.out.1
              obtain ⟨u, hu⟩ : ∃ u, xs[k]? = some u := ⟨_, List.getElem?_eq_getElem (by omega)⟩
              rw [hu] at hc
              obtain ⟨h1, h2, wk2⟩ := idxD hlt2 HNN.out
              obtain ⟨o6, g6⟩ := O5.out.stored k (.string ⟨#[126]⟩)
              have FIN2 : Hid (Below x1.heap.size x1 (wr.setCell ⟨g, k, none⟩ (.string ⟨#[126]⟩)) ∧ ∃ xs, (wr.setCell ⟨g, k, none⟩ (.string ⟨#[126]⟩)).ownsRow x1.heap.size 9 1 (.slice (some ⟨g, 0, none⟩) nn cl) nn xs) := Lib.hid ⟨B5.out.setCell (p := ⟨g, k, none⟩) (O5.out.lt g rfl).1 _, _, o6⟩
              have HLT2 := Lib.hid hlt2
              clear hlt2 hk hxl o6 g6 q2 hu
              go_wp2_with fail
              go_roundg (nn - (k + 1))
              case measure => exact measD HR2.out HLT2.out
              case rel => exact ⟨k + 1, HLT2.out, rfl, by first | rfl | (rw [wk2]; rfl), FIN2⟩
            · have d6 : ¬ (k : Int) < (nn : Int) := by omega
              clear hlt2 hk
              go_wp2_with fail
              go_roundg (nt - (i + 1))
              case measure => exact measD HR.out HLT.out
              case rel => exact ⟨i + 1, HLT.out, H6.out, rfl, by first | rfl | (rw [wk]; rfl), Lib.hid (S1.out.below B5.out)⟩
        · have d1 : decide ((i : Int) < (nt : Int)) = true := decide_eq_true (by omega)
          have d2 : decide ((i : Int) < 600) = false := decide_eq_false (by omega)
          have d3 : (i : Int) < (nt : Int) := by omega
          have d4 : ¬ (i : Int) < 600 := by omega
          clear hlt h6 hi
          go_wp2_with fail
          go_meet
          exact Lib.hid ⟨i, HI6.out, HS.out⟩
      · have d1 : decide ((i : Int) < (nt : Int)) = false := decide_eq_false (by omega)
        have d3 : ¬ (i : Int) < (nt : Int) := by omega
        clear hlt hi
        go_wp2_with fail
        go_meet
        exact Lib.hid ⟨i, HI6.out, HS.out⟩
  case rest =>
    obtain ⟨wx, rfl⟩ : ∃ x : World, x = wc := ⟨_, rfl⟩
    obtain ⟨i, hi6, L, last, closed, hps, hpi, hla, hbe⟩ := hcut.out
    clear hcut ST0
    obtain ⟨w5, hw5⟩ : ∃ x, x = (wx.setCell ⟨q, 2, none⟩ (.slice none 0 0)).setCell ⟨q, 3, none⟩ (.slice none 0 0) := ⟨_, rfl⟩
    obtain ⟨ps5, pn5, b5⟩ := hps.fresh hpi hw5
    obtain ⟨N0, c0, f0, hI⟩ := hpi
    have f2 := hI.frozen 2
    have f3 := hI.frozen 3
    obtain ⟨_, _, _, _, _, _, e2, e3, _⟩ := hI.cells
    have HW5 := Lib.hid hw5
    have PS5 := Lib.hid ps5
    have BB5 : Hid (Below W.heap.size W w5) := Lib.hid (hbe.trans b5)
    have J := Lib.hid (jclose ps5 (pn5.to _))
    have PN5 := Lib.hid pn5
    clear hps hI hbe hla hi6 hw5 ps5 pn5 b5
    go_upto_region 18 with fail
    rw [← HW5.out]
    clear f2 f3 e2 e3 HW5
    obtain ⟨_, _, _, _, r0, r1, _⟩ := (PN5.out.to 0).cells
    go_wp2_with fail
    refine J.out.mono ?_
    rintro er x1 ⟨v, vy, Z, rfl, hrow, hT, hI1, hZ, hK⟩
    obtain ⟨av', cv', rfl⟩ := own_slice hrow
    have T1 := Lib.hid hT
    have K1 := Lib.hid (hK x1 (Rel.refl _ _ _))
    have ROW := Lib.hid hrow
    have HZ := Lib.hid hZ
    obtain ⟨_, _, _, _, r0', r1', _⟩ := hI1.cells
    clear hT hI1 hK hrow hZ r0 r1 J
    go_wp2_with fail
    refine K1.out.mono ?_
    rintro er x3 ⟨u, rfl, hrow3, hs⟩
    obtain ⟨au, cu, rfl⟩ := own_slice hrow3
    have FF := Lib.hid (fin_ok (Below.refl W.heap.size w5 |>.mono (Nat.le_refl _)) PS5.out.hBw T1.out (Rel.refl _ _ _) hs)
    have ROV := Lib.hid (own_rel ROW.out hs.1 (fun _ _ _ _ => SD_no (by decide) (by decide) _ _ _))
    have ROW3 := Lib.hid hrow3
    obtain ⟨N3, I3⟩ := hs.2.2
    have I3 := Lib.hid I3
    have HB3 : Hid (W.heap.size ≤ x3.heap.size) := Lib.hid (Nat.le_trans PS5.out.hBw (Nat.le_trans T1.out.size hs.1.size))
    obtain ⟨n, hn⟩ : ∃ n, Z.length = n := ⟨_, rfl⟩
    have HN := Lib.hid hn
    rw [hn] at ROV ROW3 I3 HZ
    rw [hn]
    obtain ⟨x4, hmk, hm, hb4⟩ := make_ints x3 n HZ.out
    have CU := Lib.hid (undone_yes (I3.out.below hb4) (own_below ROV.out hb4) (own_below ROW3.out hb4) hm HN.out rfl (by simp) HZ.out)
    have B4 := Lib.hid hb4
    have hyy : (vy == vy) = true := by simp
    clear hs r0' r1' hrow3 hn hm hb4 ROW K1
    go_wp2_with fail
    refine CU.out.mono ?_
    rintro er x5 ⟨rfl, hr5⟩
    have FF5 := Lib.hid ((FF.out.or (Rel.below B4.out) HB3.out).or (rel_SRs hr5 PS5.out.hBw) (Nat.le_trans HB3.out B4.out.size))
    clear hr5 CU hmk
    go_wp2_with fail
    go_ret
    exact ⟨rfl, BB5.out.trans FF5.out.2.2⟩
end Go.Proofs.Ytnkababhgloclaa
