/- The walk of SupplyRamps. -/
import Derived.Test.YtnomamimpnogpaaDoorRampsU
import Derived.Test.YtnomamimpnogpaaDoorCodeC
import Derived.Test.YtnomamimpnogpaaDoorSupplyA
import Derived.Deep.LoopGhost
import Derived.Laws.FloatArith
import Derived.WideShapes
import Derived.OpenShut
import Derived.Outline
namespace Go.Proofs.YtnomamimpnogpaaDoor
open Go.RowKit Go.ChangeShapes Go.WideShapes
theorem Vars.mk {W : World} (h : Lib.TabIs Tryd.prog W "reveille/supply.table" .i64 supplyL) : supplyAt W := supply_mk h
theorem tripCells : Tryd.prog.cellsOf 42 = 4 := by kernel_rfl
set_option maxRecDepth 100000 in
theorem trip_arg {H : Type} {enc : TypeId × Value → H} {w : World} {r : Reach} {b0 : Nat} {v : Value} {d : DataW H} {ps : List MemPlace} (hv : Value.okWide Tryd.prog w r b0 42 v) (h : DataW.Trod enc Tryd.prog w 0 (fun _ => true) true 42 v d ps) :
    ∃ (a b s t : Int), v = .agg #[.int .i64 a, .int .i64 b, .int .u16 s, .int .i16 t] ∧ (Lit.int .i64 a).wf = true ∧ (Lit.int .i64 b).wf = true ∧ (Lit.int .u16 s).wf = true ∧ (Lit.int .i16 t).wf = true := by
  obtain ⟨cs, rfl, hs⟩ := okWide_struct Tryd.underlying42 hv
  obtain ⟨fuel, hf⟩ := h
  obtain ⟨xs, n, _, hx, hl, hlen, hel⟩ := DataW.trod_struct Tryd.underlying42 hf
  rw [tripCells] at hs
  obtain ⟨L⟩ := cs
  match L, hs with
  | [c0, c1, c2, c3], _ =>
    match xs, hlen with
    | [x0, x1, x2, x3], _ =>
      have t0 : DataW.trod enc Tryd.prog w 0 (fun _ => true) true n 3 [c0] = some x0 := hel 0 _ rfl
      have t1 : DataW.trod enc Tryd.prog w 0 (fun _ => true) true n 3 [c1] = some x1 := hel 1 _ rfl
      have t2 : DataW.trod enc Tryd.prog w 0 (fun _ => true) true n 39 [c2] = some x2 := hel 2 _ rfl
      have t3 : DataW.trod enc Tryd.prog w 0 (fun _ => true) true n 40 [c3] = some x3 := hel 3 _ rfl
      obtain ⟨a, e0, _, h0⟩ := DataW.trod_int Tryd.underlying3 t0
      obtain ⟨b, e1, _, h1⟩ := DataW.trod_int Tryd.underlying3 t1
      obtain ⟨s, e2, _, h2⟩ := DataW.trod_int Tryd.underlying39 t2
      obtain ⟨t, e3, _, h3⟩ := DataW.trod_int Tryd.underlying40 t3
      simp at e0 e1 e2 e3
      subst e0 e1 e2 e3
      exact ⟨a, b, s, t, rfl, h0, h1, h2, h3⟩
theorem pick24 (n : Int) : ∃ (r : Int) (a : Nat), n.tmod 24 = r ∧ -24 < r ∧ r < 24 ∧ (r + 24).tmod 24 = (a : Int) ∧ a < 24 := by
  have h1 := Int.lt_tmod_of_pos n (b := 24) (by omega)
  have h2 := Int.tmod_lt_of_pos n (b := 24) (by omega)
  have h3 := Int.tmod_lt_of_pos (n.tmod 24 + 24) (b := 24) (by omega)
  have h4 : 0 ≤ (n.tmod 24 + 24).tmod 24 := Int.tmod_nonneg _ (by omega)
  exact ⟨n.tmod 24, ((n.tmod 24 + 24).tmod 24).toNat, rfl, h1, h2, by omega, by omega⟩
/-- The q-th place on the way. -/
def plc (a b q : Nat) : Nat := if b < a then a - q else a + q
theorem way_any (a b : Nat) (w : World) (ha : a < 24) (hb : b < 24) :
    Calls Tryd.prog 17 #[.int .i64 a, .int .i64 b] w fun e w' => ∃ g c, e = .returned (.tuple #[.slice (some ⟨g, 0, none⟩) (wayV a b).length c, .int .i64 0]) ∧ w'.ownsRow w.heap.size 3 1 (.slice (some ⟨g, 0, none⟩) (wayV a b).length c) (wayV a b).length (icells (wayV a b)) ∧ Below w.heap.size w w' := by
  by_cases h : b < a
  · exact way_down a b w ha hb h
  · exact way_up a b w ha hb h
theorem way_at {w : World} {B : Nat} {a b g c : Nat} (h : w.ownsRow B 3 1 (.slice (some ⟨g, 0, none⟩) (wayV a b).length c) (wayV a b).length (icells (wayV a b))) (q : Nat) (hq : q ≤ (a - b) + (b - a)) : w.cell? ⟨g, q, none⟩ = some (.int .i64 (plc a b q : Nat)) := by
  have hl : (wayV a b).length = (a - b) + (b - a) + 1 := wayTo_len ..
  rw [h.cellAt q (by omega)]
  simp only [icells, wayV, wayTo, List.map_map, List.getElem?_map, List.getElem?_range (show q < (a - b) + (b - a) + 1 by omega), Option.map_some, Function.comp]
  unfold plc
  split <;> congr 2 <;> omega
theorem plc_lt {a b q : Nat} (ha : a < 24) (hb : b < 24) (hq : q ≤ (a - b) + (b - a)) : plc a b q < 24 := by
  unfold plc; split <;> omega
theorem plc_zero (a b : Nat) : plc a b 0 = a := by unfold plc; split <;> omega
theorem plc_last (a b : Nat) : plc a b ((a - b) + (b - a)) = b := by unfold plc; split <;> omega
theorem plc_dist {a b q : Nat} (ha : a < 24) (hb : b < 24) (hq : q < (a - b) + (b - a)) : dN a (plc a b (q + 1)) = dN a (plc a b q) + dN (plc a b q) (plc a b (q + 1)) := by
  unfold plc
  split
  · have h := dN_down a (a - (q + 1)) ha (by omega) (by omega)
    rw [show a - (q + 1) + 1 = a - q by omega] at h
    exact h
  · have h := dN_up a (a + q) ha (by omega) (by omega)
    exact h
theorem code_steps (t : Int) (h0 : -32768 ≤ t) (h1 : t ≤ 32767) : codeV (t * 12500) = (t, true) ∧ codeV (t * 12500 + 6250) = (t, true) := by
  have e1 : codeN (t * 12500) = t := by
    unfold codeN
    rw [if_neg (by omega)]
    omega
  have e2 : codeN (t * 12500 + 6250) = t := by
    unfold codeN
    rw [if_neg (by omega)]
    omega
  constructor
  · unfold codeV
    rw [e1, if_neg (by omega), if_neg (by omega)]
  · unfold codeV
    rw [e2, if_neg (by omega), if_neg (by omega)]
set_option maxHeartbeats 40000000 in
set_option maxRecDepth 100000 in
theorem supplyRamps_walk {H : Type} {enc : TypeId × Value → H} (v : Value) (d : DataW H) (ps : List MemPlace) (W : World)
    (h : DataW.Trod enc Tryd.prog W 0 (fun _ => true) true 42 v d ps) {base : Nat} (hok : Value.okWide Tryd.prog W .any base 42 v) (_ : ∀ n ∈ DataW.weights Tryd.prog 42 d, n ≤ reachBytes) (_ : W.ShapedOpen Tryd.prog) (hT : supplyAt W) :
    Calls Tryd.prog 5 #[v] W fun e w' => e = .returned (.bool true) ∧ Below W.heap.size W w' := by
  obtain ⟨fr, to, sl, st, rfl, w0, w1, w2, w3⟩ := trip_arg hok h
  obtain ⟨k0, k1⟩ : 0 ≤ sl ∧ sl ≤ 65535 := by simpa [Lit.wf, IntKind.min, IntKind.max, IntKind.bits, IntKind.signed] using w2
  obtain ⟨t0, t1⟩ : -32768 ≤ st ∧ st ≤ 32767 := by simpa [Lit.wf, IntKind.min, IntKind.max, IntKind.bits, IntKind.signed] using w3
  obtain ⟨k, rfl⟩ : ∃ k : Nat, sl = k := ⟨sl.toNat, by omega⟩
  obtain ⟨r1, a, hr1, x0, x1, hr2, ha⟩ := pick24 fr
  obtain ⟨r3, b, hr3, y0, y1, hr4, hb⟩ := pick24 to
  obtain ⟨n, hn⟩ : ∃ n, n = k + 1 := ⟨_, rfl⟩
  have hadd := Dbl.slew_add k (by omega)
  rw [← hn] at hadd
  have hn0 : 0 < n := by omega
  have hn1 : n ≤ 65536 := by omega
  have hok' := Dbl.okS_n n hn0 hn1
  have hself := rampV_order a b n ha hb hn0 hn1
  have hstep := fun q S (hS : SumAt n a (plc a b q) q S) (hq : q < (a - b) + (b - a)) => sum_step hS ha (plc_lt ha hb (by omega)) (plc_lt ha hb (by omega)) (by unfold plc; split <;> omega) (plc_dist ha hb hq) (by omega) hn0 hn1
  have hends := fun S (hS : SumAt n a b ((a - b) + (b - a)) S) => sum_ends hS ha hb (by omega) hn0 hn1
  generalize hs : Dbl.F.nearest false n 0 = s at *
  have e1 := fun w => run_float_arith (P := Tryd.prog) w .add 43 .f64 _ _ _ hadd
  have R1 := Lib.hid (fun w hw => ramp_ok a b s w ha hb hw hok')
  have R2 := Lib.hid (fun w hw => ramp_ok b a s w hb ha hw hok')
  rw [rampV_comm b a s] at R2
  have RS := Lib.hid (fun q w (hq : q < (a - b) + (b - a)) hw => ramp_ok (plc a b q) (plc a b (q + 1)) s w (plc_lt ha hb (by omega)) (plc_lt ha hb (by omega)) hw hok')
  generalize hX : rampV a b s = X at *
  obtain ⟨m, hm⟩ : ∃ m, (a - b) + (b - a) = m := ⟨_, rfl⟩
  rw [hm] at hstep hends RS
  have hm23 : m ≤ 23 := by omega
  have hplast : plc a b m = b := by rw [← hm]; exact plc_last a b
  have hlen : (wayV a b).length = m + 1 := by rw [← hm]; exact wayTo_len ..
  have hat := fun {w : World} {B g c : Nat} (h : w.ownsRow B 3 1 (.slice (some ⟨g, 0, none⟩) (wayV a b).length c) (wayV a b).length (icells (wayV a b))) (q : Nat) (hq : q ≤ m) => way_at h q (by omega)
  have HSTEP := Lib.hid hstep
  have HENDS := Lib.hid hends
  have HAB := Lib.hid (And.intro ha hb)
  have HT := Lib.hid hT
  have C12 := code_steps st t0 t1
  have C1 := Lib.hid (fun w => code_any (st * 12500) w (by omega) (by omega))
  have C2 := Lib.hid (fun w => code_any (st * 12500 + 6250) w (by omega) (by omega))
  rw [C12.1] at C1
  rw [C12.2] at C2
  have hb0 := (Below.refl W.heap.size W).alloc (Nat.le_refl _) (.cells #[.int .i64 fr, .int .i64 to, .int .u16 k, .int .i16 st] 42)
  have E0 := Lib.hid hb0
  have F0 := Lib.hid (HT.out.grown hb0)
  clear h hok w0 w1 w2 w3 hb0 hT hok' hstep hends hX hs hadd C12 k0 k1
  go_enter Tryd.func5, Tryd.ntmps5
  go_wp2_with fail
  refine (R1.out _ F0.out).mono ?_
  rintro e w' ⟨rfl, rfl⟩
  go_wp2_with fail
  refine (R2.out _ F0.out).mono ?_
  rintro e w' ⟨rfl, rfl⟩
  go_wp2_with fail
  refine (way_any a b _ HAB.out.1 HAB.out.2).mono ?_
  rintro e w1 ⟨g, c, rfl, hown, hb1⟩
  have E1 := Lib.hid (E0.out.trans (hb1.mono E0.out.size))
  have F1 := Lib.hid (F0.out.grown hb1)
  have L1 := Lib.hid hown
  have hcells := fun q (hq : q ≤ m) => hat hown q hq
  have HC := Lib.hid hcells
  have c0 := hcells 0 (by omega)
  have cl := hcells m (by omega)
  rw [plc_zero] at c0
  rw [hplast] at cl
  rw [hlen]
  have HM := Lib.hid hm
  have HPL := Lib.hid hplast
  clear hcells hown hb1 hat hlen hplast hm
  go_wp2_with fail
  have hg1 : g < w1.heap.size := World.block_lt_of_cell? w1 _ c0
  clear c0 cl
  go_loopg [13, 14] m (fun r sm p wr => ∃ q : Nat, q ≤ m ∧ r = m - q ∧ p = .int .i64 ((q : Int) + 1) ∧ ∃ S, sm = .float .f64 S ∧ Hid (SumAt n a (plc a b q) q S ∧ Below w1.heap.size w1 wr))
  case atStart => exact ⟨0, by omega, by omega, rfl, 0, rfl, Lib.hid ⟨.inl ⟨rfl, plc_zero a b, rfl⟩, Below.refl _ _⟩⟩
  case round =>
    obtain ⟨q, hq, hr, rfl, S, rfl, hh⟩ := hrel
    have HR := Lib.hid hr
    have HB := Lib.hid hh.out.2
    have F2 := Lib.hid (F1.out.grown HB.out)
    by_cases hlt : q < m
    · obtain ⟨S', hS, hS'⟩ := HSTEP.out q S hh.out.1 hlt
      have HS' := Lib.hid hS'
      have cq := (HB.out.cell (p := ⟨g, q, none⟩) hg1).trans (HC.out q (by omega))
      have cq1 := (HB.out.cell (p := ⟨g, q + 1, none⟩) hg1).trans (HC.out (q + 1) (by omega))
      have hcall := RS.out q
      have hm := HM.out
      have hne : plc a b (q + 1) = plc a b q + 1 ∨ plc a b q = plc a b (q + 1) + 1 := by unfold plc; split <;> omega
      have hP := plc_lt HAB.out.1 HAB.out.2 (q := q) (by omega)
      clear hm
      obtain ⟨P, hPq⟩ : ∃ P, plc a b q = P := ⟨_, rfl⟩
      obtain ⟨P1, hP1⟩ : ∃ P1, plc a b (q + 1) = P1 := ⟨_, rfl⟩
      rw [hPq, hP1] at hS hcall hne
      rw [hP1] at HS' cq1
      rw [hPq] at hP cq
      have HP1 := Lib.hid hP1
      clear hPq hP1
      generalize rampV P P1 s = z at *
      have eS := fun w => run_float_arith (P := Tryd.prog) w .add 43 .f64 _ _ _ hS
      have HCALL := Lib.hid (fun w hw => hcall w hlt hw)
      have HQ := Lib.hid hq
      clear hS hS' hr hh hcall hq
      have q1pos : (0 : Int) ≤ (q : Int) + 1 := by omega
      have q1pos' : (0 : Int) ≤ (q : Int) := by omega
      have q1w : IntKind.i64.wrap (q : Int) = (q : Int) := by rw [IntKind.wrap_i64]; omega
      have q1lt : (q : Int) < (m : Int) + 1 := by omega
      rcases hne with rfl | rfl
      · go_wp2_with fail
        go_quiet ((go_at_call 16; exact Calls.quiet_of_same ((HCALL.out _ (F2.out.grown (below_drewN (Below.refl _ _) _))).mono fun _ _ ⟨h, e⟩ => ⟨h, e.symm⟩)))
        go_wp2_with fail
        go_quiet (fail)
        go_wp2_with fail
        go_roundg (m - (q + 1))
        case measure => rw [HR.out]; omega
        case rel => exact ⟨q + 1, by omega, rfl, by simp, S', rfl, Lib.hid ⟨by rw [HP1.out]; exact HS'.out, below_drewN HB.out _⟩⟩
      · have v1 : IntKind.i64.wrap ((P1 : Int) + 1 + 1) = (P1 : Int) + 1 + 1 := by rw [IntKind.wrap_i64]; omega
        have v2 : ¬ (P1 : Int) = (P1 : Int) + 1 + 1 := by omega
        have v3 : IntKind.i64.wrap ((P1 : Int) + 1) = (P1 : Int) + 1 := by rw [IntKind.wrap_i64]; omega
        have v4 : IntKind.i64.wrap (P1 : Int) = (P1 : Int) := by rw [IntKind.wrap_i64]; omega
        have v5 : ((P1 : Int) == (P1 : Int) + 1 + 1) = false := beq_eq_false_iff_ne.2 v2
        go_wp2_with fail
        go_quiet ((go_at_call 16; exact Calls.quiet_of_same ((HCALL.out _ (F2.out.grown (below_drewN (Below.refl _ _) _))).mono fun _ _ ⟨h, e⟩ => ⟨h, e.symm⟩)))
        go_wp2_with fail
        go_quiet (fail)
        go_wp2_with fail
        go_roundg (m - (q + 1))
        case measure => rw [HR.out]; omega
        case rel => exact ⟨q + 1, by omega, rfl, by simp, S', rfl, Lib.hid ⟨by rw [HP1.out]; exact HS'.out, below_drewN HB.out _⟩⟩
    · obtain rfl : q = m := by omega
      have hS := hh.out.1
      rw [show plc a b q = b from HPL.out] at hS
      obtain ⟨y1, y2, g1, g2, g3, g4⟩ := HENDS.out S hS
      have m1 := fun w => run_float_arith (P := Tryd.prog) w .mul 43 .f64 _ _ _ g1
      have m2 := fun w => run_float_arith (P := Tryd.prog) w .mul 43 .f64 _ _ _ g2
      have E2 := Lib.hid (E1.out.trans (HB.out.mono E1.out.size))
      have k1 : (FloatKind.f64.format.order S y1 == some .gt) = false := by simpa using g3
      have k2 : (FloatKind.f64.format.order S y2 == some .lt) = false := by simpa using g4
      clear g1 g2 hS hh
      go_wp2_with fail
      refine (C1.out _).mono ?_
      rintro e w' ⟨rfl, rfl⟩
      go_wp2_with fail
      refine (C2.out _).mono ?_
      rintro e w' ⟨rfl, rfl⟩
      go_wp2_with fail
      refine (awake_any _ F2.out).mono ?_
      rintro e w' ⟨rfl, rfl⟩
      go_wp2_with fail
      go_ret
      exact ⟨rfl, E2.out⟩
end Go.Proofs.YtnomamimpnogpaaDoor
