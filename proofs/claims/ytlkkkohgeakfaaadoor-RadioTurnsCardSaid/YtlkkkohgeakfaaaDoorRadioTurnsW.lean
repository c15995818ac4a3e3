/- The walk of RadioTurns. -/
import Derived.Test.YtlkkkohgeakfaaaDoorTurnV
import Derived.Test.YtlkkkohgeakfaaaDoorRadioA
import Derived.Test.YtlkkkohgeakfaaaDoorPairLib
import Derived.Laws.FloatArith
import Derived.Laws.ComplexArith
import Derived.WalkLawsBesides
import Derived.Laws.BitsAll
import Derived.WideShapes
import Derived.Handy
namespace Go.Proofs.YtlkkkohgeakfaaaDoor
open Go.RowKit Go.ChangeShapes Go.WideShapes
theorem Vars.mk {W : World} (h : Lib.TabIs Tryd.prog W "reveille/radio.table" .i64 radioL) : radioAt W := radio_mk h
theorem and3 (a : Int) : bits .and .i64 a 3 = a % 4 := by
  show IntKind.i64.wrap ((BitVec.ofInt 64 a &&& BitVec.ofInt 64 3).toNat : Int) = a % 4
  have h3 : (BitVec.ofInt 64 3).toNat = 2 ^ 2 - 1 := by decide
  rw [BitVec.toNat_and, h3, Nat.and_two_pow_sub_one_eq_mod, BitVec.toNat_ofInt]
  have h4 : ((a % ((2 ^ 64 : Nat) : Int)).toNat % 2 ^ 2 : Nat) = (a % 4).toNat := by omega
  rw [h4, IntKind.wrap_i64]
  omega
theorem turned_q (z : Nat × Nat) (a : Int) (q : Nat) (hq : a % 4 = (q : Int)) (w : World) :
    Calls Tryd.prog 14 #[.complex .f64 z.1 z.2, .int .i64 a] w fun e w' => e = .returned (.complex .f64 (Dbl.turn q z).1 (Dbl.turn q z).2) ∧ w = w' := by
  have h3 := and3 a
  rw [hq] at h3
  have hq4 : q < 4 := by omega
  have hneg : ∀ x, Op.unary .neg (.float .f64 x) = (pure (.float .f64 (Dbl.neg x)) : Sem Value) := fun _ => rfl
  clear hq
  match q, hq4 with
  | 0, _ =>
    have h3' : bits .and .i64 a 3 = 0 := h3
    clear h3
    go_enter Tryd.func14, Tryd.ntmps14
    go_wp2_with fail
    go_ret
    exact ⟨rfl, rfl⟩
  | 1, _ =>
    have h3' : bits .and .i64 a 3 = 1 := h3
    clear h3
    go_enter Tryd.func14, Tryd.ntmps14
    go_wp2_with fail
    go_ret
    exact ⟨rfl, rfl⟩
  | 2, _ =>
    have h3' : bits .and .i64 a 3 = 2 := h3
    clear h3
    go_enter Tryd.func14, Tryd.ntmps14
    go_wp2_with fail
    go_ret
    exact ⟨rfl, rfl⟩
  | 3, _ =>
    have h3' : bits .and .i64 a 3 = 3 := h3
    clear h3
    go_enter Tryd.func14, Tryd.ntmps14
    go_wp2_with fail
    go_ret
    exact ⟨rfl, rfl⟩
theorem power_q (z1 z2 p r s : Nat) (hp : Dbl.Pow (z1, z2) p r s) (w : World) :
    Calls Tryd.prog 15 #[.complex .f64 z1 z2] w fun e w' => e = .returned (.float .f64 p) ∧ w = w' := by
  obtain ⟨h1, h2, h3, _⟩ := hp
  have e1 := fun w => run_float_arith (P := Tryd.prog) w .mul 33 .f64 z1 z1 r h1
  have e2 := fun w => run_float_arith (P := Tryd.prog) w .mul 33 .f64 z2 z2 s h2
  have e3 := fun w => run_float_arith (P := Tryd.prog) w .add 33 .f64 r s p h3
  clear h1 h2 h3
  go_enter Tryd.func15, Tryd.ntmps15
  go_wp2_with fail
  go_ret
  exact ⟨rfl, rfl⟩
set_option maxHeartbeats 1000000 in
theorem mix_chain (b c : Nat) (n : Nat) (zs ps : Nat → Nat × Nat) (w : World) (hn : n ≤ 100) (hc : ∀ i, i < n → w.cell? ⟨b, i, none⟩ = some (.complex .f64 (zs i).1 (zs i).2)) (h0 : ps 0 = (4607182418800017408, 0)) (hs : ∀ i, i < n → Dbl.Mul (ps i) (zs i) (ps (i + 1))) :
    Calls Tryd.prog 16 #[.slice (some ⟨b, 0, none⟩) n c] w fun e w' => e = .returned (.complex .f64 (ps n).1 (ps n).2) ∧ w = w' := by
  have HC := Lib.hid hc
  have HS := Lib.hid hs
  have H0 := Lib.hid h0
  clear hc hs h0
  go_enter Tryd.func16, Tryd.ntmps16
  go_wp2_with fail
  go_loop [3, 10] (fun p i => ∃ k : Nat, k ≤ n ∧ i = .int .i64 k ∧ p = .complex .f64 (ps k).1 (ps k).2) (fun _ i => n - (intOf i).toNat)
  case atStart => exact ⟨0, by omega, rfl, by rw [H0.out]⟩
  case round =>
    obtain ⟨k, hk, rfl, rfl⟩ := hrel
    by_cases hlt : k < n
    · have c1 := HC.out k hlt
      obtain ⟨ac, bd, ad, bc, m1, m2, m3, m4, m5, m6⟩ := HS.out k hlt
      have e1 := fun w => run_float_arith (P := Tryd.prog) w .mul 33 .f64 _ _ _ m1
      have e2 := fun w => run_float_arith (P := Tryd.prog) w .mul 33 .f64 _ _ _ m2
      have e3 := fun w => run_float_arith (P := Tryd.prog) w .sub 33 .f64 _ _ _ m3
      have e4 := fun w => run_float_arith (P := Tryd.prog) w .mul 33 .f64 _ _ _ m4
      have e5 := fun w => run_float_arith (P := Tryd.prog) w .mul 33 .f64 _ _ _ m5
      have e6 := fun w => run_float_arith (P := Tryd.prog) w .add 33 .f64 _ _ _ m6
      clear m1 m2 m3 m4 m5 m6
      go_wp2_with fail
      go_round
      case rel => exact ⟨k + 1, by omega, by go_num, rfl⟩
      case measure => simp [intOf]; omega
    · obtain rfl : k = n := by omega
      go_wp2_with fail
      go_ret
      exact ⟨rfl, rfl⟩
theorem tmod_bd (n m : Int) (h : 0 < m) : -m < n.tmod m ∧ n.tmod m < m := ⟨Int.lt_tmod_of_pos n h, Int.tmod_lt_of_pos n h⟩
theorem tripCells : Tryd.prog.cellsOf 31 = 4 := by kernel_rfl
set_option maxRecDepth 100000 in
theorem trip_arg {H : Type} {enc : TypeId × Value → H} {w : World} {r : Reach} {b0 : Nat} {v : Value} {d : DataW H} {ps : List MemPlace} (hv : Value.okWide Tryd.prog w r b0 31 v) (h : DataW.Trod enc Tryd.prog w 0 (fun _ => true) true 31 v d ps) :
    ∃ (re im a b : Int), v = .agg #[.int .i32 re, .int .i32 im, .int .i64 a, .int .i64 b] ∧ (Lit.int .i32 re).wf = true ∧ (Lit.int .i32 im).wf = true ∧ (Lit.int .i64 a).wf = true ∧ (Lit.int .i64 b).wf = true := by
  obtain ⟨cs, rfl, hs⟩ := okWide_struct Tryd.underlying31 hv
  obtain ⟨fuel, hf⟩ := h
  obtain ⟨xs, n, _, hx, hl, hlen, hel⟩ := DataW.trod_struct Tryd.underlying31 hf
  rw [tripCells] at hs
  obtain ⟨L⟩ := cs
  match L, hs with
  | [c0, c1, c2, c3], _ =>
    match xs, hlen with
    | [x0, x1, x2, x3], _ =>
      have t0 : DataW.trod enc Tryd.prog w 0 (fun _ => true) true n 21 [c0] = some x0 := hel 0 _ rfl
      have t1 : DataW.trod enc Tryd.prog w 0 (fun _ => true) true n 21 [c1] = some x1 := hel 1 _ rfl
      have t2 : DataW.trod enc Tryd.prog w 0 (fun _ => true) true n 3 [c2] = some x2 := hel 2 _ rfl
      have t3 : DataW.trod enc Tryd.prog w 0 (fun _ => true) true n 3 [c3] = some x3 := hel 3 _ rfl
      obtain ⟨re, e0, _, h0⟩ := DataW.trod_int Tryd.underlying21 t0
      obtain ⟨im, e1, _, h1⟩ := DataW.trod_int Tryd.underlying21 t1
      obtain ⟨a, e2, _, h2⟩ := DataW.trod_int Tryd.underlying3 t2
      obtain ⟨b, e3, _, h3⟩ := DataW.trod_int Tryd.underlying3 t3
      simp at e0 e1 e2 e3
      subst e0 e1 e2 e3
      exact ⟨re, im, a, b, rfl, h0, h1, h2, h3⟩
set_option maxHeartbeats 4000000 in
set_option maxRecDepth 100000 in
theorem radioTurns_walk {H : Type} {enc : TypeId × Value → H} (v : Value) (d : DataW H) (ps : List MemPlace) (W : World)
    (h : DataW.Trod enc Tryd.prog W 0 (fun _ => true) true 31 v d ps) {base : Nat} (hok : Value.okWide Tryd.prog W .any base 31 v) (_ : ∀ n ∈ DataW.weights Tryd.prog 31 d, n ≤ reachBytes) (_ : W.ShapedOpen Tryd.prog) (hT : radioAt W) :
    Calls Tryd.prog 4 #[v] W fun e w' => e = .returned (.bool true) ∧ Below W.heap.size W w' := by
  obtain ⟨re, im, A, B, rfl, w0, w1, w2, w3⟩ := trip_arg hok h
  obtain ⟨a0, a1⟩ := bounds_i32 w0
  obtain ⟨b0, b1⟩ := bounds_i32 w1
  obtain ⟨z1, hz1, fz1, nz1⟩ := Dbl.eighth re a0 a1
  obtain ⟨z2, hz2, fz2, nz2⟩ := Dbl.eighth im b0 b1
  have hq1 := fun w => run_float_arith (P := Tryd.prog) w .quo 33 .f64 _ _ _ hz1
  have hq2 := fun w => run_float_arith (P := Tryd.prog) w .quo 33 .f64 _ _ _ hz2
  obtain ⟨c0, c1⟩ := tmod_bd A 1073741824 (by decide)
  obtain ⟨d0, d1⟩ := tmod_bd B 1073741824 (by decide)
  obtain ⟨a, ha⟩ : ∃ a, A.tmod 1073741824 = a := ⟨_, rfl⟩
  obtain ⟨b, hb⟩ : ∃ b, B.tmod 1073741824 = b := ⟨_, rfl⟩
  rw [ha] at c0 c1
  rw [hb] at d0 d1
  obtain ⟨r9, h9⟩ : ∃ r, a.tmod 9 = r := ⟨_, rfl⟩
  obtain ⟨r0, r1⟩ := tmod_bd a 9 (by decide)
  rw [h9] at r0 r1
  obtain ⟨qa, hqa⟩ : ∃ q : Nat, a % 4 = (q : Int) := ⟨(a % 4).toNat, by omega⟩
  obtain ⟨qb, hqb⟩ : ∃ q : Nat, b % 4 = (q : Int) := ⟨(b % 4).toNat, by omega⟩
  have hqa4 : qa < 4 := by omega
  have hqb4 : qb < 4 := by omega
  have hF : Dbl.Fin2 (z1, z2) := ⟨fz1, fz2⟩
  have htt := Dbl.turn_turn qa qb (z1, z2) hqa4 hqb4
  have hfX := Dbl.turn_fin qb (Dbl.turn_fin qa hF)
  obtain ⟨p, r, s, hP⟩ := Dbl.pow_of hF
  obtain ⟨rY, sY, hPY⟩ := Dbl.pow_turn qa hF hP
  obtain ⟨rX, sX, hPX⟩ := Dbl.pow_turn qb (Dbl.turn_fin qa hF) hPY
  have C1 := Lib.hid (turned_q (z1, z2) a qa hqa)
  have C2 := Lib.hid (turned_q (Dbl.turn qa (z1, z2)) b qb hqb)
  have C3 := Lib.hid (turned_q (z1, z2) (a + b) ((qa + qb) % 4) (by omega))
  rw [← htt] at C3
  have C4 := Lib.hid (turned_q (z1, z2) (4 * r9) 0 (by omega))
  have U1 := Lib.hid (turned_q (4607182418800017408, 0) a qa hqa)
  have U2 := Lib.hid (turned_q (4607182418800017408, 0) b qb hqb)
  have hM : re ≠ 0 → im ≠ 0 → (∀ (w : World) (g : Nat), w.heap[g]? = some (.cells #[.complex .f64 z1 z2, .complex .f64 (Dbl.turn qa (4607182418800017408, 0)).1 (Dbl.turn qa (4607182418800017408, 0)).2, .complex .f64 (Dbl.turn qb (4607182418800017408, 0)).1 (Dbl.turn qb (4607182418800017408, 0)).2] 32 (0, 0)) →
      Calls Tryd.prog 16 #[.slice (some ⟨g, 0, none⟩) 3 3] w fun e w' => e = .returned (.complex .f64 (Dbl.turn qb (Dbl.turn qa (z1, z2))).1 (Dbl.turn qb (Dbl.turn qa (z1, z2))).2) ∧ w = w') ∧
      (∀ (w : World) (g : Nat), w.heap[g]? = some (.cells #[.complex .f64 (Dbl.turn qa (4607182418800017408, 0)).1 (Dbl.turn qa (4607182418800017408, 0)).2, .complex .f64 z1 z2] 32 (0, 0)) →
      Calls Tryd.prog 16 #[.slice (some ⟨g, 0, none⟩) 2 2] w fun e w' => e = .returned (.complex .f64 (Dbl.turn qa (z1, z2)).1 (Dbl.turn qa (z1, z2)).2) ∧ w = w') := by
    intro hr hi
    have hN : Dbl.Nz2 (z1, z2) := ⟨nz1 hr, nz2 hi⟩
    have hFY := Dbl.turn_fin qa hF
    have hNY := Dbl.turn_nz qa hF hN
    refine ⟨fun w g hg => ?_, fun w g hg => ?_⟩
    · refine mix_chain g 3 3 (fun i => match i with | 0 => (z1, z2) | 1 => Dbl.turn qa (4607182418800017408, 0) | _ => Dbl.turn qb (4607182418800017408, 0))
        (fun i => match i with | 0 => (4607182418800017408, 0) | 1 => (z1, z2) | 2 => Dbl.turn qa (z1, z2) | _ => Dbl.turn qb (Dbl.turn qa (z1, z2))) w (by omega) (fun i hi => ?_) rfl (fun i hi => ?_)
      · have e := cell_of_row w g i _ _ _ hg
        match i, hi with
        | 0, _ => exact e
        | 1, _ => exact e
        | 2, _ => exact e
      · match i, hi with
        | 0, _ => exact Dbl.one_mul2 hF hN
        | 1, _ => exact Dbl.mul_unit (Dbl.unit_turn qa hqa4) hF hN
        | 2, _ => exact Dbl.mul_unit (Dbl.unit_turn qb hqb4) hFY hNY
    · obtain ⟨u, hu1, hu2⟩ := Dbl.one_unit qa hqa4
      refine mix_chain g 2 2 (fun i => match i with | 0 => Dbl.turn qa (4607182418800017408, 0) | _ => (z1, z2))
        (fun i => match i with | 0 => (4607182418800017408, 0) | 1 => u | _ => Dbl.turn qa (z1, z2)) w (by omega) (fun i hi => ?_) rfl (fun i hi => ?_)
      · have e := cell_of_row w g i _ _ _ hg
        match i, hi with
        | 0, _ => exact e
        | 1, _ => exact e
      · match i, hi with
        | 0, _ => exact hu1
        | 1, _ => exact Dbl.unit_mul hu2 hF hN
  have HM := Lib.hid hM
  have hoz := Dbl.order_fin2 hF
  have hoX := Dbl.order_fin2 hfX
  have hoY := Dbl.order_fin2 (Dbl.turn_fin qa hF)
  have hoP := hP.2.2.2
  generalize Dbl.turn qb (Dbl.turn qa (z1, z2)) = X at *
  generalize Dbl.turn qa (z1, z2) = Y at *
  generalize Dbl.turn qa (4607182418800017408, 0) = u at *
  generalize Dbl.turn qb (4607182418800017408, 0) = t at *
  have PZ := Lib.hid (power_q z1 z2 p r s hP)
  have PX := Lib.hid (power_q X.1 X.2 p rX sX hPX)
  obtain ⟨X1, X2⟩ := X
  obtain ⟨Y1, Y2⟩ := Y
  obtain ⟨u1, u2⟩ := u
  obtain ⟨t1, t2⟩ := t
  simp only [Dbl.turn] at C1 C2 C3 C4 U1 U2 HM PX hoz hoX hoY
  obtain ⟨oz1, oz2⟩ := hoz
  obtain ⟨oX1, oX2⟩ := hoX
  obtain ⟨oY1, oY2⟩ := hoY
  have oz1 : FloatKind.f64.format.order z1 z1 = some .eq := oz1
  have oz2 : FloatKind.f64.format.order z2 z2 = some .eq := oz2
  have oX1 : FloatKind.f64.format.order X1 X1 = some .eq := oX1
  have oX2 : FloatKind.f64.format.order X2 X2 = some .eq := oX2
  have oY1 : FloatKind.f64.format.order Y1 Y1 = some .eq := oY1
  have oY2 : FloatKind.f64.format.order Y2 Y2 = some .eq := oY2
  have hoP : FloatKind.f64.format.order p p = some .eq := hoP
  have HT := Lib.hid hT
  have hb0 := (Below.refl W.heap.size W).alloc (Nat.le_refl _) (.cells #[.int .i32 re, .int .i32 im, .int .i64 A, .int .i64 B] 31)
  have E0 := Lib.hid hb0
  have F0 := Lib.hid (HT.out.grown hb0)
  clear h hok w0 w1 w2 w3 hb0 hT hP hPX hPY hM hz1 hz2 fz1 fz2 nz1 nz2 hF htt hfX hqa hqb hqa4 hqb4
  go_enter Tryd.func4, Tryd.ntmps4
  go_wp2_with fail
  refine (C1.out _).mono ?_
  rintro e w' ⟨rfl, rfl⟩
  go_wp2_with fail
  refine (C2.out _).mono ?_
  rintro e w' ⟨rfl, rfl⟩
  go_wp2_with fail
  refine (C3.out _).mono ?_
  rintro e w' ⟨rfl, rfl⟩
  go_wp2_with fail
  refine (C4.out _).mono ?_
  rintro e w' ⟨rfl, rfl⟩
  go_wp2_with fail
  refine (PX.out _).mono ?_
  rintro e w' ⟨rfl, rfl⟩
  go_wp2_with fail
  refine (PZ.out _).mono ?_
  rintro e w' ⟨rfl, rfl⟩
  by_cases hr0 : re = 0
  · subst hr0
    go_wp2_with fail
    refine (awake_any _ F0.out).mono ?_
    rintro e w' ⟨rfl, rfl⟩
    go_wp2_with fail
    go_ret
    exact ⟨rfl, E0.out⟩
  · by_cases hi0 : im = 0
    · subst hi0
      have dr : (re == 0) = false := by simpa using hr0
      clear hr0
      go_wp2_with fail
      refine (awake_any _ F0.out).mono ?_
      rintro e w' ⟨rfl, rfl⟩
      go_wp2_with fail
      go_ret
      exact ⟨rfl, E0.out⟩
    · have dr : (re == 0) = false := by simpa using hr0
      have di : (im == 0) = false := by simpa using hi0
      have M1 := Lib.hid (HM.out hr0 hi0).1
      have M2 := Lib.hid (HM.out hr0 hi0).2
      clear hr0 hi0 HM
      go_wp2_with fail
      refine (U1.out _).mono ?_
      rintro e w' ⟨rfl, rfl⟩
      go_wp2_with fail
      refine (U2.out _).mono ?_
      rintro e w' ⟨rfl, rfl⟩
      go_wp2_with fail
      refine (M1.out _ _ (heap_alloc2_new _ _ _)).mono ?_
      rintro e w' ⟨rfl, rfl⟩
      have e2 : ∀ A B C, (((W.alloc A).alloc B).alloc C).heap[W.heap.size + 2]? = some C := fun A B C => by
        have := heap_alloc_new ((W.alloc A).alloc B) C
        simpa [size_alloc] using this
      have HE2 := Lib.hid e2
      have hB2 := E0.out.alloc E0.out.size (.cells #[.complex .f64 z1 z2, .complex .f64 u1 u2, .complex .f64 t1 t2] 32)
      have HB2 := Lib.hid hB2
      have hB3 := hB2.alloc hB2.size (.cells #[.complex .f64 u1 u2, .complex .f64 z1 z2] 32)
      have HB3 := Lib.hid hB3
      have F3 := Lib.hid (HT.out.grown hB3)
      clear hB2 hB3 e2
      go_wp2_with fail
      refine (U1.out _).mono ?_
      rintro e w' ⟨rfl, rfl⟩
      go_wp2_with fail
      refine (M2.out _ _ (HE2.out _ _ _)).mono ?_
      rintro e w' ⟨rfl, rfl⟩
      go_wp2_with fail
      refine (C1.out _).mono ?_
      rintro e w' ⟨rfl, rfl⟩
      go_wp2_with fail
      refine (awake_any _ F3.out).mono ?_
      rintro e w' ⟨rfl, rfl⟩
      go_wp2_with fail
      go_ret
      exact ⟨rfl, HB3.out⟩
end Go.Proofs.YtlkkkohgeakfaaaDoor
