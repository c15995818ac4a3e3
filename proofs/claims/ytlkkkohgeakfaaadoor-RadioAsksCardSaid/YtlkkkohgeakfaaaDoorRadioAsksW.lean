/- The walk of RadioAsks. -/
import Derived.Test.YtlkkkohgeakfaaaDoorBothC
import Derived.Test.YtlkkkohgeakfaaaDoorIntsC
import Derived.Test.YtlkkkohgeakfaaaDoorRadioA
import Derived.Deep.DeepCutAuto
namespace Go.Proofs.YtlkkkohgeakfaaaDoor
open Go.RowKit Go.ChangeShapes
theorem Vars.mk {W : World} (h : Lib.TabIs Tryd.prog W "reveille/radio.table" .i64 radioL) : radioAt W := radio_mk h
/-- The five cells of the box. -/
def AskAt (w : World) (b : Nat) (i hz : Int) (s : Nat) (sd n : Int) : Prop :=
  w.cell? ⟨b, 0, none⟩ = some (.int .i64 i) ∧ w.cell? ⟨b, 1, none⟩ = some (.int .i64 hz) ∧ w.cell? ⟨b, 2, none⟩ = some (.float .f64 s) ∧ w.cell? ⟨b, 3, none⟩ = some (.int .u64 sd) ∧ w.cell? ⟨b, 4, none⟩ = some (.int .i64 n)
theorem AskAt.grown {w w' : World} {b : Nat} {i hz : Int} {s : Nat} {sd n : Int} (h : AskAt w b i hz s sd n) (hb : Below w.heap.size w w') : AskAt w' b i hz s sd n := by
  have hl : b < w.heap.size := World.block_lt_of_cell? w _ h.1
  obtain ⟨h0, h1, h2, h3, h4⟩ := h
  exact ⟨(hb.cell (p := ⟨b, 0, none⟩) hl).trans h0, (hb.cell (p := ⟨b, 1, none⟩) hl).trans h1, (hb.cell (p := ⟨b, 2, none⟩) hl).trans h2, (hb.cell (p := ⟨b, 3, none⟩) hl).trans h3, (hb.cell (p := ⟨b, 4, none⟩) hl).trans h4⟩
theorem own_at {w : World} {B : Nat} {g n c : Nat} {zs : List Int} (h : w.ownsRow B 3 1 (.slice (some ⟨g, 0, none⟩) n c) n (icells zs)) (hn : zs.length = n) (j : Nat) (hj : j < n) : w.cell? ⟨g, j, none⟩ = some (.int .i64 (nth zs j)) := by
  rw [h.cellAt j (by omega)]
  simp [nth_eq (show j < zs.length by omega), show j < zs.length by omega]
theorem ints_of_own {w : World} {B : Nat} {v : Value} {zs : List Int} (h : w.ownsRow B 3 1 v zs.length (icells zs)) (hm : zs.length ≤ maxLen) : Ints .i64 w v zs := by
  have h' := h
  rcases h.2 with ⟨rfl, h0⟩ | ⟨g, cap, cur, rfl, _⟩
  · exact ⟨none, 0, by rw [h0], hm, fun _ => ⟨List.length_eq_zero_iff.1 h0, rfl⟩, fun i hi => by omega⟩
  · exact ⟨some ⟨g, 0, none⟩, cap, rfl, hm, (fun h => by cases h), fun i hi => ⟨g, 0, rfl, by simpa using own_at h' rfl i hi⟩⟩
/-- The one's row is not the other's. -/
def Aparts (v u : Value) : Prop := ∀ g, v.ownBlock = some g → u.ownBlock ≠ some g
theorem Aparts.ne {v u : Value} (h : Aparts v u) : u.ownBlock = none ∨ u.ownBlock ≠ v.ownBlock := by
  cases hu : u.ownBlock with
  | none => exact .inl rfl
  | some g => exact .inr fun e => h g e.symm hu
set_option maxHeartbeats 8000000 in
set_option maxRecDepth 100000 in
theorem radioAsks_walk {H : Type} {enc : TypeId × Value → H} (v : Value) (d : DataW H) (ps : List MemPlace) (W : World)
    (h : DataW.Trod enc Tryd.prog W 0 (fun _ => true) true 46 v d ps) {base : Nat} (hok : Value.okWide Tryd.prog W .any base 46 v) (_ : ∀ n ∈ DataW.weights Tryd.prog 46 d, n ≤ reachBytes) (_ : W.ShapedOpen Tryd.prog) (hT : radioAt W) :
    Calls Tryd.prog 6 #[v] W fun e w' => e = .returned (.bool true) ∧ Below W.heap.size W w' := by
  obtain ⟨i, hz, n, s, sdi, rfl, wz, ws⟩ := ask_arg hok h
  obtain ⟨bm0, bm1⟩ := bounds_i64 wz
  obtain ⟨s0, s1⟩ := bounds_u64 ws
  obtain ⟨sd, rfl⟩ : ∃ k : Nat, sdi = (k : Int) := ⟨sdi.toNat, by omega⟩
  obtain ⟨x1, z1, hA, hA'⟩ := hertz_both i
  obtain ⟨x2, z2, hB, hB'⟩ := near_both hz bm1
  obtain ⟨x3, z3, hC, hC'⟩ := shift_both i s
  obtain ⟨zs, z4, hlen, hD, hD'⟩ := hops_both sd n (by omega)
  have A1 := Lib.hid hA
  have A2 := Lib.hid hA'
  have B1 := Lib.hid hB
  have B2 := Lib.hid hB'
  have C1 := Lib.hid hC
  have C2 := Lib.hid hC'
  have D1 := Lib.hid hD
  have D2 := Lib.hid hD'
  have HT := Lib.hid hT
  have HLEN := Lib.hid hlen
  have hb0 := (Below.refl W.heap.size W).alloc (Nat.le_refl _) (.cells #[.int .i64 i, .int .i64 hz, .float .f64 s, .int .u64 sd, .int .i64 n] 46)
  have hk0 : AskAt (W.alloc (.cells #[.int .i64 i, .int .i64 hz, .float .f64 s, .int .u64 sd, .int .i64 n] 46)) W.heap.size i hz s sd n := by
    refine ⟨?_, ?_, ?_, ?_, ?_⟩ <;> simp [go_sem]
  have E0 := Lib.hid hb0
  have K0 := Lib.hid hk0
  have F0 := Lib.hid (HT.out.grown hb0)
  clear h hok wz ws bm0 bm1 s0 s1 hA hA' hB hB' hC hC' hD hD' hT hb0 hk0
  go_enter Tryd.func6, Tryd.ntmps6
  go_wp2_with fail
  refine (A1.out _ F0.out).mono ?_
  rintro e w' ⟨rfl, rfl⟩
  go_wp2_with fail
  refine (A2.out _).mono ?_
  rintro e w0 ⟨rfl, hb⟩
  have E1 := Lib.hid (E0.out.trans (hb.mono E0.out.size))
  have K1 := Lib.hid (K0.out.grown hb)
  have F1 := Lib.hid (HT.out.grown E1.out)
  clear hb
  obtain ⟨g0, g1, g2, g3, g4⟩ := K1.out
  go_wp2_with fail
  refine (B1.out _ F1.out).mono ?_
  rintro e w01 ⟨rfl, hb⟩
  have E2 := Lib.hid (E1.out.trans (hb.mono E1.out.size))
  have K2 := Lib.hid (K1.out.grown hb)
  clear hb g0 g1 g2 g3 g4
  obtain ⟨g0, g1, g2, g3, g4⟩ := K2.out
  go_wp2_with fail
  refine (B2.out _).mono ?_
  rintro e w02 ⟨rfl, hb⟩
  have E3 := Lib.hid (E2.out.trans (hb.mono E2.out.size))
  have K3 := Lib.hid (K2.out.grown hb)
  have F3 := Lib.hid (HT.out.grown E3.out)
  clear hb g0 g1 g2 g3 g4
  obtain ⟨g0, g1, g2, g3, g4⟩ := K3.out
  go_wp2_with fail
  refine (C1.out _ F3.out).mono ?_
  rintro e w' ⟨rfl, rfl⟩
  go_wp2_with fail
  refine (C2.out _).mono ?_
  rintro e w1 ⟨rfl, hb⟩
  have E4 := Lib.hid (E3.out.trans (hb.mono E3.out.size))
  have K4 := Lib.hid (K3.out.grown hb)
  clear hb g0 g1 g2 g3 g4 E1 E2 E3 K1 K2 K3
  obtain ⟨g0, g1, g2, g3, g4⟩ := K4.out
  have E1 := E4
  have K1 := K4
  clear E4 K4
  go_wp2_with fail
  refine (D1.out _).mono ?_
  rintro e w2 ⟨l, rfl, hown, hb⟩
  have E2 := Lib.hid (E1.out.trans (hb.mono E1.out.size))
  have K2 := Lib.hid (K1.out.grown hb)
  have L2 := Lib.hid hown
  clear g0 g1 g2 g3 g4 hb hown
  obtain ⟨g0, g1, g2, g3, g4⟩ := K2.out
  go_wp2_with fail
  refine (D2.out _).mono ?_
  rintro e w3 ⟨kv, rfl, hown, hb⟩
  have E3 := Lib.hid (E2.out.trans (hb.mono E2.out.size))
  have K3 := Lib.hid (K2.out.grown hb)
  have L3 := Lib.hid (own_below L2.out hb)
  have M3 := Lib.hid hown
  have S23 := Lib.hid hb.size
  clear g0 g1 g2 g3 g4 hb hown
  obtain ⟨g0, g1, g2, g3, g4⟩ := K3.out
  go_wp2_with fail
  refine (D1.out _).mono ?_
  rintro e w4 ⟨ov, rfl, hown, hb⟩
  have E4 := Lib.hid (E3.out.trans (hb.mono E3.out.size))
  have L4 := Lib.hid (own_below L3.out hb)
  have M4 := Lib.hid (own_below M3.out hb)
  have N4 := Lib.hid hown
  clear g0 g1 g2 g3 g4 hb hown
  go_wp2_with fail
  refine (bits_eq x3 _).mono ?_
  rintro e w' ⟨rfl, rfl⟩
  go_wp2_with fail
  have HLb : Hid (∀ g, l.ownBlock = some g → g < w2.heap.size) := Lib.hid (fun g hg => (L2.out.lt g hg).2)
  have hs : w2.heap.size ≤ w3.heap.size := S23.out
  have M5 := Lib.hid (M4.out)
  have N5 := Lib.hid (own_mono N4.out hs)
  refine (ints_eq l kv zs w4 (ints_of_own L4.out (by unfold maxLen; omega)) (ints_of_own M4.out (by unfold maxLen; omega))).mono ?_
  rintro e w' ⟨rfl, n1, rfl⟩
  have E5 := Lib.hid (below_drewN E4.out n1)
  clear hs
  go_wp2_with fail
  go_loopg [17] zs.length (fun r p wr => ∃ q : Nat, q ≤ zs.length ∧ r = zs.length - q ∧ p = .int .i64 q ∧ Hid ((∃ ys : List Int, ys.length = zs.length ∧ wr.ownsRow w1.heap.size 3 1 l zs.length (icells ys)) ∧ wr.ownsRow w2.heap.size 3 1 kv zs.length (icells zs) ∧ wr.ownsRow w2.heap.size 3 1 ov zs.length (icells zs) ∧ Below W.heap.size W wr))
  case atStart => exact ⟨0, by omega, by omega, rfl, Lib.hid ⟨⟨zs, rfl, L4.out⟩, M5.out, N5.out, E5.out⟩⟩
  case round =>
    obtain ⟨q, hq, hr, rfl, hh⟩ := hrel
    obtain ⟨⟨ys, hy, q1⟩, q2, q3, q4⟩ := hh.out
    have Q1 := Lib.hid q1
    have Q2 := Lib.hid q2
    have Q3 := Lib.hid q3
    have Q4 := Lib.hid q4
    have HR := Lib.hid hr
    have HY := Lib.hid hy
    clear q1 q2 q3 q4 hr hy hh
    by_cases hlt : q < zs.length
    · obtain ⟨gl, cl, rfl, _, _⟩ := Q1.out.form (by omega)
      have hfz := Q1.out.frozenAt q
      have hcc := own_at Q1.out HY.out q hlt
      go_wp2_with fail
      go_roundg (zs.length - (q + 1))
      case measure => rw [HR.out]; omega
      case rel =>
        have hg2 := HLb.out gl rfl
        have hg1 := (Q1.out.lt gl rfl).1
        refine ⟨q + 1, by omega, rfl, by simp, Lib.hid ⟨⟨ys.set q (-1), by simp [HY.out], ?_⟩, ?_, ?_, ?_⟩⟩
        · have h9 := (Q1.out.stored q (.int .i64 (-1))).1
          rw [show icells (ys.set q (-1)) = (icells ys).set q (.int .i64 (-1)) by simp [List.map_set]]
          exact h9
        · exact ownsRow_setCell_other Q2.out (a := ⟨gl, q, none⟩) (fun h => by have := (Q2.out.lt gl h).1; omega) _
        · exact ownsRow_setCell_other Q3.out (a := ⟨gl, q, none⟩) (fun h => by have := (Q3.out.lt gl h).1; omega) _
        · exact Q4.out.setCell (p := ⟨gl, q, none⟩) (by have := E1.out.size; show W.heap.size ≤ gl; omega) _
    · obtain rfl : q = zs.length := by omega
      obtain ⟨al, cl, rfl⟩ := own_slice Q1.out
      go_wp2_with fail
      have HA0 : Hid (Aparts (.slice al zs.length cl) kv ∧ Aparts (.slice al zs.length cl) ov) := Lib.hid ⟨fun g hg hh => by
          have a1 := HLb.out g hg
          have a2 := (Q2.out.lt g hh).1
          omega, fun g hg hh => by
          have a1 := HLb.out g hg
          have a2 := (Q3.out.lt g hh).1
          omega⟩
      obtain ⟨iw, hi, hz0, hz1, hz2⟩ := info_parts infoInt
      have HQ1 := Lib.hid (own_mono Q1.out E1.out.size)
      obtain ⟨wo, rfl⟩ : ∃ wo : World, wo = wr := ⟨_, rfl⟩
      go_loopg [13, 18] 30 (fun r v p wy => ∃ q : Nat, q ≤ 30 ∧ r = 30 - q ∧ p = .int .i64 q ∧ Hid ((∃ zz : List Int, zz.length = zs.length + q ∧ wy.ownsRow W.heap.size 3 1 v (zs.length + q) (icells zz)) ∧ wy.ownsRow w2.heap.size 3 1 kv zs.length (icells zs) ∧ wy.ownsRow w2.heap.size 3 1 ov zs.length (icells zs) ∧ Below W.heap.size W wy ∧ Aparts v kv ∧ Aparts v ov))
      case atStart => exact ⟨0, by omega, by omega, rfl, Lib.hid ⟨⟨ys, HY.out, HQ1.out⟩, Q2.out, Q3.out, Q4.out, HA0.out.1, HA0.out.2⟩⟩
      case round =>
        obtain ⟨q, hq, hr, rfl, hh⟩ := hrel
        obtain ⟨⟨zz, hy, q1⟩, q2, q3, q4, q5, q6⟩ := hh.out
        have R1 := Lib.hid q1
        have R2 := Lib.hid q2
        have R3 := Lib.hid q3
        have R4 := Lib.hid q4
        have R5 := Lib.hid (And.intro q5 q6)
        have RR := Lib.hid hr
        have RY := Lib.hid hy
        have RL := HLEN.out
        clear q1 q2 q3 q4 q5 q6 hr hy hh Q1 Q2 Q3 Q4 HQ1 HA0
        by_cases hlt : q < 30
        · have hz : W.heap.size ≤ wr.heap.size := R4.out.size
          have hkm : zs.length + q + 1 ≤ maxLen := by unfold maxLen; omega
          have hkb : (zs.length + q + 1) * 8 ≤ 140737488355328 := by omega
          go_wp2_with (refine wpList_append_lies _ (by rfl) (.tmp 134) (.tmp 135) 40 (by rfl) W.heap.size 3 iw _ 1 8 Tryd.underlying40 hi hz0 hz1 hz2 rfl (by omega) u13 (zs.length + q) (icells zz) (by rfl) (R1.out.alloc _) ⟨wr.heap.size, 0, none⟩ 1 1 [.int .i64 (-2)] (by rfl) (by rfl) (World.news_of_block (cs := #[.int .i64 (-2)]) (t := 3) (fr := (0, 0)) (heap_alloc_new wr _)) (by simp [Value.oneCell']) (by omega) hkm hkb (by simp; omega) (wr.heap.size + 1) (by simp) ?_)
          intro gg cap1 w5 hown1 hgrow hat hlt1
          have T1 := Lib.hid hown1
          have T2 := Lib.hid ((R2.out.alloc (.cells #[.int .i64 (-2)] 3 (0, 0))).kept hgrow R5.out.1.ne)
          have T3 := Lib.hid ((R3.out.alloc (.cells #[.int .i64 (-2)] 3 (0, 0))).kept hgrow R5.out.2.ne)
          have T4 := Lib.hid ((R4.out.alloc hz (.cells #[.int .i64 (-2)] 3 (0, 0))).grown hgrow (by simp; omega) (fun kk hk' => ((R1.out.lt kk hk').1)))
          have T5 : Hid (Aparts (.slice (some ⟨gg, 0, none⟩) (zs.length + q + 1) cap1) kv ∧ Aparts (.slice (some ⟨gg, 0, none⟩) (zs.length + q + 1) cap1) ov) := Lib.hid (by
            refine ⟨fun g hg hh => ?_, fun g hg hh => ?_⟩
            · simp only [Value.ownBlock, Option.some.injEq] at hg
              subst hg
              rcases hat with h | h
              · exact R5.out.1 _ h hh
              · have := (R2.out.lt _ hh).2; omega
            · simp only [Value.ownBlock, Option.some.injEq] at hg
              subst hg
              rcases hat with h | h
              · exact R5.out.2 _ h hh
              · have := (R3.out.lt _ hh).2; omega)
          clear hown1 hgrow hat hlt1
          go_wp2_with fail
          go_roundg (30 - (q + 1))
          case measure => rw [RR.out]; omega
          case rel =>
            refine ⟨q + 1, by omega, rfl, by simp, Lib.hid ⟨⟨zz ++ [-2], by simp [RY.out]; omega, ?_⟩, T2.out, T3.out, T4.out, T5.out.1, T5.out.2⟩⟩
            rw [show icells (zz ++ [-2]) = icells zz ++ [.int .i64 (-2)] by simp [icells]]
            exact T1.out
        · obtain rfl : q = 30 := by omega
          go_wp2_with fail
          refine (ints_eq ov kv zs wr (ints_of_own (own_mono R3.out (Nat.zero_le _)) (by unfold maxLen; omega)) (ints_of_own (own_mono R2.out (Nat.zero_le _)) (by unfold maxLen; omega))).mono ?_
          rintro e w' ⟨rfl, n2, rfl⟩
          have Z1 := Lib.hid (below_drewN R4.out n2)
          have ZT : Hid (radioAt (wr.drewN n2)) := Lib.hid (HT.out.grown Z1.out)
          go_wp2_with fail
          refine (awake_any _ ZT.out).mono ?_
          rintro e w' ⟨rfl, rfl⟩
          go_wp2_with fail
          go_ret
          exact ⟨rfl, Z1.out⟩
end Go.Proofs.YtlkkkohgeakfaaaDoor
