/- The program's Hops. -/
import Derived.Test.YtlkkkohgeakfaaaDoorTables
import Derived.Test.YtlkkkohgeakfaaaDoorHopsV
import Derived.Test.YtlkkkohgeakfaaaDoorPairLib
import Derived.Deep.LoopGhost
import Derived.Deep.AppendLies
import Derived.Deep.DeepCutAuto
import Derived.Deep.CutBlock
import Derived.BigRegion
import Derived.ChangeAlike
import Derived.Laws.BitsAll
import Derived.Laws.Bits64
import Derived.Handy
import Derived.IntWalk
namespace Go.Proofs.YtlkkkohgeakfaaaDoor
open Go.RowKit Go.ChangeShapes
/-- The cells of numbers. -/
abbrev icells (zs : List Int) : List Value := zs.map (Value.int .i64)
theorem infoInt : (Tryd.prog.info? 3).map (fun i => (i.zero, i.size, i.bytes)) = some (some (.int .i64 0), 1, 8) := by kernel_rfl
theorem seed_eq0 {seed : Nat} (h : seed = 0) : ((seed : Int) == 0) = true := by subst h; rfl
theorem seed_ne0 {seed : Nat} (h : ¬ seed = 0) : ((seed : Int) == 0) = false := by simp; omega
theorem mix_eqs (X : Nat) (h : X < 18446744073709551616) : ∃ A B : Nat, A < 18446744073709551616 ∧ B < 18446744073709551616 ∧
    bits .xor .u64 (X : Int) (IntKind.u64.wrap ((X : Int) * 8192)) = (A : Int) ∧ bits .xor .u64 (A : Int) ((A : Int) / 128) = (B : Int) ∧ bits .xor .u64 (B : Int) (IntKind.u64.wrap ((B : Int) * 131072)) = (Hop.mixU X : Nat) := by
  have wr : ∀ (Y c : Nat), IntKind.u64.wrap ((Y : Int) * (c : Int)) = ((Y * c % 18446744073709551616 : Nat) : Int) := by
    intro Y c; rw [IntKind.wrap_u64]; omega
  have h1 := Hop.xor_lt h (Nat.mod_lt (X * 8192) (show 0 < 18446744073709551616 by decide))
  have h2 := Hop.xor_lt h1 (Nat.lt_of_le_of_lt (Nat.div_le_self _ 128) h1)
  refine ⟨_, _, h1, h2, ?_, ?_, ?_⟩
  · rw [show (8192 : Int) = ((8192 : Nat) : Int) from rfl, wr]
    exact bits_xor_u64_nat _ _ h (Nat.mod_lt _ (by decide))
  · exact xorShift_u64 _ 128 h1
  · rw [show (131072 : Int) = ((131072 : Nat) : Int) from rfl, wr]
    exact bits_xor_u64_nat _ _ h2 (Nat.mod_lt _ (by decide))
theorem tmod_eqs (M k : Nat) : (M : Int).tmod ((k : Int) + 1) = ((M % (k + 1) : Nat) : Int) ∧ (M : Int) % ((k : Int) + 1) = ((M % (k + 1) : Nat) : Int) := by
  have e : (M : Int) % ((k : Int) + 1) = ((M % (k + 1) : Nat) : Int) := by rw [Int.natCast_emod]; rfl
  exact ⟨by rw [Int.tmod_eq_emod_of_nonneg (by omega)]; exact e, e⟩
theorem arrV_set (L : List Int) (i : Nat) (z : Int) : (arrV L).setIfInBounds i (.int .i64 z) = arrV (L.set i z) := by
  simp [arrV, List.map_set]
/-- Two cells of a row change places. -/
theorem swap_row {w : World} {b : Nat} {t : TypeId} {L : List Int} (h : w.heap[b]? = some (.cells (arrV L) t (0, 0))) (i j : Nat) (hi : i < L.length) (hj : j < L.length) :
    w.cell? ⟨b, i, none⟩ = some (.int .i64 (nth L i)) ∧ w.cell? ⟨b, j, none⟩ = some (.int .i64 (nth L j)) ∧ w.frozen? ⟨b, i, none⟩ = false ∧ w.frozen? ⟨b, j, none⟩ = false ∧
    (∃ u, (w.setCell ⟨b, i, none⟩ (.int .i64 (nth L j))).cell? ⟨b, j, none⟩ = some u) ∧ (w.setCell ⟨b, i, none⟩ (.int .i64 (nth L j))).frozen? ⟨b, j, none⟩ = false ∧
    ((w.setCell ⟨b, i, none⟩ (.int .i64 (nth L j))).setCell ⟨b, j, none⟩ (.int .i64 (nth L i))).heap[b]? = some (.cells (arrV (Hop.swp L i j)) t (0, 0)) := by
  have h1 := heap_setCell_same w b i _ t (.int .i64 (nth L j)) h
  rw [arrV_set] at h1
  have h2 := heap_setCell_same _ b j _ t (.int .i64 (nth L i)) h1
  rw [arrV_set] at h2
  exact ⟨(cell_of_row w b i _ _ _ h).trans (arrV_at L i hi), (cell_of_row w b j _ _ _ h).trans (arrV_at L j hj), frozen_of_row w b i _ _ h, frozen_of_row w b j _ _ h,
    ⟨_, (cell_of_row _ b j _ _ _ h1).trans (arrV_at _ j (by simpa using hj))⟩, frozen_of_row _ b j _ _ h1, h2⟩
theorem slice_arr (b j : Nat) (h : j ≤ 20) (w : World) : (Instr.sliceAt 66 (.pointer (some ⟨b, 0, none⟩)) none (some (.int .i64 (j : Int))) none).run Tryd.prog w = .ok (.slice (some ⟨b, 0, none⟩) j 20) w := by
  have al : Tryd.prog.arrayLen 66 = 20 := by kernel_rfl
  have sz : (sizeOf (Tryd.prog.elem 66)).run Tryd.prog w = .ok 1 w := by kernel_rfl
  rw [run_sliceAt_array_h (P := Tryd.prog) w 66 ⟨b, 0, none⟩ (by kernel_rfl) .i64 (j : Int) (by omega) (by rw [al]; omega), sz, al]
  simp [slicedAt, addr_add]
theorem icells_one {L : List Int} {u : Value} (h : u ∈ icells L) : u.oneCell' = true := by
  obtain ⟨z, _, rfl⟩ := List.mem_map.1 h
  rfl
theorem row_take {L : List Int} {j i : Nat} {u : Value} (h : (icells (L.take j))[i]? = some u) : (arrV L)[i]? = some u := by
  simp only [List.map_take, List.getElem?_take] at h
  split at h
  · simpa [arrV] using h
  · simp at h
set_option maxHeartbeats 4000000 in
set_option maxRecDepth 100000 in
theorem hops_ok (seed n : Nat) (w : World) (hs : seed < 18446744073709551616) (hn : n ≤ 4096) :
    Calls Tryd.prog 17 #[.int .u64 seed, .int .i64 n] w fun e w' => ∃ v, e = .returned (.tuple #[v, .int .i64 0]) ∧ w'.ownsRow w.heap.size 3 1 v n (icells (Hop.hopsV seed n)) ∧ Below w.heap.size w w' := by
  obtain ⟨iw, hi, hz0, hz1, hz2⟩ := info_parts infoInt
  have HS := Lib.hid hs
  have g1 : ¬ (n : Int) < 0 := by omega
  have g2 : decide ((n : Int) > 4096) = false := by simp; omega
  clear hs
  go_enter Tryd.func17, Tryd.ntmps17
  go_upto_if 18 with fail
  go_cut [0] (fun s wx => s = .int .u64 (Hop.seed0 seed : Nat) ∧ w = wx)
  case first =>
    by_cases h0 : seed = 0
    · have e := seed_eq0 h0
      have e2 : Hid (Hop.seed0 seed = 11400714819323198485) := by unfold Hid Hop.seed0; rw [if_pos h0]
      clear h0
      go_wp2_with fail
      go_meet
      exact ⟨by rw [e2.out]; rfl, rfl⟩
    · have e := seed_ne0 h0
      have e2 : Hid (Hop.seed0 seed = seed) := by unfold Hid Hop.seed0; rw [if_neg h0]
      clear h0
      go_wp2_with fail
      go_meet
      exact ⟨by rw [e2.out], rfl⟩
  case rest =>
    obtain ⟨rfl, rfl⟩ := hcut
    go_wp2_with fail
    go_loopw [19] (fun s wr => ∃ k : Nat, k ≤ 20 ∧ s = .int .i64 k ∧ Hid (Below w.heap.size w wr ∧ ∃ cs : Array Value, cs.size = 20 ∧ (∀ i : Nat, i < k → cs[i]? = some (.int .i64 i)) ∧ wr.heap[w.heap.size]? = some (.cells cs 66 (0, 0)))) (fun s _ => 20 - (intOf s).toNat)
    case atStart => exact ⟨0, by omega, rfl, Lib.hid ⟨(Below.refl _ _).alloc (Nat.le_refl _) _, _, rfl, (fun i hi => by omega), heap_alloc_new _ _⟩⟩
    case round =>
      obtain ⟨k, hk, rfl, hq⟩ := hrel
      obtain ⟨q1, cs, q2, q3, q4⟩ := hq.out
      have Q1 := Lib.hid q1
      have Q2 := Lib.hid q2
      have Q3 := Lib.hid q3
      have Q4 := Lib.hid q4
      clear q1 q2 q3 q4 hq
      by_cases hlt : k < 20
      · obtain ⟨u1, hu1⟩ : ∃ v, cs[k]? = some v := ⟨cs[k]'(by have := Q2.out; omega), by simp⟩
        have e1 : wr.cell? ⟨w.heap.size, k, none⟩ = some u1 := (cell_of_row wr _ k cs _ _ Q4.out).trans hu1
        have f1 : wr.frozen? ⟨w.heap.size, k, none⟩ = false := frozen_of_row wr _ k cs _ Q4.out
        clear hu1
        go_wp2_with fail
        go_roundw
        case rel =>
          refine ⟨k + 1, by omega, by go_num, Lib.hid ⟨Q1.out.setCell (Nat.le_refl _) _, cs.setIfInBounds k (.int .i64 k), by have := Q2.out; simp [this], fun i hi => ?_, heap_setCell_same _ _ _ _ _ _ Q4.out⟩⟩
          have := Q2.out
          by_cases hik : i = k
          · subst hik; simp [Array.getElem?_setIfInBounds]; omega
          · rw [Array.getElem?_setIfInBounds_ne (by omega)]; exact Q3.out i (by omega)
        case measure => simp [intOf]; omega
      · obtain rfl : k = 20 := by omega
        simp only [Int.cast_ofNat_Int]
        have hrow : Hid (wr.heap[w.heap.size]? = some (.cells (arrV Hop.row0) 66 (0, 0))) := by
          have e : cs = arrV Hop.row0 := by
            apply Array.ext_getElem?
            intro i
            by_cases hi : i < 20
            · rw [Q3.out i hi, arrV_at Hop.row0 i hi]
              simp [nth, Hop.row0, List.getD, hi]
            · have h1 := Q2.out
              have h2 : (arrV Hop.row0).size = 20 := by rw [arrV_size]; rfl
              rw [Array.getElem?_eq_none (by omega), Array.getElem?_eq_none (by omega)]
          rw [← e]; exact Lib.hid Q4.out
        obtain ⟨wo, rfl⟩ : ∃ wo : World, wo = wr := ⟨_, rfl⟩
        have HSZ := Lib.hid (show w.heap.size < wo.heap.size from (Array.getElem?_eq_some_iff.1 hrow.out).1)
        clear Q2 Q3 Q4
        go_wp2_with fail
        go_loopg [0, 8] ((n + 19) / 20) (fun r s v wr => ∃ m : Nat, m ≤ (n + 19) / 20 ∧ r = (n + 19) / 20 - m ∧ s = .int .u64 ((Hop.roundsS seed m).x : Nat) ∧ Hid (wr.ownsRow (w.heap.size + 1) 3 1 v (min (20 * m) n) (icells ((Hop.outS seed m).take n)) ∧ Below w.heap.size w wr ∧ w.heap.size < wr.heap.size ∧
          wr.heap[w.heap.size]? = some (.cells (arrV (Hop.roundsS seed m).row) 66 (0, 0))))
        case atStart => exact ⟨0, by omega, by omega, rfl, Lib.hid ⟨by rw [show min (20 * 0) n = 0 by omega]; simpa [Hop.outS, Hop.roundsS] using World.ownsRow_nil wo (w.heap.size + 1) 3 1, Q1.out, HSZ.out, hrow.out⟩⟩
        case round =>
          obtain ⟨m, hm, hr, rfl, hq⟩ := hrel
          obtain ⟨q1, q2, q3, q4⟩ := hq.out
          have HR := Lib.hid hr
          have Q2 := Lib.hid q2
          have Q3 := Lib.hid q3
          have Q4 := Lib.hid q4
          by_cases hlt : m < (n + 19) / 20
          · have q1' : wr.ownsRow (w.heap.size + 1) 3 1 u8 (20 * m) (icells (Hop.outS seed m)) := by
              have e1 : min (20 * m) n = 20 * m := by omega
              have e2 : (Hop.outS seed m).take n = Hop.outS seed m := List.take_of_length_le (by rw [(Hop.rounds_ok seed HS.out m).2.2.2]; omega)
              rw [e1, e2] at q1; exact q1
            have OWN := Lib.hid q1'
            obtain ⟨al, cl, rfl⟩ := own_slice q1'
            have t1 : 20 * m < n := by omega
            have t2 : decide (20 * (m : Int) < (n : Int)) = true := by simp; omega
            clear q1 q2 q3 q4 hq hr q1'
            go_wp2_with fail
            obtain ⟨wp, rfl⟩ : ∃ wp : World, wp = wr := ⟨_, rfl⟩
            have OK := Lib.hid (Hop.rounds_ok seed HS.out m)
            go_loopg [0, 9] 19 (fun r s v wr => ∃ k : Nat, k ≤ 19 ∧ r = k ∧ v = .int .i64 k ∧ s = .int .u64 ((Hop.sweepTo (19 - k) ((Hop.roundsS seed m).x, (Hop.roundsS seed m).row)).1 : Nat) ∧ Hid (wr.ownsRow (w.heap.size + 1) 3 1 (.slice al (20 * m) cl) (20 * m) (icells (Hop.outS seed m)) ∧ Below w.heap.size w wr ∧ w.heap.size < wr.heap.size ∧
              wr.heap[w.heap.size]? = some (.cells (arrV (Hop.sweepTo (19 - k) ((Hop.roundsS seed m).x, (Hop.roundsS seed m).row)).2) 66 (0, 0))))
            case atStart => exact ⟨19, by omega, rfl, rfl, rfl, Lib.hid ⟨OWN.out, Q2.out, Q3.out, Q4.out⟩⟩
            case round =>
              obtain ⟨k, hk, hr, rfl, rfl, hh⟩ := hrel
              obtain ⟨q1, q2, q3, q4⟩ := hh.out
              have HRI := Lib.hid hr
              have P1 := Lib.hid q1
              have P2 := Lib.hid q2
              have P3 := Lib.hid q3
              have P4 := Lib.hid q4
              clear q1 q2 q3 q4 hh hr
              by_cases hlq : 0 < k
              · obtain ⟨o1, o2, o3⟩ := Hop.sweepTo_ok ((Hop.roundsS seed m).x, (Hop.roundsS seed m).row) OK.out.1 OK.out.2.1 (19 - k) (by omega)
                have O2 := Lib.hid o2
                have HSU := Hop.sweepTo_succ (19 - k) ((Hop.roundsS seed m).x, (Hop.roundsS seed m).row)
                rw [show 19 - k + 1 = 19 - (k - 1) by omega, show 19 - (19 - k) = k by omega] at HSU
                replace HSU := Lib.hid HSU
                clear o2 o3
                generalize Hop.sweepTo (19 - k) ((Hop.roundsS seed m).x, (Hop.roundsS seed m).row) = S at *
                obtain ⟨X, R⟩ := S
                simp only at o1
                have hRl : R.length = 20 := O2.out
                obtain ⟨xa, xb, a1, a2, x1, x2, x3⟩ := mix_eqs X o1
                have hM := Hop.mixU_lt X o1
                have HSU2 : Hid (Hop.sweepTo (19 - (k - 1)) ((Hop.roundsS seed m).x, (Hop.roundsS seed m).row) = (Hop.mixU X, Hop.swp R k (Hop.mixU X % (k + 1)))) := HSU
                clear HSU
                generalize Hop.mixU X = M at *
                obtain ⟨y1, y2⟩ := tmod_eqs M k
                have hJ : M % (k + 1) < k + 1 := Nat.mod_lt _ (by omega)
                generalize M % (k + 1) = J at *
                obtain ⟨c1, c2, c3, c4, ⟨u, c5⟩, c6, c7⟩ := swap_row (L := R) P4.out k J (by omega) (by omega)
                have C7 := Lib.hid c7
                clear c7 hRl
                have hJ2 : (J : Int) < 20 := by omega
                have hk2 : (k : Int) < 20 := by omega
                have hk3 : (k : Int) > 0 := by omega
                go_wp2_with fail
                go_region
                all_goals go_wp2_with fail
                all_goals go_roundg (k - 1)
                case measure => rw [HRI.out]; omega
                case rel =>
                  refine ⟨k - 1, by omega, rfl, by rw [show ((k - 1 : Nat) : Int) = (k : Int) - 1 by omega], by rw [HSU2.out], Lib.hid ⟨?_, ?_, ?_, ?_⟩⟩
                  · exact ownsRow_setCell_other (ownsRow_setCell_other P1.out.drew (a := ⟨w.heap.size, k, none⟩) (fun h => by have h2 : w.heap.size + 1 ≤ w.heap.size := (P1.out.lt _ h).1; omega) _) (a := ⟨w.heap.size, J, none⟩) (fun h => by have h2 : w.heap.size + 1 ≤ w.heap.size := (P1.out.lt _ h).1; omega) _
                  · exact (P2.out.drew.setCell (Nat.le_refl _) _).setCell (Nat.le_refl _) _
                  · simp [World.setCell]; exact P3.out
                  · rw [HSU2.out]; exact C7.out
              · obtain rfl : k = 0 := by omega
                obtain ⟨o1, o2, o3⟩ := Hop.sweepTo_ok ((Hop.roundsS seed m).x, (Hop.roundsS seed m).row) OK.out.1 OK.out.2.1 19 (by omega)
                have O2 := Lib.hid o2
                have OL := Lib.hid OK.out.2.2.2
                have HX : Hid ((Hop.roundsS seed (m + 1)).x = (Hop.sweepTo 19 ((Hop.roundsS seed m).x, (Hop.roundsS seed m).row)).1 ∧ (Hop.roundsS seed (m + 1)).row = Hop.fixed (Hop.outS seed m) (Hop.sweepTo 19 ((Hop.roundsS seed m).x, (Hop.roundsS seed m).row)).2) := ⟨rfl, rfl⟩
                have HO := Lib.hid (Hop.take_next seed n m HS.out (by omega))
                have HL1 := Lib.hid ((Hop.rounds_ok seed HS.out (m + 1)).2.1)
                simp only [Nat.sub_zero] at P4 ⊢
                clear o1 o2 o3 OK
                generalize Hop.sweepTo 19 ((Hop.roundsS seed m).x, (Hop.roundsS seed m).row) = S at *
                obtain ⟨X, T⟩ := S
                generalize Hop.outS seed m = O at *
                simp only at HX O2 P4 ⊢
                generalize hrow' : (Hop.roundsS seed (m + 1)).row = R' at *
                have HRW := Lib.hid hrow'
                clear hrow'
                go_wp2_with fail
                go_cut [74] (fun t wx => t = .bool (decide (O.length ≠ 0 ∧ nth T 0 = nth O (O.length - 1))) ∧ ∃ d, wx = wr.drewN d)
                case first =>
                  by_cases hm0 : m = 0
                  · subst hm0
                    have d1 : decide (20 * ((0 : Nat) : Int) > 0) = false := by decide
                    have d2 : (20 * (0 : Nat)) = 0 := rfl
                    have e3 : decide (O.length ≠ 0 ∧ nth T 0 = nth O (O.length - 1)) = false := by simp [OL.out]
                    have E3 := Lib.hid e3
                    clear e3
                    go_quiet (fail)
                    go_wp2_with fail
                    go_meet
                    exact ⟨by rw [E3.out], _, rfl⟩
                  · obtain ⟨gl, cl', hal, _, _⟩ := P1.out.form (by omega)
                    simp only [Value.slice.injEq] at hal
                    obtain ⟨rfl, _, rfl⟩ := hal
                    have c1 : wr.cell? ⟨gl, 20 * m - 1, none⟩ = some (.int .i64 (nth O (O.length - 1))) := by
                      rw [P1.out.cellAt _ (by have := OL.out; simp; omega), OL.out]
                      simp [nth_eq (show 20 * m - 1 < O.length by have := OL.out; omega), show 20 * m - 1 < O.length by have := OL.out; omega]
                    have c2 : wr.cell? ⟨w.heap.size, 0, none⟩ = some (.int .i64 (nth T 0)) := (cell_of_row _ _ 0 _ _ _ P4.out).trans (arrV_at T 0 (by have := O2.out; omega))
                    have d1 : decide (20 * (m : Int) > 0) = true := by simp; omega
                    have E3 : Hid (decide (O.length ≠ 0 ∧ nth T 0 = nth O (O.length - 1)) = (nth T 0 == nth O (O.length - 1))) := by
                      unfold Hid
                      rw [Bool.eq_iff_iff]
                      have hl : O.length ≠ 0 := by have := OL.out; omega
                      simp only [decide_eq_true_eq, beq_iff_eq]
                      exact ⟨And.right, fun h => ⟨hl, h⟩⟩
                    have i1 : (0 : Int) ≤ 20 * (m : Int) - 1 := by omega
                    have i2 : 20 * (m : Int) - 1 < 20 * (m : Int) := by omega
                    have i3 : (20 * (m : Int) - 1).toNat = 20 * m - 1 := by omega
                    go_quiet (fail)
                    go_wp2_with fail
                    go_meet
                    exact ⟨by rw [E3.out], _, rfl⟩
                case rest =>
                  obtain ⟨rfl, d, rfl⟩ := hcut
                  have P1' := Lib.hid (own_below P1.out (below_drewN (Below.refl wr.heap.size wr) d))
                  have P2' := Lib.hid (below_drewN P2.out d)
                  have P4' : Hid ((wr.drewN d).heap[w.heap.size]? = some (.cells (arrV T) 66 (0, 0))) := P4.out
                  have P3' : Hid (w.heap.size < (wr.drewN d).heap.size) := P3.out
                  generalize wr.drewN d = wz at *
                  clear P1 P2 P3 P4
                  generalize hcb : decide (O.length ≠ 0 ∧ nth T 0 = nth O (O.length - 1)) = cb at *
                  have HCB := Lib.hid hcb
                  clear hcb
                  go_upto_if 74 with fail
                  go_cut [] (fun wx => Hid (wx.ownsRow (w.heap.size + 1) 3 1 (.slice al (20 * m) cl) (20 * m) (icells O) ∧ Below w.heap.size w wx ∧ w.heap.size < wx.heap.size ∧ wx.heap[w.heap.size]? = some (.cells (arrV R') 66 (0, 0))))
                  case first =>
                    cases cb with
                    | true =>
                      have hf : Hid (R' = Hop.swp T 0 1) := by unfold Hid; rw [HX.out.2]; unfold Hop.fixed; rw [if_pos (of_decide_eq_true HCB.out)]
                      obtain ⟨c1, c2, c3, c4, ⟨u, c5⟩, c6, c7⟩ := swap_row (L := T) P4'.out 0 1 (by have := O2.out; omega) (by have := O2.out; omega)
                      have C7 := Lib.hid c7
                      clear c7
                      go_wp2_with fail
                      go_meet
                      refine Lib.hid ⟨?_, ?_, ?_, ?_⟩
                      · exact ownsRow_setCell_other (ownsRow_setCell_other P1'.out (a := ⟨w.heap.size, 0, none⟩) (fun h => by have h2 : w.heap.size + 1 ≤ w.heap.size := (P1'.out.lt _ h).1; omega) _) (a := ⟨w.heap.size, 1, none⟩) (fun h => by have h2 : w.heap.size + 1 ≤ w.heap.size := (P1'.out.lt _ h).1; omega) _
                      · exact (P2'.out.setCell (Nat.le_refl _) _).setCell (Nat.le_refl _) _
                      · simp [World.setCell]; exact P3'.out
                      · rw [hf.out]; exact C7.out
                    | false =>
                      have hf : Hid (R' = T) := by unfold Hid; rw [HX.out.2]; unfold Hop.fixed; rw [if_neg (of_decide_eq_false HCB.out)]
                      go_wp2_with fail
                      go_meet
                      exact Lib.hid ⟨P1'.out, P2'.out, P3'.out, by rw [hf.out]; exact P4'.out⟩
                  case rest =>
                    obtain ⟨q1, q2, q3, q4⟩ := hcut.out
                    have P1 := Lib.hid q1
                    have P2 := Lib.hid q2
                    have P3 := Lib.hid q3
                    have P4 := Lib.hid q4
                    clear q1 q2 q3 q4 hcut P1' P2' P3' P4' wz
                    have hz : w.heap.size + 1 ≤ wc.heap.size := P3.out
                    by_cases hl : 20 * m + 20 ≤ n
                    · have l1 : ¬ (n : Int) - 20 * (m : Int) < 20 := by omega
                      have hkm : 20 * m + 20 ≤ maxLen := by unfold maxLen; omega
                      have hkb : (20 * m + 20) * 8 ≤ 140737488355328 := by omega
                      go_wp2_with (refine wpList_append_lies _ (by rfl) (.tmp 81) (.tmp 87) 40 (by rfl) (w.heap.size + 1) 3 iw _ 1 8 Tryd.underlying40 hi hz0 hz1 hz2 rfl (by omega) (.slice al (20 * m) cl) (20 * m) (icells O) (by rfl) P1.out ⟨w.heap.size, 0, none⟩ 20 20 (icells R') (by rfl) (by simp [HL1.out]) (fun j u h => by rw [show (⟨w.heap.size, 0, none⟩ : Addr).add j = ⟨w.heap.size, 0 + j, none⟩ from addr_add _ _ _, Nat.zero_add, cell_of_row _ _ j _ _ _ P4.out]; simpa [arrV] using h) (by simp [Value.oneCell']) (by omega) hkm hkb hz wc.heap.size rfl ?_)
                      intro gg cap1 w1 hown1 hgrow hat hlt1
                      have T1 := Lib.hid hown1
                      have T2 := Lib.hid (P2.out.grown hgrow (by omega) (fun kk hk' => Nat.le_of_succ_le (P1.out.lt kk hk').1))
                      have T4 : Hid (w1.heap[w.heap.size]? = some (.cells (arrV R') 66 (0, 0))) := Lib.hid ((hgrow.block _ P3.out (fun h => by have h2 : w.heap.size + 1 ≤ w.heap.size := (P1.out.lt _ h.symm).1; omega)).trans P4.out)
                      have T3 : Hid (w.heap.size < w1.heap.size) := Lib.hid (Array.getElem?_eq_some_iff.1 T4.out).1
                      clear hown1 hgrow hat hlt1
                      go_wp2_with fail
                      go_roundg ((n + 19) / 20 - (m + 1))
                      case measure => rw [HR.out]; omega
                      case rel =>
                        refine ⟨m + 1, by omega, rfl, by rw [HX.out.1], Lib.hid ⟨?_, T2.out, T3.out, by rw [HRW.out]; exact T4.out⟩⟩
                        rw [HO.out]
                        rw [show min (20 * (m + 1)) n = 20 * m + 20 by omega, List.take_of_length_le (l := R') (by have := HL1.out; omega), show icells (O ++ R') = icells O ++ icells R' by simp [icells]]
                        exact T1.out
                    · obtain ⟨j, hj⟩ : ∃ j : Nat, j = n - 20 * m := ⟨_, rfl⟩
                      have l1 : (j : Int) < 20 := by omega
                      have l2 : 0 < j := by omega
                      have l4 : j ≤ 20 := by omega
                      have hkm : 20 * m + j ≤ maxLen := by unfold maxLen; omega
                      have hkb : (20 * m + j) * 8 ≤ 140737488355328 := by omega
                      have l3 : (n : Int) - 20 * (m : Int) = (j : Int) := by omega
                      have hsl := slice_arr w.heap.size j l4
                      have HJ := Lib.hid hj
                      clear hj
                      go_wp2_with (refine wpList_append_lies _ (by rfl) (.tmp 81) (.tmp 87) 40 (by rfl) (w.heap.size + 1) 3 iw _ 1 8 Tryd.underlying40 hi hz0 hz1 hz2 rfl (by omega) (.slice al (20 * m) cl) (20 * m) (icells O) (by rfl) P1.out ⟨w.heap.size, 0, none⟩ j 20 (icells (R'.take j)) (by rfl) (by rw [List.length_map, List.length_take, HL1.out]; omega) (fun j u h => by rw [show (⟨w.heap.size, 0, none⟩ : Addr).add j = ⟨w.heap.size, 0 + j, none⟩ from addr_add _ _ _, Nat.zero_add, cell_of_row _ _ j _ _ _ P4.out]; exact row_take h) (fun u h => icells_one h) l2 hkm hkb hz wc.heap.size rfl ?_)
                      intro gg cap1 w1 hown1 hgrow hat hlt1
                      have T1 := Lib.hid hown1
                      have T2 := Lib.hid (P2.out.grown hgrow (by omega) (fun kk hk' => Nat.le_of_succ_le (P1.out.lt kk hk').1))
                      have T4 : Hid (w1.heap[w.heap.size]? = some (.cells (arrV R') 66 (0, 0))) := Lib.hid ((hgrow.block _ P3.out (fun h => by have h2 : w.heap.size + 1 ≤ w.heap.size := (P1.out.lt _ h.symm).1; omega)).trans P4.out)
                      have T3 : Hid (w.heap.size < w1.heap.size) := Lib.hid (Array.getElem?_eq_some_iff.1 T4.out).1
                      clear hown1 hgrow hat hlt1 l3
                      go_wp2_with fail
                      go_roundg ((n + 19) / 20 - (m + 1))
                      case measure => rw [HR.out]; omega
                      case rel =>
                        refine ⟨m + 1, by omega, rfl, by rw [HX.out.1], Lib.hid ⟨?_, T2.out, T3.out, by rw [HRW.out]; exact T4.out⟩⟩
                        rw [HO.out]
                        rw [show min (20 * (m + 1)) n = 20 * m + j by have := HJ.out; omega, ← HJ.out, show icells (O ++ R'.take j) = icells O ++ icells (R'.take j) by simp [icells], show icells (R'.take j) = List.take j (icells R') by simp [icells]]
                        exact T1.out
          · obtain rfl : m = (n + 19) / 20 := by omega
            have q1' : wr.ownsRow (w.heap.size + 1) 3 1 u8 n (icells (Hop.hopsV seed n)) := by
              have e1 : min (20 * ((n + 19) / 20)) n = n := by omega
              rw [e1] at q1; exact q1
            have OWN := Lib.hid q1'
            obtain ⟨al, cl, rfl⟩ := own_slice q1'
            clear q1 q2 q3 q4 hq hr q1'
            go_wp2_with fail
            go_ret2
            exact ⟨_, rfl, own_mono OWN.out (Nat.le_succ _), Q2.out⟩
end Go.Proofs.YtlkkkohgeakfaaaDoor
