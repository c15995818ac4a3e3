/- The walk of SupplyMeets. -/
import Derived.Test.YtnomamimpnogpaaDoorSupplyA
import Derived.Deep.DeepCutAuto
import Derived.Deep.LoopGhost
import Derived.Deep.RegionHeld3
import Derived.Deep.AppendLies
import Derived.Laws.BitsLemmas
import Derived.OneCell
import Derived.Deep.QuietTactic
import Derived.BigQuiet
namespace Go.Proofs.YtnomamimpnogpaaDoor
open Go.RowKit Go.ChangeShapes
theorem Vars.mk {W : World} (h : Lib.TabIs Tryd.prog W "reveille/supply.table" .i64 supplyL) : supplyAt W := supply_mk h
theorem infoWin : (Tryd.prog.info? 26).map (fun i => (i.zero, i.size, i.bytes)) = some (some (.agg #[.int .i64 0, .int .i64 0]), 2, 16) := by kernel_rfl
theorem infoArr : (Tryd.prog.info? 24).map (fun i => (i.zero, i.size, i.bytes)) = some (some (.agg #[.int .i64 0, .int .i64 0]), 2, 16) := by kernel_rfl
namespace smeets
def turn (ps : List (Int × Int)) : List (Int × Int) := ps.map fun p => (p.1.tdiv 2, p.2)
theorem turn_len (ps : List (Int × Int)) : (turn ps).length = ps.length := by simp [turn]
theorem wrap_half {z : Int} (h0 : -9223372036854775808 ≤ z) (h1 : z ≤ 9223372036854775807) : IntKind.i64.wrap (z.tdiv 2) = z.tdiv 2 := by
  have hb : -9223372036854775808 ≤ z.tdiv 2 ∧ z.tdiv 2 ≤ 9223372036854775807 := by
    rcases Int.le_total 0 z with h | h
    · rw [Int.tdiv_eq_ediv_of_nonneg h]; omega
    · obtain ⟨m, rfl⟩ : ∃ m, z = -m := ⟨-z, by omega⟩
      rw [Int.neg_tdiv, Int.tdiv_eq_ediv_of_nonneg (by omega)]; omega
  obtain ⟨h2, h3⟩ := hb
  rw [IntKind.wrap_i64]
  omega
theorem turn_p1 (ps : List (Int × Int)) (k : Nat) (hk : k < ps.length) : p1 (turn ps) k = (p1 ps k).tdiv 2 := by
  simp [turn, p1, List.getD, hk]
theorem turn_p2 (ps : List (Int × Int)) (k : Nat) (hk : k < ps.length) : p2 (turn ps) k = p2 ps k := by
  simp [turn, p2, List.getD, hk]
def mix (ps : List (Int × Int)) (k : Nat) : List (Int × Int) := (turn ps).take k ++ ps.drop k
theorem mix_zero (ps : List (Int × Int)) : mix ps 0 = ps := by simp [mix]
theorem mix_all (ps : List (Int × Int)) : mix ps ps.length = turn ps := by
  rw [mix, List.drop_length, List.append_nil, ← turn_len ps, List.take_length]
theorem mix_len (ps : List (Int × Int)) (k : Nat) (hk : k ≤ ps.length) : (mix ps k).length = ps.length := by
  simp [mix, turn_len]; omega
theorem mix_at (ps : List (Int × Int)) (k : Nat) (hk : k < ps.length) : mix ps k = (turn ps).take k ++ (p1 ps k, p2 ps k) :: ps.drop (k + 1) := by
  rw [mix, List.drop_eq_getElem_cons hk, pair_at ps k hk]
theorem mix_next (ps : List (Int × Int)) (k : Nat) (hk : k < ps.length) : mix ps (k + 1) = (turn ps).take k ++ ((p1 ps k).tdiv 2, p2 ps k) :: ps.drop (k + 1) := by
  have h : (turn ps).take (k + 1) = (turn ps).take k ++ [((p1 ps k).tdiv 2, p2 ps k)] := by
    have hk' : k < (turn ps).length := by rw [turn_len]; exact hk
    rw [← turn_p1 ps k hk, ← turn_p2 ps k hk, ← pair_at (turn ps) k hk', List.take_add_one, List.getElem?_eq_getElem hk']
    rfl
  rw [mix, h, List.append_assoc]
  rfl
theorem mix_p (ps : List (Int × Int)) (k : Nat) (hk : k < ps.length) : p1 (mix ps k) k = p1 ps k ∧ p2 (mix ps k) k = p2 ps k := by
  have hl : ((turn ps).take k).length = k := by simp [turn_len]; omega
  have h : (mix ps k)[k]? = some (p1 ps k, p2 ps k) := by
    rw [mix_at ps k hk, List.getElem?_append_right (by omega), hl, Nat.sub_self]
    rfl
  exact ⟨by simp [p1, List.getD, h], by simp [p2, List.getD, h]⟩
theorem mix_set (ps : List (Int × Int)) (k : Nat) (hk : k < ps.length) (ex : List Value) : (pcells (mix ps k) ++ ex).set (k * 2) (.int .i64 ((p1 ps k).tdiv 2)) = pcells (mix ps (k + 1)) ++ ex := by
  have hl : (pcells ((turn ps).take k)).length = k * 2 := by rw [pcells_len]; simp [turn_len]; omega
  rw [mix_at ps k hk, mix_next ps k hk, pcells_append, pcells_append, List.append_assoc, List.append_assoc, List.set_append_right _ _ (by omega), hl, Nat.sub_self]
  rfl
end smeets
open smeets

set_option maxHeartbeats 8000000 in
set_option maxRecDepth 100000 in
theorem supplyMeets_walk {H : Type} {enc : TypeId × Value → H} (v : Value) (d : DataW H) (pl : List MemPlace) (W : World)
    (h : DataW.Trod enc Tryd.prog W 0 (fun _ => true) true 22 v d pl) {base : Nat} (hok : Value.okWide Tryd.prog W .any base 22 v) (hw : ∀ n ∈ DataW.weights Tryd.prog 22 d, n ≤ reachBytes) (_ : W.ShapedOpen Tryd.prog) (hT : supplyAt W) :
    Calls Tryd.prog 3 #[v] W fun e w' => e = .returned (.bool true) ∧ Below W.heap.size W w' := by
  obtain ⟨ps, hP, hlen, hwf⟩ := pairs_arg Tryd.underlying22 Tryd.underlying24 Tryd.underlying2 (by kernel_rfl) (by kernel_rfl) (by kernel_rfl) hok h hw
  have HP2 := Lib.hid hP
  obtain ⟨a, cap, rfl, hm, _, hc⟩ := hP
  have hlen : ps.length ≤ 8796093022000 := by have : reachBytes = 140737488351232 := by decide
                                              omega
  have HC := Lib.hid hc
  have HWF := Lib.hid hwf
  unfold maxLen at hm
  obtain ⟨iw, hi, hz0, hz1, hz2⟩ := info_parts infoWin
  obtain ⟨ia, hj, hy0, hy1, hy2⟩ := info_parts infoArr
  clear h hok hw hc hwf
  go_enter Tryd.func3, Tryd.ntmps3
  go_wp2_with fail
  go_loopg [3, 4, 5] ps.length (fun r m t i wr => ∃ k : Nat, k ≤ ps.length ∧ r = ps.length - k ∧ i = .int .i64 k ∧ Hid (wr.ownsRow W.heap.size 26 2 m k (pcells (ps.take k)) ∧ wr.ownsRow W.heap.size 24 2 t k (pcells ((turn ps).take k)) ∧ Below W.heap.size W wr))
  case atStart => exact ⟨0, by omega, by omega, rfl, World.ownsRow_nil _ _ _ _, World.ownsRow_nil _ _ _ _, Below.refl _ _⟩
  case round =>
    obtain ⟨k, hk, hr, rfl, hq⟩ := hrel
    obtain ⟨q1, q2, q3⟩ := hq.out
    have Q1 := Lib.hid q1
    have Q2 := Lib.hid q2
    have Q3 := Lib.hid q3
    have HR := Lib.hid hr
    clear q1 q2 q3 hq hr
    by_cases hlt : k < ps.length
    · obtain ⟨b, off, hp, g1, g2⟩ := HC.out k hlt
      subst hp
      have hbz : b < W.heap.size := World.block_lt_of_cell? W _ g1
      have HB := Lib.hid hbz
      have G1 := Lib.hid g1
      have g1 : wr.cell? ⟨b, off + k * 2, none⟩ = some (.int .i64 (p1 ps k)) := (Q3.out.cell (p := ⟨b, off + k * 2, none⟩) hbz).trans g1
      have g2 : wr.cell? ⟨b, off + k * 2 + 1, none⟩ = some (.int .i64 (p2 ps k)) := (Q3.out.cell (p := ⟨b, off + k * 2 + 1, none⟩) hbz).trans g2
      obtain ⟨bd, _⟩ := HWF.out (p1 ps k, p2 ps k) (by rw [← pair_at ps k hlt]; exact List.getElem_mem hlt)
      obtain ⟨bd0, bd1⟩ := bounds_i64 bd
      have HF := Lib.hid (own_far Q1.out hbz)
      have hbr : b < wr.heap.size := Nat.lt_of_lt_of_le hbz Q3.out.size
      clear bd hbz
      go_wp2_with fail
      have hz : W.heap.size ≤ wr.heap.size := Q3.out.size
      have hkm : k + 1 ≤ maxLen := by unfold maxLen; omega
      have hkb : (k + 1) * 16 ≤ 140737488355328 := by omega
      go_region_held3 (fun w' => w'.cell? ⟨b, off + k * 2, none⟩ = some (.int .i64 (p1 ps k)) ∧ w'.cell? ⟨b, off + k * 2 + 1, none⟩ = some (.int .i64 (p2 ps k)))
        (first | go_keep | exact ⟨k1, k2⟩)
        ((refine step_append_lies _ (by rfl) (.tmp 13) (.tmp 25) 23 (by rfl) W.heap.size 26 iw _ 2 16 Tryd.underlying23 hi hz0 hz1 hz2 rfl (by omega) u3 k (pcells (ps.take k)) (by rfl) ((Q1.out.alloc _).drew)
                    ⟨wr.heap.size, 0, none⟩ 1 1 [.int .i64 (p1 ps k), .int .i64 (p2 ps k)] (by rfl) (by rfl) (World.news_of_block (cs := #[.int .i64 (p1 ps k), .int .i64 (p2 ps k)]) (t := 26) (fr := (0, 0)) (heap_alloc_new wr _)) (by simp [Value.oneCell'])
                    (by omega) hkm hkb (by simp; omega) (wr.heap.size + 1) (by simp) ?_; intro gg cap1 w1 hown1 hgrow hat hlt1; have k1 : w1.cell? ⟨b, off + k * 2, none⟩ = some (.int .i64 (p1 ps k)) := (hgrow.cell_far ⟨b, off + k * 2, none⟩ (by simp; omega) HF.out).trans (by go_keep); have k2 : w1.cell? ⟨b, off + k * 2 + 1, none⟩ = some (.int .i64 (p2 ps k)) := (hgrow.cell_far ⟨b, off + k * 2 + 1, none⟩ (by simp; omega) HF.out).trans (by go_keep)))
      have own2 := Lib.hid (((Q2.out.alloc (.cells #[.int .i64 (p1 ps k), .int .i64 (p2 ps k)] 26 (0, 0))).drew).kept hgrow (own_ne Q2.out Q1.out (by decide)))
      have own1 := Lib.hid hown1
      have BW := Lib.hid (((Q3.out.alloc hz (.cells #[.int .i64 (p1 ps k), .int .i64 (p2 ps k)] 26 (0, 0))).drew).grown hgrow (by simp; omega) (fun kk hk' => ((Q1.out.lt kk hk').1)))
      clear hgrow hat hown1
      have hz' : W.heap.size ≤ w1.heap.size := BW.out.size
      have HF2 := Lib.hid (own_far own2.out (Nat.lt_of_lt_of_le (World.block_lt_of_cell? W _ G1.out) (Nat.le_refl _)))
      have hbr' : b < w1.heap.size := World.block_lt_of_cell? w1 _ k1
      go_wp2_with fail
      go_region_held3 (fun w' => w'.cell? ⟨b, off + k * 2, none⟩ = some (.int .i64 (p1 ps k)) ∧ w'.cell? ⟨b, off + k * 2 + 1, none⟩ = some (.int .i64 (p2 ps k)))
        (first | go_keep | exact ⟨k3, k4⟩)
        ((refine step_append_lies _ (by rfl) (.tmp 27) (.tmp 40) 22 (by rfl) W.heap.size 24 ia _ 2 16 Tryd.underlying22 hj hy0 hy1 hy2 rfl (by omega) u4 k (pcells ((turn ps).take k)) (by rfl) ((own2.out.alloc _).drew)
                    ⟨w1.heap.size, 0, none⟩ 1 1 [.int .i64 (IntKind.i64.wrap ((p1 ps k).tdiv 2)), .int .i64 (p2 ps k)] (by rfl) (by rfl) (World.news_of_block (cs := #[.int .i64 (IntKind.i64.wrap ((p1 ps k).tdiv 2)), .int .i64 (p2 ps k)]) (t := 24) (fr := (0, 0)) (heap_alloc_new w1 _)) (by simp [Value.oneCell'])
                    (by omega) hkm hkb (by simp; omega) (w1.heap.size + 1) (by simp) ?_; intro gg2 cap2 w2 hown2 hgrow hat hlt2; have k3 : w2.cell? ⟨b, off + k * 2, none⟩ = some (.int .i64 (p1 ps k)) := (hgrow.cell_far ⟨b, off + k * 2, none⟩ (by simp; omega) HF2.out).trans (by go_keep); have k4 : w2.cell? ⟨b, off + k * 2 + 1, none⟩ = some (.int .i64 (p2 ps k)) := (hgrow.cell_far ⟨b, off + k * 2 + 1, none⟩ (by simp; omega) HF2.out).trans (by go_keep)))
      have own3 := Lib.hid (((own1.out.alloc (.cells #[.int .i64 (IntKind.i64.wrap ((p1 ps k).tdiv 2)), .int .i64 (p2 ps k)] 24 (0, 0))).drew).kept hgrow (own_ne own1.out own2.out (by decide)))
      have own4 := Lib.hid hown2
      have BX := Lib.hid (((BW.out.alloc hz' (.cells #[.int .i64 (IntKind.i64.wrap ((p1 ps k).tdiv 2)), .int .i64 (p2 ps k)] 24 (0, 0))).drew).grown hgrow (by simp; omega) (fun kk hk' => ((own2.out.lt kk hk').1)))
      clear hgrow hat hown2
      have HW := Lib.hid (wrap_half bd0 bd1)
      go_wp2_with fail
      go_roundg (ps.length - (k + 1))
      case measure => rw [HR.out]; omega
      case rel =>
        refine ⟨k + 1, by omega, rfl, by simp, Lib.hid ⟨?_, ?_, BX.out⟩⟩
        · rw [← pcells_take ps k hlt]; exact own3.out
        · rw [← pcells_take (turn ps) k (by rw [turn_len]; exact hlt), turn_p1 ps k hlt, turn_p2 ps k hlt, ← HW.out]; exact own4.out
    · obtain rfl : k = ps.length := by omega
      have hz : W.heap.size ≤ wr.heap.size := Q3.out.size
      have hkm : ps.length + 1 ≤ maxLen := by unfold maxLen; omega
      have hkb : (ps.length + 1) * 16 ≤ 140737488355328 := by omega
      go_wp2_with (refine wpList_append_lies _ (by rfl) (.tmp 42) (.tmp 44) 23 (by rfl) W.heap.size 26 iw _ 2 16 Tryd.underlying23 hi hz0 hz1 hz2 rfl (by omega) u3 ps.length (pcells (ps.take ps.length)) (by rfl) (Q1.out.alloc _) ⟨wr.heap.size, 0, none⟩ 1 1 [.int .i64 (-77), .int .i64 0] (by rfl) (by rfl) (World.news_of_block (cs := #[.int .i64 (-77), .int .i64 0]) (t := 26) (fr := (0, 0)) (heap_alloc_new wr _)) (by simp [Value.oneCell']) (by omega) hkm hkb (by simp; omega) (wr.heap.size + 1) (by simp) ?_)
      intro gg cap1 w1 hown1 hgrow hat hlt1
      have own2 := Lib.hid ((Q2.out.alloc (.cells #[.int .i64 (-77), .int .i64 0] 26 (0, 0))).kept hgrow (own_ne Q2.out Q1.out (by decide)))
      have BW := Lib.hid ((Q3.out.alloc hz (.cells #[.int .i64 (-77), .int .i64 0] 26 (0, 0))).grown hgrow (by simp; omega) (fun kk hk' => ((Q1.out.lt kk hk').1)))
      have own1 := Lib.hid hown1
      have TT : Hid ((turn ps).take ps.length = turn ps) := by rw [← turn_len ps, List.take_length]; exact Lib.hid rfl
      clear hgrow hat hown1 Q1 Q2 Q3
      simp only [TT.out] at own2
      have c0 : w1.cell? ⟨gg, ps.length * 2, none⟩ = some (.int .i64 (-77)) := by
        rw [own1.out.cellAt _ (by omega)]
        have := pcells_len ps
        rw [List.getElem?_append_right (by omega), this, Nat.sub_self]
        rfl
      have C0 := Lib.hid c0
      clear c0
      have hcap : ps.length + 1 ≤ cap1 := own_cap own1.out
      have hcap' : ps.length ≤ cap1 := by omega
      go_wp2_with fail
      refine (meets_any _ _ ps w1 (pairs_of_pre own1.out (by omega) (by omega) _) (HP2.out.grown BW.out)).mono ?_
      rintro e w2 ⟨rfl, hb⟩
      have c0 : w2.cell? ⟨gg, ps.length * 2, none⟩ = some (.int .i64 (-77)) := (hb.cell (p := ⟨gg, ps.length * 2, none⟩) hlt1).trans C0.out
      have BX := Lib.hid (BW.out.trans (hb.mono BW.out.size))
      have own3 := Lib.hid (own_below own1.out hb)
      have own4 := Lib.hid (own_below own2.out hb)
      clear hb
      go_wp2_with fail
      go_loopg [6] ps.length (fun r i wy => ∃ k : Nat, k ≤ ps.length ∧ r = ps.length - k ∧ i = .int .i64 k ∧ Hid (wy.ownsRow W.heap.size 26 2 (.slice (some ⟨gg, 0, none⟩) (ps.length + 1) cap1) (ps.length + 1) (pcells (mix ps k) ++ [.int .i64 (-77), .int .i64 0]) ∧ wy.ownsRow W.heap.size 24 2 u4 ps.length (pcells (turn ps)) ∧ Below W.heap.size W wy))
      case atStart => exact ⟨0, by omega, by omega, rfl, Lib.hid ⟨by rw [mix_zero]; exact own3.out, own4.out, BX.out⟩⟩
      case round =>
        obtain ⟨k, hk, hr, rfl, hq⟩ := hrel
        obtain ⟨q1, q2, q3⟩ := hq.out
        have Q1 := Lib.hid q1
        have Q2 := Lib.hid q2
        have Q3 := Lib.hid q3
        have HR := Lib.hid hr
        clear q1 q2 q3 hq hr
        by_cases hlt : k < ps.length
        · obtain ⟨b, off, hp, g1, g2⟩ := HC.out k hlt
          subst hp
          have hbz : b < W.heap.size := World.block_lt_of_cell? W _ g1
          have g1 : wr.cell? ⟨b, off + k * 2, none⟩ = some (.int .i64 (p1 ps k)) := (Q3.out.cell (p := ⟨b, off + k * 2, none⟩) hbz).trans g1
          have g2 : wr.cell? ⟨b, off + k * 2 + 1, none⟩ = some (.int .i64 (p2 ps k)) := (Q3.out.cell (p := ⟨b, off + k * 2 + 1, none⟩) hbz).trans g2
          obtain ⟨m1, m2⟩ := pre_cells Q1.out (by rw [mix_len ps k hk]; omega) k (by rw [mix_len ps k hk]; exact hlt)
          rw [(mix_p ps k hlt).1] at m1
          rw [(mix_p ps k hlt).2] at m2
          obtain ⟨g4, c4, rfl, _, _⟩ := Q2.out.form (by omega)
          obtain ⟨t1, _⟩ := own_pair Q2.out (turn_len ps) k hlt
          rw [turn_p1 ps k hlt] at t1
          have hfz := Q1.out.frozenAt (k * 2)
          have hd1 : decide (p1 ps k ≠ p1 ps k) = false := by simp
          have hd2 : decide (p2 ps k ≠ p2 ps k) = false := by simp
          have T1 := Lib.hid t1
          have FZ := Lib.hid hfz
          clear hbz t1 hfz
          go_wp2_with fail
          go_quiet (fail)
          have t1 := T1.out
          have fz := FZ.out
          go_wp2_with fail
          go_roundg (ps.length - (k + 1))
          case measure => rw [HR.out]; omega
          case rel =>
            have ne2 : (Value.slice (some ⟨g4, 0, none⟩) ps.length c4).ownBlock ≠ some gg := by
              rcases own_ne Q2.out Q1.out (by decide) with h | h
              · simp [Value.ownBlock] at h
              · simpa [Value.ownBlock] using h
            refine ⟨k + 1, by omega, rfl, by simp, Lib.hid ⟨?_, ?_, ?_⟩⟩
            · rw [← mix_set ps k hlt]
              exact (Q1.out.stored (k * 2) _).1
            · exact ownsRow_setCell_other Q2.out (a := ⟨gg, k * 2, none⟩) ne2 _
            · exact (below_drewN Q3.out _).setCell (p := ⟨gg, k * 2, none⟩) (Q1.out.lt gg rfl).1 _
        · obtain rfl : k = ps.length := by omega
          have hp1 : Pairs wr (.slice (some ⟨gg, 0, none⟩) ps.length cap1) (turn ps) := by
            have h := Q1.out
            rw [mix_all] at h
            have := pairs_of_pre h (by rw [turn_len]; omega) (by omega) cap1
            rwa [turn_len] at this
          have hp2 : Pairs wr u4 (turn ps) := pairs_of_own Q2.out (turn_len ps) (by omega)
          have HP3 := Lib.hid hp1
          have HP4 := Lib.hid hp2
          have HS := Lib.hid (hT.grown Q3.out)
          clear hp1 hp2
          go_wp2_with fail
          refine (meets_any _ _ (turn ps) wr HP3.out HP4.out).mono ?_
          rintro e w5 ⟨rfl, hb⟩
          have HB := Lib.hid hb
          clear hb
          go_wp2_with fail
          refine (awake_any w5 (HS.out.grown HB.out)).mono ?_
          rintro e w6 ⟨rfl, rfl⟩
          go_wp2_with fail
          go_ret
          exact ⟨rfl, Q3.out.trans (HB.out.mono Q3.out.size)⟩
end Go.Proofs.YtnomamimpnogpaaDoor
