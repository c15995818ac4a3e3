/- The law's fit: windows that may be, in a row of its own. -/
import Derived.Test.YtnomamimpnogpaaDoorFitsV
import Derived.Deep.LoopGhost
import Derived.Deep.AppendLies
namespace Go.Proofs.YtnomamimpnogpaaDoor
open Go.RowKit Go.ChangeShapes
theorem infoWin : (Tryd.prog.info? 26).map (fun i => (i.zero, i.size, i.bytes)) = some (some (.agg #[.int .i64 0, .int .i64 0]), 2, 16) := by kernel_rfl
theorem tmod_bd (n m : Int) (h : 0 < m) : -m < n.tmod m ∧ n.tmod m < m := by
  exact ⟨Int.lt_tmod_of_pos n h, Int.tmod_lt_of_pos n h⟩
theorem fitN_emod (x : Int) : (x.tmod 67108864 + 67108864) % 67108864 = fitN x := by
  have := tmod_bd x 67108864 (by decide)
  unfold fitN
  rw [Int.tmod_eq_emod_of_nonneg (a := x.tmod 67108864 + 67108864) (by omega)]
theorem min_if' (a b : Int) : (if a < b then a else b) = min a b := by rw [Int.min_def]; split <;> split <;> omega
theorem max_if' (a b : Int) : (if b < a then a else b) = max a b := by rw [Int.max_def]; split <;> split <;> omega
set_option maxHeartbeats 2000000 in
set_option maxRecDepth 100000 in
theorem fit_any (v : Value) (ps : List (Int × Int)) (W : World) (hv : Pairs W v ps) (hlen : ps.length ≤ 8796093022000) :
    Calls Tryd.prog 12 #[v] W fun e w' => ∃ u, e = .returned u ∧ w'.ownsRow W.heap.size 26 2 u ps.length (pcells (fitL ps)) ∧ Below W.heap.size W w' := by
  obtain ⟨a, cap, rfl, hm, _, hc⟩ := hv
  have HC := Lib.hid hc
  unfold maxLen at hm
  obtain ⟨iw, hi, hz0, hz1, hz2⟩ := info_parts infoWin
  clear hc
  go_enter Tryd.func12, Tryd.ntmps12
  go_wp2_with fail
  go_loopg [3, 4] ps.length (fun r m i wr => ∃ k : Nat, k ≤ ps.length ∧ r = ps.length - k ∧ i = .int .i64 k ∧ Hid (wr.ownsRow W.heap.size 26 2 m k (pcells ((fitL ps).take k)) ∧ Below W.heap.size W wr))
  case atStart => exact ⟨0, by omega, by omega, rfl, World.ownsRow_nil _ _ _ _, Below.refl _ _⟩
  case round =>
    obtain ⟨k, hk, hr, rfl, hq⟩ := hrel
    obtain ⟨q1, q2⟩ := hq.out
    have Q1 := Lib.hid q1
    have Q2 := Lib.hid q2
    have HR := Lib.hid hr
    clear q1 q2 hq hr
    have hz : W.heap.size ≤ wr.heap.size := Q2.out.size
    by_cases hlt : k < ps.length
    · obtain ⟨b, off, hp, g1, g2⟩ := HC.out k hlt
      subst hp
      have hbz : b < W.heap.size := World.block_lt_of_cell? W _ g1
      have g1 : wr.cell? ⟨b, off + k * 2, none⟩ = some (.int .i64 (p1 ps k)) := (Q2.out.cell (p := ⟨b, off + k * 2, none⟩) hbz).trans g1
      have g2 : wr.cell? ⟨b, off + k * 2 + 1, none⟩ = some (.int .i64 (p2 ps k)) := (Q2.out.cell (p := ⟨b, off + k * 2 + 1, none⟩) hbz).trans g2
      have F1 := Lib.hid (fitL_p1 ps k hlt)
      have F2 := Lib.hid (fitL_p2 ps k hlt)
      have TK := Lib.hid (pcells_take (fitL ps) k (by rw [fitL_len]; exact hlt))
      have x1 := tmod_bd (p1 ps k) 67108864 (by decide)
      have x2 := tmod_bd (p2 ps k) 67108864 (by decide)
      have y1 := fitN_emod (p1 ps k)
      have y2 := fitN_emod (p2 ps k)
      generalize fitN (p1 ps k) = lo at *
      generalize fitN (p2 ps k) = hi' at *
      have z1 := min_if lo hi'
      have z2 := max_if lo hi'
      have hkm : k + 1 ≤ maxLen := by unfold maxLen; omega
      have hkb : (k + 1) * 16 ≤ 140737488355328 := by omega
      clear hbz
      go_wp2_with (refine wpList_append_lies _ (by rfl) (.tmp 29) (.tmp 37) 23 (by rfl) W.heap.size 26 iw _ 2 16 Tryd.underlying23 hi hz0 hz1 hz2 rfl (by omega) u3 k (pcells ((fitL ps).take k)) (by rfl) (Q1.out.alloc _) ⟨wr.heap.size, 0, none⟩ 1 1 [.int .i64 (min lo hi'), .int .i64 (max lo hi')] (by rfl) (by rfl) (World.news_of_block (cs := #[.int .i64 (min lo hi'), .int .i64 (max lo hi')]) (t := 26) (fr := (0, 0)) (heap_alloc_new wr _)) (by simp [Value.oneCell']) (by omega) hkm hkb (by simp; omega) (wr.heap.size + 1) (by simp) ?_)
      intro gg cap1 w1 hown1 hgrow hat hlt1
      have T1 := Lib.hid hown1
      have T2 := Lib.hid ((Q2.out.alloc hz (.cells #[.int .i64 (min lo hi'), .int .i64 (max lo hi')] 26 (0, 0))).grown hgrow (by simp; omega) (fun kk hk' => (Q1.out.lt kk hk').1))
      clear hown1 hgrow hat hlt1
      go_wp2_with fail
      go_roundg (ps.length - (k + 1))
      case measure => rw [HR.out]; omega
      case rel =>
        refine ⟨k + 1, by omega, rfl, by simp, Lib.hid ⟨?_, T2.out⟩⟩
        rw [← TK.out, F1.out, F2.out]
        exact T1.out
    · obtain rfl : k = ps.length := by omega
      have Q1' : Hid (wr.ownsRow W.heap.size 26 2 u3 ps.length (pcells (fitL ps))) := Lib.hid (by have := Q1.out; rw [List.take_of_length_le (by rw [fitL_len]; omega)] at this; exact this)
      go_wp2_with fail
      go_ret
      exact ⟨_, rfl, Q1'.out, Q2.out⟩
end Go.Proofs.YtnomamimpnogpaaDoor
