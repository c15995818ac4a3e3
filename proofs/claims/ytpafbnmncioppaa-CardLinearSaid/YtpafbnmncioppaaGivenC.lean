/- given: tables of the call's own. -/
import Derived.Test.YtpafbnmncioppaaFamL
import Derived.Deep.LoopGhost
import Derived.Deep.DeepCutAuto
import Derived.Deep.RegionHeld3
import Derived.OwnWalk
import Derived.Handy
import Derived.IntWalk
import Derived.Lib.Hide
import Derived.WalkSmall
import Derived.BigQuiet
import Derived.Deep.RegionWith
namespace Go.Proofs.Ytpafbnmncioppaa
open Go.RowKit Go.ChangeShapes
theorem infoI : (Try.prog.info? 2).map (fun i => (i.zero, i.size, i.bytes)) = some (some (.int .i64 0), 1, 8) := by kernel_rfl
theorem infoR : (Try.prog.info? 30).map (fun i => (i.zero, i.size, i.bytes)) = some (some (.agg #[.int .i64 0, .slice none 0 0]), 2, 32) := by kernel_rfl
set_option maxHeartbeats 8000000 in
set_option maxRecDepth 100000 in
theorem given_any (v : Value) (rs : List (Int × List Int)) (w : World) (hv : Tabs w v rs) (hr1 : rs.length ≤ 4398046511000) (hO : ∀ k, k < rs.length → (rO rs k).length ≤ 17592186044416) : Calls Try.prog 9 #[v] w fun e w' => ∃ vo l, e = .returned vo ∧ said l = rs ∧ w'.ownsRow w.heap.size 30 2 vo l.length (tcells l) ∧ Fam w' w.heap.size 2 (l.map (·.2)) ∧ Below w.heap.size w w' := by
  obtain ⟨a, cap, rfl, hm, _, hc⟩ := hv
  have HC := Lib.hid hc
  have HO := Lib.hid hO
  obtain ⟨ir, hi, hz0, hz1, hz2⟩ := info_parts infoR
  obtain ⟨ii, hj, hy0, hy1, hy2⟩ := info_parts infoI
  unfold maxLen at hm
  clear hc hO
  go_enter Try.func9, Try.ntmps9
  go_wp2_with fail
  go_loopg [3, 4] rs.length (fun r m vi wr => ∃ k : Nat, k ≤ rs.length ∧ r = rs.length - k ∧ vi = .int .i64 k ∧ Hid (∃ l : List (Int × Value × List Int), l.length = k ∧ said l = rs.take k ∧ wr.ownsRow w.heap.size 30 2 m k (tcells l) ∧ Fam wr w.heap.size 2 (l.map (·.2)) ∧ Below w.heap.size w wr))
  case atStart => exact ⟨0, by omega, by omega, rfl, Lib.hid ⟨[], rfl, by simp [said], World.ownsRow_nil _ _ _ _, Fam.nil _ _ _, Below.refl _ _⟩⟩
  case round =>
    obtain ⟨k, hk, hr, rfl, hq⟩ := hrel
    obtain ⟨l, hlk, q0, q1, q2, q3⟩ := hq.out
    have Q0 := Lib.hid q0
    have Q1 := Lib.hid q1
    have Q2 := Lib.hid q2
    have Q3 := Lib.hid q3
    have HL := Lib.hid hlk
    have HR := Lib.hid hr
    clear q0 q1 q2 q3 hlk hr hq
    by_cases hlt : k < rs.length
    · obtain ⟨b, off, u, hp, g0, g1, g2⟩ := HC.out k hlt
      subst hp
      have hbz : b < w.heap.size := World.block_lt_of_cell? w _ g0
      have HI := Lib.hid g2
      obtain ⟨a', cap', rfl, _, _, _⟩ := g2
      have d0 : wr.cell? ⟨b, off + k * 2, none⟩ = some (.int .i64 (rF rs k)) := (Q3.out.cell (p := ⟨b, off + k * 2, none⟩) hbz).trans g0
      have d1 : wr.cell? ⟨b, off + k * 2 + 1, none⟩ = some (.slice a' (rO rs k).length cap') := (Q3.out.cell (p := ⟨b, off + k * 2 + 1, none⟩) hbz).trans g1
      have hz : w.heap.size ≤ wr.heap.size := Q3.out.size
      have hkm : k + 1 ≤ maxLen := by unfold maxLen; omega
      have hkb : (k + 1) * 32 ≤ 140737488355328 := by omega
      have hO1 := HO.out k hlt
      have o0 : (wr.alloc (.cells #[] 2)).ownsRow w.heap.size 2 1 (.slice (some ⟨wr.heap.size, 0, none⟩) 0 0) 0 (rc []) := World.ownsRow_lit (w := wr) #[] 0 hz (by simp) rfl
      have O0 := Lib.hid o0
      have I1 := Lib.hid ((HI.out.below Q3.out).below ((Below.refl _ _).alloc (Nat.le_refl _) (.cells #[] 2)))
      have HF := Lib.hid (own_far Q1.out hbz)
      have hbr : b < wr.heap.size := World.block_lt_of_cell? wr _ d0
      clear o0 g0 g1
      go_wp2_with fail
      go_region_held3 (fun w' => w'.cell? ⟨b, off + k * 2, none⟩ = some (.int .i64 (rF rs k)) ∧ w'.cell? ⟨b, off + k * 2 + 1, none⟩ = some (.slice a' (rO rs k).length cap'))
        (first | go_keep | exact ⟨k1, k2⟩ | exact ⟨k3, k4⟩)
        (first
          | (refine step_copy (by rfl) (.tmp 17) (.tmp 22) 23 (by rfl) w.heap.size 2 ii Try.underlying23 hj hy0 hy1 hy2 wr.heap.size 0 (by rfl) (O0.out.drew) (.slice a' (rO rs k).length cap') (rO rs k) (by rfl) I1.out hO1 (by simp; omega) (wr.heap.size + 1) (by simp) ?_; intro g1 cap1 w1 hown1 hgrow1 hat1 hlt1; have k1 : w1.cell? ⟨b, off + k * 2, none⟩ = some (.int .i64 (rF rs k)) := (hgrow1.cell_far ⟨b, off + k * 2, none⟩ (by simp; omega) (by simp; omega)).trans (by go_keep); have k2 : w1.cell? ⟨b, off + k * 2 + 1, none⟩ = some (.slice a' (rO rs k).length cap') := (hgrow1.cell_far ⟨b, off + k * 2 + 1, none⟩ (by simp; omega) (by simp; omega)).trans (by go_keep); have hF2 : Hid (w1.ownsRow w.heap.size 30 2 u3 k (tcells l)) := Lib.hid (((Q1.out.alloc (.cells #[] 2)).drew).kept hgrow1 (.inr fun h => by have := (Q1.out.lt _ h).2; omega)); have hz1' : w.heap.size ≤ w1.heap.size := Nat.le_trans hz (Nat.le_trans (by simp) hgrow1.size); have HF3 := Lib.hid (own_far hF2.out hbz); have hbw1 : b < w1.heap.size := World.block_lt_of_cell? w1 _ k1)
          | (refine step_append_lies _ (by rfl) (.tmp 11) (.tmp 25) 24 (by rfl) w.heap.size 30 ir _ 2 32 Try.underlying24 hi hz0 hz1 hz2 rfl (by omega) u3 k (tcells l) (by rfl) (hF2.out.alloc _) ⟨w1.heap.size, 0, none⟩ 1 1 [.int .i64 (rF rs k), .slice (some ⟨g1, 0, none⟩) (rO rs k).length cap1] (by rfl) (by rfl) (World.news_of_block (cs := #[.int .i64 (rF rs k), .slice (some ⟨g1, 0, none⟩) (rO rs k).length cap1]) (t := 30) (fr := (0, 0)) (heap_alloc_new w1 _)) (by simp [Value.oneCell']) (by omega) hkm hkb (by simp; omega) (w1.heap.size + 1) (by simp) ?_; intro g2 cap2 w2 hown2 hgrow2 hat2 hlt2; have k3 : w2.cell? ⟨b, off + k * 2, none⟩ = some (.int .i64 (rF rs k)) := (hgrow2.cell_far ⟨b, off + k * 2, none⟩ (by simp; omega) HF3.out).trans (by go_keep); have k4 : w2.cell? ⟨b, off + k * 2 + 1, none⟩ = some (.slice a' (rO rs k).length cap') := (hgrow2.cell_far ⟨b, off + k * 2 + 1, none⟩ (by simp; omega) HF3.out).trans (by go_keep)))
      have A2 := Lib.hid (hown1.alloc (.cells #[.int .i64 (rF rs k), .slice (some ⟨g1, 0, none⟩) (rO rs k).length cap1] 30 (0, 0)))
      have A3 := Lib.hid (hF2.out.alloc (.cells #[.int .i64 (rF rs k), .slice (some ⟨g1, 0, none⟩) (rO rs k).length cap1] 30 (0, 0)))
      have N1 := Lib.hid (A2.out.kept hgrow2 (own_ne A2.out A3.out (by decide)))
      have N2 := Lib.hid hown2
      have hg1 : wr.heap.size ≤ g1 := by rcases hat1 with rfl | rfl <;> omega
      have N3 : Hid (Fam w2 w.heap.size 2 ((l ++ [(rF rs k, Value.slice (some ⟨g1, 0, none⟩) (rO rs k).length cap1, rO rs k)]).map fun r => r.2)) := Lib.hid (by
        rw [List.map_append]
        refine Fam.add (Q2.out.to fun v n xs hv h => ?_) N1.out (by simp [Value.ownBlock]) (fun f hf => ?_)
        · have e1 := ((h.alloc (.cells #[] 2)).drew).kept hgrow1 (.inr fun e => by have := (h.lt _ e).2; omega)
          have e2 := e1.alloc (.cells #[.int .i64 (rF rs k), .slice (some ⟨g1, 0, none⟩) (rO rs k).length cap1] 30 (0, 0))
          exact e2.kept hgrow2 (own_ne e2 A3.out (by decide))
        · intro e
          have := ((Q2.out.1 f hf).1.lt g1 (by rw [e]; rfl)).2
          omega)
      have N4 : Hid (Below w.heap.size w w2) := Lib.hid ((((((Q3.out.alloc hz (.cells #[] 2)).drew).grown hgrow1 (by simp; omega) (fun kk hk' => by simp at hk'; omega)).alloc hz1' (.cells #[.int .i64 (rF rs k), .slice (some ⟨g1, 0, none⟩) (rO rs k).length cap1] 30 (0, 0)))).grown hgrow2 (by simp; omega) (fun kk hk' => (A3.out.lt kk hk').1))
      clear hgrow1 hgrow2 hat1 hat2 hown1 hown2
      go_wp2_with fail
      go_roundg (rs.length - (k + 1))
      case measure => rw [HR.out]; omega
      case rel =>
        refine ⟨k + 1, by omega, rfl, by simp, Lib.hid ⟨l ++ [(rF rs k, Value.slice (some ⟨g1, 0, none⟩) (rO rs k).length cap1, rO rs k)], by simp [HL.out], ?_, ?_, N3.out, N4.out⟩⟩
        · rw [List.take_succ_eq_append_getElem hlt, ← Q0.out, r_at hlt]
          simp [said]
        · rw [tcells_append]
          exact N2.out
    · obtain rfl : k = rs.length := by omega
      go_wp2_with fail
      go_ret
      exact ⟨_, l, rfl, by rw [Q0.out, List.take_length], by rw [HL.out]; exact Q1.out, Q2.out, Q3.out⟩
end Go.Proofs.Ytpafbnmncioppaa
