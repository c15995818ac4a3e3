/- The document's Entry. -/
import Derived.Test.YtpafbnmncioppaaEntryC
import Derived.Deep.LoopGhost
import Derived.Deep.DeepCutAuto
import Derived.Deep.RegionHeld3
import Derived.OwnWalk
import Derived.Handy
import Derived.IntWalk
import Derived.Lib.Hide
import Derived.WalkSmall
import Derived.BigQuiet
import Derived.Deep.RegionWith
namespace Go.Proofs.Ytpafbnmncioppaa
open Go.RowKit Go.ChangeShapes
set_option maxHeartbeats 4000000 in
theorem rentry_any (v : Value) (rs : List (Int × List Int)) (i base step : Int) (w : World) (hv : Tabs w v rs) (hi1 : i ≤ 9223372036854775807) (hO : ∀ k, k < rs.length → (rO rs k).length ≤ 17592186044416) : Calls Try.prog 11 #[.int .i64 i, .int .i64 base, .int .i64 step, v] w fun e w' => e = .returned (.int .i64 (entV i base step rs)) ∧ Below w.heap.size w w' := by
  obtain ⟨a, cap, rfl, hm, _, hc⟩ := hv
  have HC := Lib.hid hc
  unfold maxLen at hm
  clear hc
  by_cases hneg : i < 0
  · have HE : Hid (entV i base step rs = 0) := Lib.hid (by unfold entV; rw [if_pos hneg])
    go_enter Try.func11, Try.ntmps11
    go_wp2_with fail
    go_ret
    exact ⟨by rw [HE.out]; rfl, Below.refl _ _⟩
  · obtain ⟨I, rfl⟩ : ∃ I : Nat, i = I := ⟨i.toNat, by omega⟩
    obtain ⟨bu, hbu⟩ : ∃ y, IntKind.u64.wrap base = y := ⟨_, rfl⟩
    obtain ⟨su, hsu⟩ : ∃ y, IntKind.u64.wrap step = y := ⟨_, rfl⟩
    obtain ⟨iu, hiu⟩ : ∃ y, IntKind.u64.wrap (I : Int) = y := ⟨_, rfl⟩
    obtain ⟨s1, hs1⟩ : ∃ s1, IntKind.u64.wrap (su * iu) = s1 := ⟨_, rfl⟩
    obtain ⟨x0, hx0⟩ : ∃ x0, IntKind.u64.wrap (bu + s1) = x0 := ⟨_, rfl⟩
    have HE : Hid (wrap64 (rs.foldl (addU I) x0) = entV I base step rs) := Lib.hid (by
      unfold entV
      rw [if_neg hneg, ← hx0, ← hs1, ← hbu, ← hsu, ← hiu]
      simp only [IntKind.wrap_u64]
      exact ent_eq I base step rs)
    go_enter Try.func11, Try.ntmps11
    go_wp2_with fail
    go_loopg [9, 10] rs.length (fun r s vi wr => ∃ (k : Nat) (X : Int), k ≤ rs.length ∧ r = rs.length - k ∧ vi = .int .i64 k ∧ s = .int .u64 X ∧ Hid (X = (rs.take k).foldl (addU I) x0 ∧ Below w.heap.size w wr))
    case atStart => exact ⟨0, x0, by omega, by omega, rfl, rfl, Lib.hid ⟨by simp, Below.refl _ _⟩⟩
    case round =>
      obtain ⟨k, X, hk, hr, rfl, rfl, hh⟩ := hrel
      have HR := Lib.hid hr
      clear hr
      by_cases hlt : k < rs.length
      · obtain ⟨b, off, u, hp, g0, g1, g2⟩ := HC.out k hlt
        subst hp
        have hbz : b < w.heap.size := World.block_lt_of_cell? w _ g0
        have HB := Lib.hid hh.out.2
        have HI := Lib.hid (g2.below HB.out)
        have d0 : wr.cell? ⟨b, off + k * 2, none⟩ = some (.int .i64 (rF rs k)) := (HB.out.cell (p := ⟨b, off + k * 2, none⟩) hbz).trans g0
        have d1 : wr.cell? ⟨b, off + k * 2 + 1, none⟩ = some u := (HB.out.cell (p := ⟨b, off + k * 2 + 1, none⟩) hbz).trans g1
        clear g0 g1 g2
        obtain ⟨a', cap', rfl, hm', _, hc'⟩ := HI.out
        have HC' := Lib.hid hc'
        have HD0 := Lib.hid d0
        have HD1 := Lib.hid d1
        unfold maxLen at hm'
        have HX : Hid (X = (rs.take k).foldl (addU I) x0) := Lib.hid hh.out.1
        have hO' := hO k hlt
        clear hc' HI hh
        by_cases hz : 0 < (rO rs k).length
        · have hj : I % (rO rs k).length < (rO rs k).length := Nat.mod_lt _ hz
          obtain ⟨j, hjj⟩ : ∃ j, I % (rO rs k).length = j := ⟨_, rfl⟩
          rw [hjj] at hj
          obtain ⟨b2, off2, hp2, g3⟩ := HC'.out j hj
          subst hp2
          have hj2 : (I : Int) % ((rO rs k).length : Int) = (j : Int) := by rw [← hjj]; exact (Int.natCast_emod _ _).symm
          have hj3 : (I : Int).tmod ((rO rs k).length : Int) = (j : Int) := by rw [Int.tmod_eq_emod_of_nonneg (by omega)]; exact hj2
          obtain ⟨fu, hfu⟩ : ∃ y, IntKind.u64.wrap (rF rs k) = y := ⟨_, rfl⟩
          obtain ⟨zu, hzu⟩ : ∃ y, IntKind.u64.wrap (nth (rO rs k) j) = y := ⟨_, rfl⟩
          obtain ⟨m, hm1⟩ : ∃ m, IntKind.u64.wrap (fu * zu) = m := ⟨_, rfl⟩
          obtain ⟨X2, hX2⟩ : ∃ X2, IntKind.u64.wrap (X + m) = X2 := ⟨_, rfl⟩
          have HN : Hid (X2 = (rs.take (k + 1)).foldl (addU I) x0) := Lib.hid (by
            rw [foldl_take _ _ _ _ hlt, ← HX.out, r_at hlt]
            unfold addU
            rw [if_neg (by dsimp only; omega), ← hX2, ← hm1, ← hfu, ← hzu, ← hjj]
            simp only [IntKind.wrap_u64])
          generalize hL : (rO rs k).length = L at *
          have hb2 : b2 < wr.heap.size := World.block_lt_of_cell? wr _ g3
          generalize hz1 : nth (rO rs k) j = z at *
          go_wp2_with fail
          go_quiet (fail)
          go_wp2_with fail
          go_roundg (rs.length - (k + 1))
          case measure => rw [HR.out]; omega
          case rel => exact ⟨k + 1, X2, by omega, rfl, by first | rfl | simp, by first | rfl | rw [hX2], Lib.hid ⟨HN.out, below_drewN HB.out _⟩⟩
        · have HN : Hid (X = (rs.take (k + 1)).foldl (addU I) x0) := Lib.hid (by
            rw [foldl_take _ _ _ _ hlt, ← HX.out, r_at hlt]
            unfold addU
            rw [if_pos (by dsimp only; omega)])
          go_wp2_with fail
          go_roundg (rs.length - (k + 1))
          case measure => rw [HR.out]; omega
          case rel => exact ⟨k + 1, X, by omega, rfl, by first | rfl | simp, rfl, Lib.hid ⟨HN.out, HB.out⟩⟩
      · obtain rfl : k = rs.length := by omega
        have HB := Lib.hid hh.out.2
        obtain ⟨S3, hS3⟩ : ∃ S3, wrap64 X = S3 := ⟨_, rfl⟩
        have HF : Hid (S3 = entV I base step rs) := Lib.hid (by rw [← hS3, hh.out.1, List.take_length]; exact HE.out)
        clear hh
        go_wp2_with fail
        go_ret
        exact ⟨by rw [← HF.out]; first | rfl | rw [← hS3]; rfl, HB.out⟩
end Go.Proofs.Ytpafbnmncioppaa
