/- Entry and Sum, the program's and the document's. -/
import Derived.Test.YtpafbnmncioppaaTabsL
import Derived.Deep.LoopGhost
import Derived.Deep.DeepCutAuto
import Derived.Deep.RegionHeld3
import Derived.OwnWalk
import Derived.Handy
import Derived.IntWalk
import Derived.Lib.Hide
import Derived.WalkSmall
import Derived.BigQuiet
import Derived.Deep.RegionWith
namespace Go.Proofs.Ytpafbnmncioppaa
open Go.RowKit Go.ChangeShapes
/-- What Entry answers. -/
def entV (i base step : Int) (rs : List (Int × List Int)) : Int := if i < 0 then 0 else entP i.toNat base step rs
theorem foldl_take {α β : Type} (f : α → β → α) (l : List β) (a : α) (k : Nat) (h : k < l.length) : (l.take (k + 1)).foldl f a = f ((l.take k).foldl f a) l[k] := by
  rw [List.take_succ_eq_append_getElem h, List.foldl_append]
  rfl
set_option maxHeartbeats 1000000 in
theorem sum_any (v : Value) (zs : List Int) (w : World) (hv : Ints .i64 w v zs) : Calls Try.prog 12 #[v] w fun e w' => e = .returned (.int .i64 (sumP zs)) ∧ w = w' := by
  obtain ⟨a, cap, rfl, hm, _, hc⟩ := hv
  have HC := Lib.hid hc
  unfold maxLen at hm
  clear hc
  go_enter Try.func12, Try.ntmps12
  go_wp2_with fail
  go_loopg [3, 8] zs.length (fun r s vi wr => ∃ (k : Nat) (S : Int), k ≤ zs.length ∧ r = zs.length - k ∧ vi = .int .i64 k ∧ s = .int .i64 S ∧ wr = w ∧ Hid (S = (zs.take k).foldl (fun x n => wrap64 (x + n)) 0))
  case atStart => exact ⟨0, 0, by omega, by omega, rfl, rfl, rfl, Lib.hid (by simp)⟩
  case round =>
    obtain ⟨k, S, hk, hr, rfl, rfl, rfl, hh⟩ := hrel
    have HR := Lib.hid hr
    clear hr
    by_cases hlt : k < zs.length
    · obtain ⟨b, off, hp, g⟩ := HC.out k hlt
      subst hp
      have HN : Hid (wrap64 (S + nth zs k) = (zs.take (k + 1)).foldl (fun x n => wrap64 (x + n)) 0) := Lib.hid (by rw [foldl_take _ _ _ _ hlt, ← hh.out, nth_eq hlt])
      obtain ⟨S2, hS2⟩ : ∃ S2, wrap64 (S + nth zs k) = S2 := ⟨_, rfl⟩
      rw [hS2] at HN
      generalize nth zs k = z at *
      clear hh
      go_wp2_with fail
      go_roundg (zs.length - (k + 1))
      case measure => rw [HR.out]; omega
      case rel => exact ⟨k + 1, S2, by omega, rfl, by first | rfl | simp, by first | rfl | rw [hS2], rfl, HN⟩
    · obtain rfl : k = zs.length := by omega
      have HF : Hid (S = sumP zs) := Lib.hid (by rw [hh.out, List.take_length]; rfl)
      go_wp2_with fail
      go_ret
      exact ⟨by rw [← HF.out]; rfl, rfl⟩
set_option maxHeartbeats 1000000 in
theorem rsum_any (v : Value) (zs : List Int) (w : World) (hv : Ints .i64 w v zs) : Calls Try.prog 13 #[v] w fun e w' => e = .returned (.int .i64 (sumP zs)) ∧ w = w' := by
  obtain ⟨a, cap, rfl, hm, _, hc⟩ := hv
  have HC := Lib.hid hc
  unfold maxLen at hm
  clear hc
  go_enter Try.func13, Try.ntmps13
  go_wp2_with fail
  go_loopg [3, 4] zs.length (fun r s vi wr => ∃ (k : Nat) (S : Int), k ≤ zs.length ∧ r = zs.length - k ∧ vi = .int .i64 k ∧ s = .int .u64 S ∧ wr = w ∧ Hid (S = (zs.take k).foldl (fun x n => (x + n % 18446744073709551616) % 18446744073709551616) 0))
  case atStart => exact ⟨0, 0, by omega, by omega, rfl, rfl, rfl, Lib.hid (by simp)⟩
  case round =>
    obtain ⟨k, S, hk, hr, rfl, rfl, rfl, hh⟩ := hrel
    have HR := Lib.hid hr
    clear hr
    by_cases hlt : k < zs.length
    · obtain ⟨b, off, hp, g⟩ := HC.out k hlt
      subst hp
      obtain ⟨zu, hzu⟩ : ∃ zu, IntKind.u64.wrap (nth zs k) = zu := ⟨_, rfl⟩
      obtain ⟨S2, hS2⟩ : ∃ S2, IntKind.u64.wrap (S + zu) = S2 := ⟨_, rfl⟩
      have HN : Hid (S2 = (zs.take (k + 1)).foldl (fun x n => (x + n % 18446744073709551616) % 18446744073709551616) 0) := Lib.hid (by
        rw [foldl_take _ _ _ _ hlt, ← hh.out, ← nth_eq hlt, ← hS2, ← hzu, IntKind.wrap_u64, IntKind.wrap_u64])
      generalize nth zs k = z at *
      clear hh
      go_wp2_with fail
      go_roundg (zs.length - (k + 1))
      case measure => rw [HR.out]; omega
      case rel => exact ⟨k + 1, S2, by omega, rfl, by first | rfl | simp, rfl, rfl, HN⟩
    · obtain rfl : k = zs.length := by omega
      have HF : Hid (wrap64 S = sumP zs) := Lib.hid (by rw [hh.out, List.take_length]; exact sum_eq zs)
      obtain ⟨S3, hS3⟩ : ∃ S3, wrap64 S = S3 := ⟨_, rfl⟩
      rw [hS3] at HF
      clear hh
      go_wp2_with fail
      go_ret
      exact ⟨by rw [← HF.out]; first | rfl | rw [← hS3]; rfl, rfl⟩
set_option maxHeartbeats 4000000 in
theorem entry_any (v : Value) (rs : List (Int × List Int)) (i base step : Int) (w : World) (hv : Tabs w v rs) (hi1 : i ≤ 9223372036854775807) (hO : ∀ k, k < rs.length → (rO rs k).length ≤ 17592186044416) : Calls Try.prog 10 #[.int .i64 i, .int .i64 base, .int .i64 step, v] w fun e w' => e = .returned (.int .i64 (entV i base step rs)) ∧ Below w.heap.size w w' := by
  obtain ⟨a, cap, rfl, hm, _, hc⟩ := hv
  have HC := Lib.hid hc
  unfold maxLen at hm
  clear hc
  by_cases hneg : i < 0
  · have HE : Hid (entV i base step rs = 0) := Lib.hid (by unfold entV; rw [if_pos hneg])
    go_enter Try.func10, Try.ntmps10
    go_wp2_with fail
    go_ret
    exact ⟨by rw [HE.out]; rfl, Below.refl _ _⟩
  · obtain ⟨I, rfl⟩ : ∃ I : Nat, i = I := ⟨i.toNat, by omega⟩
    obtain ⟨s1, hs1⟩ : ∃ s1, wrap64 (step * (I : Int)) = s1 := ⟨_, rfl⟩
    obtain ⟨x0, hx0⟩ : ∃ x0, wrap64 (base + s1) = x0 := ⟨_, rfl⟩
    have HE : Hid (entV I base step rs = rs.foldl (addP I) x0) := Lib.hid (by
      unfold entV entP
      rw [if_neg hneg, ← hx0, ← hs1]
      rfl)
    go_enter Try.func10, Try.ntmps10
    go_wp2_with fail
    go_loopg [9, 21] rs.length (fun r s vi wr => ∃ (k : Nat) (X : Int), k ≤ rs.length ∧ r = rs.length - k ∧ vi = .int .i64 k ∧ s = .int .i64 X ∧ Hid (X = (rs.take k).foldl (addP I) x0 ∧ Below w.heap.size w wr))
    case atStart => exact ⟨0, x0, by omega, by omega, rfl, rfl, Lib.hid ⟨by simp, Below.refl _ _⟩⟩
    case round =>
      obtain ⟨k, X, hk, hr, rfl, rfl, hh⟩ := hrel
      have HR := Lib.hid hr
      clear hr
      by_cases hlt : k < rs.length
      · obtain ⟨b, off, u, hp, g0, g1, g2⟩ := HC.out k hlt
        subst hp
        have hbz : b < w.heap.size := World.block_lt_of_cell? w _ g0
        have HB := Lib.hid hh.out.2
        have HI := Lib.hid (g2.below HB.out)
        have d0 : wr.cell? ⟨b, off + k * 2, none⟩ = some (.int .i64 (rF rs k)) := (HB.out.cell (p := ⟨b, off + k * 2, none⟩) hbz).trans g0
        have d1 : wr.cell? ⟨b, off + k * 2 + 1, none⟩ = some u := (HB.out.cell (p := ⟨b, off + k * 2 + 1, none⟩) hbz).trans g1
        clear g0 g1 g2
        obtain ⟨a', cap', rfl, hm', _, hc'⟩ := HI.out
        have HC' := Lib.hid hc'
        have HD0 := Lib.hid d0
        have HD1 := Lib.hid d1
        unfold maxLen at hm'
        have HX : Hid (X = (rs.take k).foldl (addP I) x0) := Lib.hid hh.out.1
        have hO' := hO k hlt
        clear hc' HI hh
        by_cases hz : 0 < (rO rs k).length
        · have hj : I % (rO rs k).length < (rO rs k).length := Nat.mod_lt _ hz
          obtain ⟨j, hjj⟩ : ∃ j, I % (rO rs k).length = j := ⟨_, rfl⟩
          rw [hjj] at hj
          obtain ⟨b2, off2, hp2, g3⟩ := HC'.out j hj
          subst hp2
          have hj2 : (I : Int) % ((rO rs k).length : Int) = (j : Int) := by rw [← hjj]; exact (Int.natCast_emod _ _).symm
          have hj3 : (I : Int).tmod ((rO rs k).length : Int) = (j : Int) := by rw [Int.tmod_eq_emod_of_nonneg (by omega)]; exact hj2
          obtain ⟨m, hm1⟩ : ∃ m, wrap64 (rF rs k * nth (rO rs k) j) = m := ⟨_, rfl⟩
          obtain ⟨X2, hX2⟩ : ∃ X2, wrap64 (X + m) = X2 := ⟨_, rfl⟩
          have HN : Hid (X2 = (rs.take (k + 1)).foldl (addP I) x0) := Lib.hid (by
            rw [foldl_take _ _ _ _ hlt, ← HX.out, r_at hlt]
            unfold addP
            rw [if_neg (by dsimp only; omega), ← hX2, ← hm1, ← hjj])
          generalize hL : (rO rs k).length = L at *
          have hb2 : b2 < wr.heap.size := World.block_lt_of_cell? wr _ g3
          generalize hz1 : nth (rO rs k) j = z at *
          go_wp2_with fail
          obtain ⟨W1, hW⟩ : ∃ W1, wr.alloc (.cells #[.int .i64 (rF rs k), .slice (some ⟨b2, off2, none⟩) L cap'] 30) = W1 := ⟨_, rfl⟩
          have HB1 : Below w.heap.size w W1 := by rw [← hW]; exact HB.out.alloc HB.out.size _
          have c0 : W1.cell? ⟨wr.heap.size, 0, none⟩ = some (.int .i64 (rF rs k)) := by rw [← hW]; unfold World.cell?; rw [heap_alloc_new]; rfl
          have c1 : W1.cell? ⟨wr.heap.size, 1, none⟩ = some (.slice (some ⟨b2, off2, none⟩) L cap') := by rw [← hW]; unfold World.cell?; rw [heap_alloc_new]; rfl
          have c2 : W1.cell? ⟨b2, off2 + j, none⟩ = some (.int .i64 z) := by
            rw [← hW, ← g3]
            exact World.cell?_of_block (Below.heap_alloc wr _ _ hb2)
          rw [hW]
          clear hW
          go_quiet (fail)
          go_wp2_with fail
          go_roundg (rs.length - (k + 1))
          case measure => rw [HR.out]; omega
          case rel => exact ⟨k + 1, X2, by omega, rfl, by first | rfl | simp, by first | rfl | rw [hX2], Lib.hid ⟨HN.out, below_drewN HB1 _⟩⟩
        · have HN : Hid (X = (rs.take (k + 1)).foldl (addP I) x0) := Lib.hid (by
            rw [foldl_take _ _ _ _ hlt, ← HX.out, r_at hlt]
            unfold addP
            rw [if_pos (by dsimp only; omega)])
          go_wp2_with fail
          go_roundg (rs.length - (k + 1))
          case measure => rw [HR.out]; omega
          case rel => exact ⟨k + 1, X, by omega, rfl, by first | rfl | simp, rfl, Lib.hid ⟨HN.out, HB.out.alloc HB.out.size _⟩⟩
      · obtain rfl : k = rs.length := by omega
        have HF : Hid (X = rs.foldl (addP I) x0 ∧ Below w.heap.size w wr) := Lib.hid ⟨by rw [hh.out.1, List.take_length], hh.out.2⟩
        go_wp2_with fail
        go_ret
        exact ⟨by rw [HE.out, ← HF.out.1]; rfl, HF.out.2⟩
end Go.Proofs.Ytpafbnmncioppaa
