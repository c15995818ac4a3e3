/- The walk of CrystalNearest: no entry is nearer than the one that Near tells, and none ahead of it as near. -/
import Derived.Test.YtmlabnbbpmmonaaDoorCrystalA
import Derived.OpenShut
open Go.ChangeShapes
namespace Go.Proofs.YtmlabnbbpmmonaaDoor
open Go.RowKit
namespace nearest
theorem dist_if (v : Int) (k : Nat) : (if tab k - v < v - tab k then v - tab k else tab k - v) = max (v - tab k) (tab k - v) := by omega
def dist (v : Int) (k : Nat) : Int := max (v - tab k) (tab k - v)
/-- After n rounds the place found is nearest of the first n, and ahead of those as near. -/
theorem least (v : Int) : ∀ n, n ≤ 32 → 0 < n → nearTo v n < n ∧ ∀ i, i < n → dist v (nearTo v n) ≤ dist v i ∧ (dist v i = dist v (nearTo v n) → nearTo v n ≤ i)
  | 0, _, h => by omega
  | 1, _, _ => by
    have : nearTo v 1 = 0 := by simp [nearTo]
    rw [this]
    refine ⟨by omega, fun i hi => ?_⟩
    obtain rfl : i = 0 := by omega
    exact ⟨Int.le_refl _, fun _ => Nat.le_refl _⟩
  | n + 2, hn, _ => by
    obtain ⟨h1, h2⟩ := least v (n + 1) (by omega) (by omega)
    have hs : nearTo v (n + 2) = if dist v (n + 1) < dist v (nearTo v (n + 1)) then n + 1 else nearTo v (n + 1) := rfl
    generalize nearTo v (n + 1) = a at *
    rw [hs]
    split
    · rename_i hc
      refine ⟨by omega, fun i hi => ?_⟩
      by_cases e : i = n + 1
      · subst e; exact ⟨Int.le_refl _, fun _ => Nat.le_refl _⟩
      · have := (h2 i (by omega)).1
        exact ⟨by omega, fun e => by omega⟩
    · rename_i hc
      refine ⟨by omega, fun i hi => ?_⟩
      by_cases e : i = n + 1
      · subst e; exact ⟨by omega, fun e => by omega⟩
      · exact h2 i (by omega)
end nearest
open nearest

set_option maxHeartbeats 2000000 in
set_option maxRecDepth 100000 in
theorem crystalNearest_walk (v : Int) (W : World) (wf : (Lit.int .i64 v).wf = true) (_ : W.ShapedOpen Tryd.prog) (hT : Tab W) :
    Calls Tryd.prog 7 #[.int .i64 v] W fun e w' => e = .returned (.bool true) ∧ Below W.heap.size W w' := by
  have hpos := hT.pos
  have hv : v ≤ 9223372036854775807 := (bounds_i64 wf).2
  clear wf
  by_cases hn : v < 0
  · go_enter Tryd.func7, Tryd.ntmps7
    go_wp2_with fail
    refine (awake_any W hT).mono ?_
    rintro e w' ⟨rfl, rfl⟩
    go_wp2_with fail
    refine (near_arg v W hn).mono ?_
    rintro e w' ⟨rfl, hb⟩
    have HB := Lib.hid hb
    clear hb
    go_wp2_with fail
    go_ret
    exact ⟨rfl, HB.out⟩
  · have hv0 : 0 ≤ v := by omega
    clear hn
    have L := Lib.hid (least v 32 (by omega) (by omega))
    have hm : nearTo v 32 < 32 := L.out.1
    obtain ⟨tb0, tb1⟩ := tab_bd _ hm
    have HN := Lib.hid (near_ok v W hT hpos hv0 hv)
    generalize hmm : nearTo v 32 = m at *
    clear hmm
    have d1 : decide ((m : Int) < 0) = false := by simp
    have d2 : decide (31 < (m : Int)) = false := by simp; omega
    have d3 : decide (v < 0) = false := by simp; omega
    go_enter Tryd.func7, Tryd.ntmps7
    go_wp2_with fail
    refine (awake_any W hT).mono ?_
    rintro e w' ⟨rfl, rfl⟩
    go_wp2_with fail
    refine HN.out.mono ?_
    rintro e w1 ⟨rfl, hb⟩
    have hT1 := hT.grown hb
    have HB := Lib.hid hb
    clear hb
    go_wp2_with fail
    refine (table_any w1 hT1).mono ?_
    rintro e w' ⟨rfl, rfl⟩
    go_wp2_with (refine wpList_store_row rfl 30 _ _ rfl _ tabV rfl rfl 30 _ (heap_alloc2_new _ _ _) cellsArr rfl tabV_all ?_; rw [setRow_alloc2])
    have hb2 : Hid (Below W.heap.size W ((w1.alloc (.cells tabV 30)).alloc (.cells tabV 30))) :=
      (HB.out.alloc HB.out.size _).alloc (by have := HB.out.size; rw [size_alloc]; omega) _
    have C : Hid (∀ k, k < 32 → ((w1.alloc (.cells tabV 30)).alloc (.cells tabV 30)).cell? ⟨w1.heap.size + 1, k, none⟩ = some (.int .i64 (tab k))) := by
      intro k hk
      rw [cell_of_row _ _ _ _ _ _ (heap_alloc2_new w1 _ _)]
      exact tabV_at k hk
    generalize (w1.alloc (.cells tabV 30)).alloc (.cells tabV 30) = w2 at *
    have c0 := C.out m hm
    have L' : Hid (∀ i, i < 32 → dist v m ≤ dist v i ∧ (dist v i = dist v m → m ≤ i)) := L.out.2
    clear L HN d3
    have em : (if tab m - v < v - tab m then v - tab m else tab m - v) = dist v m := dist_if v m
    go_quiet (fail)
    clear em c0
    go_wp2
    go_loopw [7, 8] (fun i _ wr => ∃ k n : Nat, k ≤ 32 ∧ i = .int .i64 k ∧ wr = w2.drewN n) (fun i _ _ => 32 - (intOf i).toNat)
    case atStart => exact ⟨0, _, by omega, rfl, rfl⟩
    case round =>
      obtain ⟨k, n, hk, rfl, rfl⟩ := hrel
      by_cases hlt : k < 32
      · have ck := C.out k hlt
        obtain ⟨kb0, kb1⟩ := tab_bd k hlt
        obtain ⟨l1, l2⟩ := L'.out k hlt
        by_cases e : dist v k = dist v m
        · have ek : (if tab k - v < v - tab k then v - tab k else tab k - v) = dist v m := (dist_if v k).trans e
          have n3 : m ≤ k := l2 e
          clear l1 l2 e
          go_wp2
          go_quiet (fail)
          go_wp2
          go_roundw
          case rel => exact ⟨k + 1, _, by omega, by go_num, rfl⟩
          case measure => simp [intOf]; omega
        · have ek : (if tab k - v < v - tab k then v - tab k else tab k - v) = dist v k := dist_if v k
          have n1 : dist v m < dist v k := by omega
          clear l1 l2 e
          go_wp2
          go_quiet (fail)
          go_wp2
          go_roundw
          case rel => exact ⟨k + 1, _, by omega, by go_num, rfl⟩
          case measure => simp [intOf]; omega
      · obtain rfl : k = 32 := by omega
        go_wp2
        go_ret
        exact ⟨rfl, below_drewN hb2.out n⟩
end Go.Proofs.YtmlabnbbpmmonaaDoor
