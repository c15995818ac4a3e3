/- The library's stable sort at elements of one cell, whatever the test 'cmp' lays: swapRange, rotate, symMerge, stable. Printed by tools/genstab.py. -/
import Derived.Test.YtdhlmflbefnekaaDoorStabB
import Derived.Test.YtdhlmflbefnekaaDoorProg
import Derived.Test.YtdhlmflbefnekaaDoorBase
import Derived.Shelf.SlSortCmp.Kit1
import Derived.Deep.LoopGhost
import Derived.KernelRfl
import Derived.Lib.Hide
namespace Go.Proofs.YtdhlmflbefnekaaDoor
namespace Stb
open Go.Shelf Go.RowKit Go.Lib Go.Sort
variable {α : Type} [Inhabited α]
set_option maxHeartbeats 4000000 in
set_option maxRecDepth 1000000 in
theorem swapRange_s (enc : α → Value) (fv : Value) (blk off cap a b n : Nat) (d0 d : Array α) (w0 w : World)
    (R : Row1 enc w0 blk off d0) (hs : d0.size = d.size) (S : SW enc w0 blk off d w) (hab : a + n ≤ b) (hb : b + n ≤ d.size) (hsz : d.size < 4611686018427387904) :
    Calls Tryd.prog 53 #[.slice (some ⟨blk, off, none⟩) d.size cap, .int .i64 a, .int .i64 b, .int .i64 n, fv] w fun e w' => e = .returned (.tuple #[]) ∧ ∃ d', SwR d d' a b n ∧ PermIn a (b + n) d d' ∧ SW enc w0 blk off d' w' := by
  have mixed : Tryd.prog.follows .mixedOrders = true := by kernel_rfl
  have hcl0 := R.hO.cells
  simp only [Value.cells] at hcl0
  have hst := R.hO.store Tryd.prog
  have S0 : Aside (SW enc w0 blk off d w) := S
  clear S
  go_enter Tryd.func53, Tryd.ntmps53
  go_wp2
  go_loopg [10] n (fun kx vi wr => ∃ (i : Nat) (dk : Array α), vi = .int .i64 i ∧ i ≤ n ∧ n - i ≤ kx ∧ dk.size = d.size ∧ Aside (SW enc w0 blk off dk wr) ∧ Hid (SwR d dk a b i ∧ PermIn a (b + n) d dk))
  case atStart => exact ⟨0, d, rfl, by omega, by omega, rfl, S0, Lib.hid ⟨SwR.start d a b, permIn_refl d _ _⟩⟩
  case round =>
    clear S0
    obtain ⟨i, dk, rfl, hin, hkx, hds, S1, HP⟩ := hrel
    by_cases hlt : i < n
    · have hltz : (i : Int) < (n : Int) := by omega
      go_wp2_with fail
      obtain ⟨iN1, hiN1⟩ : ∃ q, q = a + i := ⟨_, rfl⟩
      obtain ⟨jN1, hjN1⟩ : ∃ q, q = b + i := ⟨_, rfl⟩
      have ea1 : ((a : Int) + (i : Int)).toNat = iN1 := by omega
      have pa1 : (0 : Int) ≤ (a : Int) + (i : Int) := by omega
      have ba1 : (a : Int) + (i : Int) < (d.size : Int) := by omega
      have ra1 : IntKind.i64.wrap ((a : Int) + (i : Int)) = (a : Int) + (i : Int) := by rw [IntKind.wrap_i64]; omega
      have ec1 : ((b : Int) + (i : Int)).toNat = jN1 := by omega
      have pc1 : (0 : Int) ≤ (b : Int) + (i : Int) := by omega
      have bc1 : (b : Int) + (i : Int) < (d.size : Int) := by omega
      have rc1 : IntKind.i64.wrap ((b : Int) + (i : Int)) = (b : Int) + (i : Int) := by rw [IntKind.wrap_i64]; omega
      obtain ⟨x1, hx1⟩ : ∃ x, x = dk[a + i]! := ⟨_, rfl⟩
      obtain ⟨y1, hy1⟩ : ∃ x, x = dk[b + i]! := ⟨_, rfl⟩
      have S2 : Aside (SW enc w0 blk off (swp dk (a + i) (b + i)) ((wr.setCell ⟨blk, off + iN1, none⟩ (enc y1)).setCell ⟨blk, off + jN1, none⟩ (enc x1)).drew) := by rw [hiN1, hjN1, hx1, hy1]; exact S1.out.swapped R (a + i) (b + i) (by omega) (by omega)
      have c1a := S1.out.c1 R (by omega) (a + i) (by omega)
      have c1b := S1.out.c1 R (by omega) (b + i) (by omega)
      have f1a := S1.out.f1 R (by omega) (a + i) (by omega)
      have f1b := S1.out.f1 R (by omega) (b + i) (by omega)
      obtain ⟨u1, c1c⟩ := S1.out.c2 R (by omega) (a + i) (b + i) (by omega) (by omega) (enc y1)
      rw [← hjN1, ← hiN1] at c1c
      rw [← hx1, ← hiN1] at c1a
      rw [← hy1, ← hjN1] at c1b
      rw [← hiN1] at f1a
      rw [← hjN1] at f1b
      clear S1 hx1 hy1 hiN1 hjN1
      go_wp2_with fail
      go_big_region_o
      clear c1a c1b c1c f1a f1b
      generalize ((wr.setCell ⟨blk, off + iN1, none⟩ (enc y1)).setCell ⟨blk, off + jN1, none⟩ (enc x1)).drew = w2 at S2 ⊢
      clear ea1 ec1
      go_wp2
      go_roundg (n - (i + 1))
      case measure => omega
      case rel => exact ⟨i + 1, swp dk (a + i) (b + i), by simp, by omega, by omega, by rw [size_swp]; exact hds, S2, Lib.hid ⟨HP.out.1.step hlt hab hb, permIn_trans _ _ _ _ _ HP.out.2 (swp_permIn dk a (b + n) (a + i) (b + i) (by omega) (by omega) (by omega) (by omega) (by omega))⟩⟩
    · obtain rfl : i = n := by omega
      go_wp2
      go_end0
      exact ⟨rfl, dk, HP.out.1, HP.out.2, S1.out⟩
set_option maxHeartbeats 4000000 in
set_option maxRecDepth 1000000 in
theorem rotate_s (enc : α → Value) (fv : Value) (blk off cap a m b : Nat) (d0 d : Array α) (w0 w : World)
    (R : Row1 enc w0 blk off d0) (hs : d0.size = d.size) (S : SW enc w0 blk off d w) (ham : a < m) (hmb : m < b) (hb : b ≤ d.size) (hsz : d.size < 4611686018427387904) :
    Calls Tryd.prog 51 #[.slice (some ⟨blk, off, none⟩) d.size cap, .int .i64 a, .int .i64 m, .int .i64 b, fv] w fun e w' => e = .returned (.tuple #[]) ∧ ∃ d', Rot d d' a m b ∧ PermIn a b d d' ∧ SW enc w0 blk off d' w' := by
  obtain ⟨E, hE⟩ := Rot.ex d a m b (by omega) (by omega) hb
  have S0 : Aside (SW enc w0 blk off d w) := S
  have HE : Hid (Rot d E a m b) := Lib.hid hE
  clear S hE
  have i0 : (m : Int) - (a : Int) = ((m - a : Nat) : Int) := by omega
  have j0 : (b : Int) - (m : Int) = ((b - m : Nat) : Int) := by omega
  have hst0 : Hid (Rot d E (m - (m - a)) m (m + (b - m))) := Lib.hid (by rw [show m - (m - a) = a by omega, show m + (b - m) = b by omega]; exact HE.out)
  go_enter Tryd.func51, Tryd.ntmps51
  go_wp2
  go_loopg [10, 11] (b - a) (fun kx vi vj wr => ∃ (i j : Nat) (dk : Array α), vi = .int .i64 i ∧ vj = .int .i64 j ∧ 1 ≤ i ∧ 1 ≤ j ∧ a + i ≤ m ∧ m + j ≤ b ∧ i + j ≤ kx ∧ dk.size = d.size ∧ Aside (SW enc w0 blk off dk wr) ∧ Hid (Rot dk E (m - i) m (m + j) ∧ PermIn a b d dk))
  case atStart => exact ⟨m - a, b - m, d, rfl, rfl, by omega, by omega, by omega, by omega, by omega, rfl, S0, Lib.hid ⟨hst0.out, permIn_refl d _ _⟩⟩
  case round =>
    clear S0 hst0 i0 j0
    obtain ⟨i, j, dk, rfl, rfl, hi1, hj1, hi, hj, hkx, hds, S1, HP⟩ := hrel
    have ei : (m : Int) - (i : Int) = ((m - i : Nat) : Int) := by omega
    by_cases hij : j < i
    · have hijz : (j : Int) < (i : Int) := by omega
      have ej : (i : Int) - (j : Int) = ((i - j : Nat) : Int) := by omega
      have hne : (i : Int) ≠ (j : Int) := by omega
      have hcall := swapRange_s enc fv blk off cap (m - i) m j d0 dk w0 wr R (by omega) S1.out (by omega) (by omega) (by omega)
      rw [hds] at hcall
      clear S1
      go_wp2_with fail
      refine hcall.mono ?_
      rintro e w1 ⟨rfl, d1, h1, h2, h3⟩
      have S2 : Aside (SW enc w0 blk off d1 w1) := h3
      have hsz1 : d1.size = d.size := by rw [h1.1]; exact hds
      have HQ : Hid (Rot d1 E (m - (i - j)) m (m + j) ∧ PermIn a b d d1) := Lib.hid ⟨HP.out.1.left h1 hij (by omega), permIn_trans _ _ _ _ _ HP.out.2 (permIn_mono _ _ _ _ _ _ (by omega) (by omega) (by omega) h2)⟩
      clear hcall h1 h2 h3 HP
      go_wp2
      go_roundg (i - j + j)
      case measure => omega
      case rel => exact ⟨i - j, j, d1, by first | rfl | (rw [ej]), rfl, by omega, by omega, by omega, by omega, by omega, hsz1, S2, HQ⟩
    · by_cases hji : i < j
      · have hijz : ¬ (j : Int) < (i : Int) := by omega
        have ej : (j : Int) - (i : Int) = ((j - i : Nat) : Int) := by omega
        have hne : (i : Int) ≠ (j : Int) := by omega
        have em : (m : Int) + (j : Int) - (i : Int) = ((m + j - i : Nat) : Int) := by omega
        have hcall := swapRange_s enc fv blk off cap (m - i) (m + j - i) i d0 dk w0 wr R (by omega) S1.out (by omega) (by omega) (by omega)
        rw [hds] at hcall
        clear S1
        go_wp2_with fail
        refine hcall.mono ?_
        rintro e w1 ⟨rfl, d1, h1, h2, h3⟩
        have S2 : Aside (SW enc w0 blk off d1 w1) := h3
        have hsz1 : d1.size = d.size := by rw [h1.1]; exact hds
        have HQ : Hid (Rot d1 E (m - i) m (m + (j - i)) ∧ PermIn a b d d1) := Lib.hid ⟨HP.out.1.right h1 hji (by omega), permIn_trans _ _ _ _ _ HP.out.2 (permIn_mono _ _ _ _ _ _ (by omega) (by omega) (by omega) h2)⟩
        clear hcall h1 h2 h3 HP
        go_wp2
        go_roundg (i + (j - i))
        case measure => omega
        case rel => exact ⟨i, j - i, d1, rfl, by first | rfl | (rw [ej]), by omega, by omega, by omega, by omega, by omega, hsz1, S2, HQ⟩
      · obtain rfl : i = j := by omega
        have hcall := swapRange_s enc fv blk off cap (m - i) m i d0 dk w0 wr R (by omega) S1.out (by omega) (by omega) (by omega)
        rw [hds] at hcall
        clear S1
        go_wp2_with fail
        refine hcall.mono ?_
        rintro e w1 ⟨rfl, d1, h1, h2, h3⟩
        have HQ : Hid (d1 = E ∧ PermIn a b d d1) := Lib.hid ⟨HP.out.1.last h1 (by omega), permIn_trans _ _ _ _ _ HP.out.2 (permIn_mono _ _ _ _ _ _ (by omega) (by omega) (by omega) h2)⟩
        have S2 : Aside (SW enc w0 blk off d1 w1) := h3
        clear hcall h1 h2 h3 HP
        go_wp2
        go_end0
        exact ⟨rfl, d1, by rw [HQ.out.1]; exact HE.out, HQ.out.2, S2.out⟩
end Stb
end Go.Proofs.YtdhlmflbefnekaaDoor
