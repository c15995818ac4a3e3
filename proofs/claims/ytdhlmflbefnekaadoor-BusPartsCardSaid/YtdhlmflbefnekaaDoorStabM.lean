/- The library's stable sort at elements of one cell, whatever the test 'cmp' lays: swapRange, rotate, symMerge, stable. Printed by tools/genstab.py. -/
import Derived.Test.YtdhlmflbefnekaaDoorStabC
import Derived.Test.YtdhlmflbefnekaaDoorStabS
import Derived.Test.YtdhlmflbefnekaaDoorBase
import Derived.Shelf.SlSortCmp.Kit1
import Derived.Deep.LoopGhost
import Derived.KernelRfl
import Derived.Lib.Hide
namespace Go.Proofs.YtdhlmflbefnekaaDoor
namespace Stb
open Go.Shelf Go.RowKit Go.Lib Go.Sort
variable {α : Type} [Inhabited α]
/-- What is asked of a merge, whatever its size up to N. -/
def Merges (enc : α → Value) (cf : α → α → Int) (lt : α → α → Bool) (g : Nat) (cb : Array Value) (blk off cap : Nat) (d0 : Array α) (w0 : World) (N : Nat) : Prop :=
  ∀ (a m b : Nat) (d : Array α) (w : World), b - a ≤ N → d0.size = d.size → SW enc w0 blk off d w → a < m → m < b → b ≤ d.size → Halves (ltOf cf) lt a m b d →
    Calls Tryd.prog 48 #[.slice (some ⟨blk, off, none⟩) d.size cap, .int .i64 a, .int .i64 m, .int .i64 b, .func (.func g) #[] cb] w fun e w' => e = .returned (.tuple #[]) ∧ ∃ d', PermIn a b d d' ∧ SortedIn lt a b d' ∧ SW enc w0 blk off d' w'
theorem half_val (i j : Nat) (h : i + j < 9223372036854775808) : RowKit.wrap64 (IntKind.u64.wrap ((i + j : Nat) : Int) / 2) = (((i + j) / 2 : Nat) : Int) := by
  rw [IntKind.wrap_u64]
  unfold RowKit.wrap64
  omega
set_option maxHeartbeats 8000000 in
set_option maxRecDepth 1000000 in
theorem sym_one (enc : α → Value) (cf : α → α → Int) (lt : α → α → Bool) (hS : SWO lt) (g : Nat) (cb : Array Value) (blk off cap a m b : Nat) (d0 d : Array α) (w0 w : World)
    (eg : ∀ args w, (callFunc g args).run Tryd.prog w = .ok (.enter g args) w) (hcmp : CmpLays1 Tryd.prog g cb enc cf blk off d0.size w0) (R : Row1 enc w0 blk off d0) (hs : d0.size = d.size) (S : SW enc w0 blk off d w) (hm1 : a + 1 ≤ m) (hm2 : m ≤ a + 1) (hab : m < b) (hb : b ≤ d.size) (hsz : d.size < 4611686018427387904) (H : Halves (ltOf cf) lt a m b d) :
    Calls Tryd.prog 48 #[.slice (some ⟨blk, off, none⟩) d.size cap, .int .i64 a, .int .i64 m, .int .i64 b, .func (.func g) #[] cb] w fun e w' => e = .returned (.tuple #[]) ∧ ∃ d', PermIn a b d d' ∧ SortedIn lt a b d' ∧ SW enc w0 blk off d' w' := by
  have mixed : Tryd.prog.follows .mixedOrders = true := by kernel_rfl
  have hcl0 := R.hO.cells
  simp only [Value.cells] at hcl0
  have hst := R.hO.store Tryd.prog
  have S0 : Aside (SW enc w0 blk off d w) := S
  clear S
  have HC : Aside _ := hcmp
  have HH : Hid _ := Lib.hid H
  have HD : Hid _ := Lib.hid (down1 hS H d[a]!)
  have HS : Hid _ := Lib.hid hS
  clear hcmp H hS
  have em1 : (m : Int) - (a : Int) = 1 := by omega
  go_enter Tryd.func48, Tryd.ntmps48
  go_wp2
  go_loopg [10, 11] (b - m) (fun kx vi vj wr => ∃ (i j : Nat), vi = .int .i64 i ∧ vj = .int .i64 j ∧ m ≤ i ∧ i ≤ j ∧ j ≤ b ∧ j - i ≤ kx ∧ Aside (SW enc w0 blk off d wr) ∧ Hid (Cut (fun t => lt d[t]! d[a]!) m i j b))
  case atStart => exact ⟨m, b, rfl, rfl, by omega, by omega, by omega, by omega, S0, Lib.hid (Cut.start _ _ _)⟩
  case round =>
    clear S0
    obtain ⟨i, j, rfl, rfl, hi1, hij, hjb, hkx, S1, HP⟩ := hrel
    by_cases hlt : i < j
    · have hltz : (i : Int) < (j : Int) := by omega
      obtain ⟨smh, hsmh⟩ : ∃ q, q = i + j := ⟨_, rfl⟩
      obtain ⟨h, hh⟩ : ∃ q, q = smh / 2 := ⟨_, rfl⟩
      have adh : (i : Int) + (j : Int) = (smh : Int) := by omega
      have bdh : smh < 9223372036854775808 := by omega
      have hh' : 2 * h ≤ i + j ∧ i + j ≤ 2 * h + 1 := by omega
      have eqh : (smh : Int) / 2 = (h : Int) := by omega
      clear hh hsmh
      have EQ : ltOf cf d[h]! d[a]! = lt d[h]! d[a]! := HH.out.cross a h (Nat.le_refl _) (by omega) (by omega) (by omega)
      cases hlv : lt d[h]! d[a]! with
      | true =>
        have hlc : ltOf cf d[h]! d[a]! = true := EQ.trans hlv
        have HP2 : Hid (Cut (fun t => lt d[t]! d[a]!) m (h + 1) j b) := Lib.hid (HP.out.up HD.out (by omega) hlv)
        clear EQ hlv HP
        go_wp2_with fail
        obtain ⟨iN2, hiN2⟩ : ∃ q, q = h := ⟨_, rfl⟩
        obtain ⟨jN2, hjN2⟩ : ∃ q, q = a := ⟨_, rfl⟩
        have ea2 : ((h : Int)).toNat = iN2 := by omega
        have pa2 : (0 : Int) ≤ (h : Int) := by omega
        have ba2 : (h : Int) < (d.size : Int) := by omega
        have ra2 : IntKind.i64.wrap ((h : Int)) = (h : Int) := by rw [IntKind.wrap_i64]; omega
        have ec2 : ((a : Int)).toNat = jN2 := by omega
        have pc2 : (0 : Int) ≤ (a : Int) := by omega
        have bc2 : (a : Int) < (d.size : Int) := by omega
        have rc2 : IntKind.i64.wrap ((a : Int)) = (a : Int) := by rw [IntKind.wrap_i64]; omega
        obtain ⟨x2, hx2⟩ : ∃ x, x = d[h]! := ⟨_, rfl⟩
        obtain ⟨y2, hy2⟩ : ∃ x, x = d[a]! := ⟨_, rfl⟩
        have l2a := S1.out.cl R (by omega) (h) (by omega)
        have l2b := S1.out.cl R (by omega) (a) (by omega)
        rw [← hx2, ← hiN2] at l2a
        rw [← hy2, ← hjN2] at l2b
        have hc2 := S1.out.cmp HC.out (by omega) x2 y2
        have hv2 : cf x2 y2 < 0 := by rw [hx2, hy2]; exact of_decide_eq_true hlc
        have hd2 : decide (cf x2 y2 < 0) = true := decide_eq_true hv2
        clear hx2 hy2 hiN2 hjN2
        go_wp2_with fail
        go_quiet_grown (first | (go_at_fn g; refine Calls.grown_of (hc2 _ _)))
        have S2 : Aside (SW enc w0 blk off d (grow (wr.drewN nq) osq)) := S1.out.grown nq osq
        clear l2a l2b hc2 S1
        generalize grow (wr.drewN nq) osq = w2 at S2 ⊢
        clear nq osq
        clear ea2 ec2
        go_wp2
        go_roundg (j - (h + 1))
        case measure => omega
        case rel => exact ⟨h + 1, j, by first | rfl | simp, rfl, by omega, by omega, by omega, by omega, S2, HP2⟩
      | false =>
        have hlc : ltOf cf d[h]! d[a]! = false := EQ.trans hlv
        have HP2 : Hid (Cut (fun t => lt d[t]! d[a]!) m i h b) := Lib.hid (HP.out.dn HD.out (by omega) hlv)
        clear EQ hlv HP
        go_wp2_with fail
        obtain ⟨iN3, hiN3⟩ : ∃ q, q = h := ⟨_, rfl⟩
        obtain ⟨jN3, hjN3⟩ : ∃ q, q = a := ⟨_, rfl⟩
        have ea3 : ((h : Int)).toNat = iN3 := by omega
        have pa3 : (0 : Int) ≤ (h : Int) := by omega
        have ba3 : (h : Int) < (d.size : Int) := by omega
        have ra3 : IntKind.i64.wrap ((h : Int)) = (h : Int) := by rw [IntKind.wrap_i64]; omega
        have ec3 : ((a : Int)).toNat = jN3 := by omega
        have pc3 : (0 : Int) ≤ (a : Int) := by omega
        have bc3 : (a : Int) < (d.size : Int) := by omega
        have rc3 : IntKind.i64.wrap ((a : Int)) = (a : Int) := by rw [IntKind.wrap_i64]; omega
        obtain ⟨x3, hx3⟩ : ∃ x, x = d[h]! := ⟨_, rfl⟩
        obtain ⟨y3, hy3⟩ : ∃ x, x = d[a]! := ⟨_, rfl⟩
        have l3a := S1.out.cl R (by omega) (h) (by omega)
        have l3b := S1.out.cl R (by omega) (a) (by omega)
        rw [← hx3, ← hiN3] at l3a
        rw [← hy3, ← hjN3] at l3b
        have hc3 := S1.out.cmp HC.out (by omega) x3 y3
        have hv3 : ¬ cf x3 y3 < 0 := by rw [hx3, hy3]; exact of_decide_eq_false hlc
        have hd3 : decide (cf x3 y3 < 0) = false := decide_eq_false hv3
        clear hx3 hy3 hiN3 hjN3
        go_wp2_with fail
        go_quiet_grown (first | (go_at_fn g; refine Calls.grown_of (hc3 _ _)))
        have S2 : Aside (SW enc w0 blk off d (grow (wr.drewN nq) osq)) := S1.out.grown nq osq
        clear l3a l3b hc3 S1
        generalize grow (wr.drewN nq) osq = w2 at S2 ⊢
        clear nq osq
        clear ea3 ec3
        go_wp2
        go_roundg (h - i)
        case measure => omega
        case rel => exact ⟨i, h, rfl, rfl, by omega, by omega, by omega, by omega, S2, HP2⟩
    · obtain rfl : i = j := by omega
      have HSRT : Hid (∀ e, Rot d e a (a + 1) i → SortedIn lt a b e) := Lib.hid (fun e hE => by
        obtain rfl : m = a + 1 := by omega
        exact one_left HS.out HH.out hE hi1 hjb HP.out.yes HP.out.no)
      clear HP
      go_wp2
      go_loopg [13] (i - 1 - a) (fun kx vk wk => ∃ (k : Nat) (dk : Array α), vk = .int .i64 k ∧ a ≤ k ∧ k ≤ i - 1 ∧ i - 1 - k ≤ kx ∧ dk.size = d.size ∧ Aside (SW enc w0 blk off dk wk) ∧ Hid (Rot d dk a (a + 1) (k + 1) ∧ PermIn a b d dk))
      case atStart => exact ⟨a, d, rfl, by omega, by omega, by omega, rfl, S1, Lib.hid ⟨Rot.none_r d a (a + 1), permIn_refl d _ _⟩⟩
      case round =>
        clear S1
        obtain ⟨k, dk, rfl, hak, hki, hkx2, hds, S1, HR⟩ := hrel
        by_cases hlt2 : k < i - 1
        · have hltz : (k : Int) < (i : Int) - 1 := by omega
          go_wp2_with fail
          obtain ⟨iN4, hiN4⟩ : ∃ q, q = k := ⟨_, rfl⟩
          obtain ⟨jN4, hjN4⟩ : ∃ q, q = k + 1 := ⟨_, rfl⟩
          have ea4 : ((k : Int)).toNat = iN4 := by omega
          have pa4 : (0 : Int) ≤ (k : Int) := by omega
          have ba4 : (k : Int) < (d.size : Int) := by omega
          have ra4 : IntKind.i64.wrap ((k : Int)) = (k : Int) := by rw [IntKind.wrap_i64]; omega
          have ec4 : ((k : Int) + 1).toNat = jN4 := by omega
          have pc4 : (0 : Int) ≤ (k : Int) + 1 := by omega
          have bc4 : (k : Int) + 1 < (d.size : Int) := by omega
          have rc4 : IntKind.i64.wrap ((k : Int) + 1) = (k : Int) + 1 := by rw [IntKind.wrap_i64]; omega
          obtain ⟨x4, hx4⟩ : ∃ x, x = dk[k]! := ⟨_, rfl⟩
          obtain ⟨y4, hy4⟩ : ∃ x, x = dk[k + 1]! := ⟨_, rfl⟩
          have S2 : Aside (SW enc w0 blk off (swp dk (k) (k + 1)) ((wr.setCell ⟨blk, off + iN4, none⟩ (enc y4)).setCell ⟨blk, off + jN4, none⟩ (enc x4)).drew) := by rw [hiN4, hjN4, hx4, hy4]; exact S1.out.swapped R (k) (k + 1) (by omega) (by omega)
          have c4a := S1.out.c1 R (by omega) (k) (by omega)
          have c4b := S1.out.c1 R (by omega) (k + 1) (by omega)
          have f4a := S1.out.f1 R (by omega) (k) (by omega)
          have f4b := S1.out.f1 R (by omega) (k + 1) (by omega)
          obtain ⟨u4, c4c⟩ := S1.out.c2 R (by omega) (k) (k + 1) (by omega) (by omega) (enc y4)
          rw [← hjN4, ← hiN4] at c4c
          rw [← hx4, ← hiN4] at c4a
          rw [← hy4, ← hjN4] at c4b
          rw [← hiN4] at f4a
          rw [← hjN4] at f4b
          clear S1 hx4 hy4 hiN4 hjN4
          go_wp2_with fail
          go_big_region_o
          clear c4a c4b c4c f4a f4b
          generalize ((wr.setCell ⟨blk, off + iN4, none⟩ (enc y4)).setCell ⟨blk, off + jN4, none⟩ (enc x4)).drew = w2 at S2 ⊢
          clear ea4 ec4
          go_wp2
          go_roundg (i - 1 - (k + 1))
          case measure => omega
          case rel => exact ⟨k + 1, swp dk k (k + 1), by first | rfl | simp, by omega, by omega, by omega, by rw [size_swp]; exact hds, S2, Lib.hid ⟨HR.out.1.up hak (by omega), permIn_trans _ _ _ _ _ HR.out.2 (swp_permIn dk a b k (k + 1) (by omega) (by omega) (by omega) (by omega) (by omega))⟩⟩
        · have hnz : ¬ ((k : Int) < (i : Int) - 1) := by omega
          have HF : Hid (PermIn a b d dk ∧ SortedIn lt a b dk) := Lib.hid ⟨HR.out.2, HSRT.out dk (by have := HR.out.1; rwa [show k + 1 = i by omega] at this)⟩
          clear HR HSRT
          go_wp2
          (try simp only [Exit.inBlock, Exit.then])
          refine bodyPost_ret (results_none rfl _ _ _) rfl ?_
          exact ⟨rfl, dk, HF.out.1, HF.out.2, S1.out⟩
set_option maxHeartbeats 8000000 in
set_option maxRecDepth 1000000 in
theorem sym_two (enc : α → Value) (cf : α → α → Int) (lt : α → α → Bool) (hS : SWO lt) (g : Nat) (cb : Array Value) (blk off cap a m b : Nat) (d0 d : Array α) (w0 w : World)
    (eg : ∀ args w, (callFunc g args).run Tryd.prog w = .ok (.enter g args) w) (hcmp : CmpLays1 Tryd.prog g cb enc cf blk off d0.size w0) (R : Row1 enc w0 blk off d0) (hs : d0.size = d.size) (S : SW enc w0 blk off d w) (hm1 : m + 1 ≤ b) (hm2 : b ≤ m + 1) (hab : a + 1 < m) (hb : b ≤ d.size) (hsz : d.size < 4611686018427387904) (H : Halves (ltOf cf) lt a m b d) :
    Calls Tryd.prog 48 #[.slice (some ⟨blk, off, none⟩) d.size cap, .int .i64 a, .int .i64 m, .int .i64 b, .func (.func g) #[] cb] w fun e w' => e = .returned (.tuple #[]) ∧ ∃ d', PermIn a b d d' ∧ SortedIn lt a b d' ∧ SW enc w0 blk off d' w' := by
  have mixed : Tryd.prog.follows .mixedOrders = true := by kernel_rfl
  have hcl0 := R.hO.cells
  simp only [Value.cells] at hcl0
  have hst := R.hO.store Tryd.prog
  have S0 : Aside (SW enc w0 blk off d w) := S
  clear S
  have HC : Aside _ := hcmp
  have HH : Hid _ := Lib.hid H
  have HD : Hid _ := Lib.hid (down2 hS H d[m]!)
  have HS : Hid _ := Lib.hid hS
  clear hcmp H hS
  have em1 : (b : Int) - (m : Int) = 1 := by omega
  obtain ⟨L, hL⟩ : ∃ L, L = m - a := ⟨_, rfl⟩
  have em2 : (m : Int) - (a : Int) = (L : Int) := by omega
  have em3 : ¬ (L : Int) = 1 := by omega
  have em4 : ((L : Int) == 1) = false := beq_eq_false_iff_ne.2 em3
  clear hL
  go_enter Tryd.func48, Tryd.ntmps48
  go_wp2
  go_loopg [14, 15] (m - a) (fun kx vi vj wr => ∃ (i j : Nat), vi = .int .i64 i ∧ vj = .int .i64 j ∧ a ≤ i ∧ i ≤ j ∧ j ≤ m ∧ j - i ≤ kx ∧ Aside (SW enc w0 blk off d wr) ∧ Hid (Cut (fun t => !lt d[m]! d[t]!) a i j m))
  case atStart => exact ⟨a, m, rfl, rfl, by omega, by omega, by omega, by omega, S0, Lib.hid (Cut.start _ _ _)⟩
  case round =>
    clear S0
    obtain ⟨i, j, rfl, rfl, hi1, hij, hjb, hkx, S1, HP⟩ := hrel
    by_cases hlt : i < j
    · have hltz : (i : Int) < (j : Int) := by omega
      obtain ⟨smh, hsmh⟩ : ∃ q, q = i + j := ⟨_, rfl⟩
      obtain ⟨h, hh⟩ : ∃ q, q = smh / 2 := ⟨_, rfl⟩
      have adh : (i : Int) + (j : Int) = (smh : Int) := by omega
      have bdh : smh < 9223372036854775808 := by omega
      have hh' : 2 * h ≤ i + j ∧ i + j ≤ 2 * h + 1 := by omega
      have eqh : (smh : Int) / 2 = (h : Int) := by omega
      clear hh hsmh
      have EQ : ltOf cf d[m]! d[h]! = lt d[m]! d[h]! := HH.out.cross h m (by omega) (by omega) (Nat.le_refl _) (by omega)
      cases hlv : lt d[m]! d[h]! with
      | false =>
        have hlc : ltOf cf d[m]! d[h]! = false := EQ.trans hlv
        have HP2 : Hid (Cut (fun t => !lt d[m]! d[t]!) a (h + 1) j m) := Lib.hid (HP.out.up HD.out (by omega) (by simp only [hlv]; rfl))
        clear EQ hlv HP
        go_wp2_with fail
        obtain ⟨iN5, hiN5⟩ : ∃ q, q = m := ⟨_, rfl⟩
        obtain ⟨jN5, hjN5⟩ : ∃ q, q = h := ⟨_, rfl⟩
        have ea5 : ((m : Int)).toNat = iN5 := by omega
        have pa5 : (0 : Int) ≤ (m : Int) := by omega
        have ba5 : (m : Int) < (d.size : Int) := by omega
        have ra5 : IntKind.i64.wrap ((m : Int)) = (m : Int) := by rw [IntKind.wrap_i64]; omega
        have ec5 : ((h : Int)).toNat = jN5 := by omega
        have pc5 : (0 : Int) ≤ (h : Int) := by omega
        have bc5 : (h : Int) < (d.size : Int) := by omega
        have rc5 : IntKind.i64.wrap ((h : Int)) = (h : Int) := by rw [IntKind.wrap_i64]; omega
        obtain ⟨x5, hx5⟩ : ∃ x, x = d[m]! := ⟨_, rfl⟩
        obtain ⟨y5, hy5⟩ : ∃ x, x = d[h]! := ⟨_, rfl⟩
        have l5a := S1.out.cl R (by omega) (m) (by omega)
        have l5b := S1.out.cl R (by omega) (h) (by omega)
        rw [← hx5, ← hiN5] at l5a
        rw [← hy5, ← hjN5] at l5b
        have hc5 := S1.out.cmp HC.out (by omega) x5 y5
        have hv5 : ¬ cf x5 y5 < 0 := by rw [hx5, hy5]; exact of_decide_eq_false hlc
        have hd5 : decide (cf x5 y5 < 0) = false := decide_eq_false hv5
        clear hx5 hy5 hiN5 hjN5
        go_wp2_with fail
        go_quiet_grown (first | (go_at_fn g; refine Calls.grown_of (hc5 _ _)))
        have S2 : Aside (SW enc w0 blk off d (grow (wr.drewN nq) osq)) := S1.out.grown nq osq
        clear l5a l5b hc5 S1
        generalize grow (wr.drewN nq) osq = w2 at S2 ⊢
        clear nq osq
        clear ea5 ec5
        go_wp2
        go_roundg (j - (h + 1))
        case measure => omega
        case rel => exact ⟨h + 1, j, by first | rfl | simp, rfl, by omega, by omega, by omega, by omega, S2, HP2⟩
      | true =>
        have hlc : ltOf cf d[m]! d[h]! = true := EQ.trans hlv
        have HP2 : Hid (Cut (fun t => !lt d[m]! d[t]!) a i h m) := Lib.hid (HP.out.dn HD.out (by omega) (by simp only [hlv]; rfl))
        clear EQ hlv HP
        go_wp2_with fail
        obtain ⟨iN6, hiN6⟩ : ∃ q, q = m := ⟨_, rfl⟩
        obtain ⟨jN6, hjN6⟩ : ∃ q, q = h := ⟨_, rfl⟩
        have ea6 : ((m : Int)).toNat = iN6 := by omega
        have pa6 : (0 : Int) ≤ (m : Int) := by omega
        have ba6 : (m : Int) < (d.size : Int) := by omega
        have ra6 : IntKind.i64.wrap ((m : Int)) = (m : Int) := by rw [IntKind.wrap_i64]; omega
        have ec6 : ((h : Int)).toNat = jN6 := by omega
        have pc6 : (0 : Int) ≤ (h : Int) := by omega
        have bc6 : (h : Int) < (d.size : Int) := by omega
        have rc6 : IntKind.i64.wrap ((h : Int)) = (h : Int) := by rw [IntKind.wrap_i64]; omega
        obtain ⟨x6, hx6⟩ : ∃ x, x = d[m]! := ⟨_, rfl⟩
        obtain ⟨y6, hy6⟩ : ∃ x, x = d[h]! := ⟨_, rfl⟩
        have l6a := S1.out.cl R (by omega) (m) (by omega)
        have l6b := S1.out.cl R (by omega) (h) (by omega)
        rw [← hx6, ← hiN6] at l6a
        rw [← hy6, ← hjN6] at l6b
        have hc6 := S1.out.cmp HC.out (by omega) x6 y6
        have hv6 : cf x6 y6 < 0 := by rw [hx6, hy6]; exact of_decide_eq_true hlc
        have hd6 : decide (cf x6 y6 < 0) = true := decide_eq_true hv6
        clear hx6 hy6 hiN6 hjN6
        go_wp2_with fail
        go_quiet_grown (first | (go_at_fn g; refine Calls.grown_of (hc6 _ _)))
        have S2 : Aside (SW enc w0 blk off d (grow (wr.drewN nq) osq)) := S1.out.grown nq osq
        clear l6a l6b hc6 S1
        generalize grow (wr.drewN nq) osq = w2 at S2 ⊢
        clear nq osq
        clear ea6 ec6
        go_wp2
        go_roundg (h - i)
        case measure => omega
        case rel => exact ⟨i, h, rfl, rfl, by omega, by omega, by omega, by omega, S2, HP2⟩
    · obtain rfl : i = j := by omega
      have HSRT : Hid (∀ e, Rot d e i m (m + 1) → SortedIn lt a b e) := Lib.hid (fun e hE => by
        obtain rfl : b = m + 1 := by omega
        exact one_right HS.out HH.out hE hi1 hjb (fun t g1 g2 => by simpa using HP.out.yes t g1 g2) (fun t g1 g2 => by simpa using HP.out.no t g1 g2))
      clear HP
      go_wp2
      go_loopg [17] (m - i) (fun kx vk wk => ∃ (k : Nat) (dk : Array α), vk = .int .i64 k ∧ i ≤ k ∧ k ≤ m ∧ k - i ≤ kx ∧ dk.size = d.size ∧ Aside (SW enc w0 blk off dk wk) ∧ Hid (Rot d dk k m (m + 1) ∧ PermIn a b d dk))
      case atStart => exact ⟨m, d, rfl, by omega, by omega, by omega, rfl, S1, Lib.hid ⟨Rot.none_l d m (m + 1), permIn_refl d _ _⟩⟩
      case round =>
        clear S1
        obtain ⟨k, dk, rfl, hik, hkm, hkx2, hds, S1, HR⟩ := hrel
        by_cases hlt2 : i < k
        · obtain ⟨kp, hkp⟩ : ∃ q, q + 1 = k := ⟨k - 1, by omega⟩
          have hltz : (i : Int) < (k : Int) := by omega
          have eq1 : (k : Int) - 1 = (kp : Int) := by omega
          go_wp2_with fail
          obtain ⟨iN7, hiN7⟩ : ∃ q, q = k := ⟨_, rfl⟩
          obtain ⟨jN7, hjN7⟩ : ∃ q, q = kp := ⟨_, rfl⟩
          have ea7 : ((k : Int)).toNat = iN7 := by omega
          have pa7 : (0 : Int) ≤ (k : Int) := by omega
          have ba7 : (k : Int) < (d.size : Int) := by omega
          have ra7 : IntKind.i64.wrap ((k : Int)) = (k : Int) := by rw [IntKind.wrap_i64]; omega
          have ec7 : ((kp : Int)).toNat = jN7 := by omega
          have pc7 : (0 : Int) ≤ (kp : Int) := by omega
          have bc7 : (kp : Int) < (d.size : Int) := by omega
          have rc7 : IntKind.i64.wrap ((kp : Int)) = (kp : Int) := by rw [IntKind.wrap_i64]; omega
          obtain ⟨x7, hx7⟩ : ∃ x, x = dk[k]! := ⟨_, rfl⟩
          obtain ⟨y7, hy7⟩ : ∃ x, x = dk[kp]! := ⟨_, rfl⟩
          have S2 : Aside (SW enc w0 blk off (swp dk (k) (kp)) ((wr.setCell ⟨blk, off + iN7, none⟩ (enc y7)).setCell ⟨blk, off + jN7, none⟩ (enc x7)).drew) := by rw [hiN7, hjN7, hx7, hy7]; exact S1.out.swapped R (k) (kp) (by omega) (by omega)
          have c7a := S1.out.c1 R (by omega) (k) (by omega)
          have c7b := S1.out.c1 R (by omega) (kp) (by omega)
          have f7a := S1.out.f1 R (by omega) (k) (by omega)
          have f7b := S1.out.f1 R (by omega) (kp) (by omega)
          obtain ⟨u7, c7c⟩ := S1.out.c2 R (by omega) (k) (kp) (by omega) (by omega) (enc y7)
          rw [← hjN7, ← hiN7] at c7c
          rw [← hx7, ← hiN7] at c7a
          rw [← hy7, ← hjN7] at c7b
          rw [← hiN7] at f7a
          rw [← hjN7] at f7b
          clear S1 hx7 hy7 hiN7 hjN7
          go_wp2_with fail
          go_big_region_o
          clear c7a c7b c7c f7a f7b
          generalize ((wr.setCell ⟨blk, off + iN7, none⟩ (enc y7)).setCell ⟨blk, off + jN7, none⟩ (enc x7)).drew = w2 at S2 ⊢
          clear ea7 ec7
          go_wp2
          go_roundg (kp - i)
          case measure => omega
          case rel => exact ⟨kp, swp dk k kp, by first | rfl | simp, by omega, by omega, by omega, by rw [size_swp]; exact hds, S2, Lib.hid ⟨by subst hkp; exact HR.out.1.down (by omega) (by omega), permIn_trans _ _ _ _ _ HR.out.2 (swp_permIn dk a b k kp (by omega) (by omega) (by omega) (by omega) (by omega))⟩⟩
        · obtain rfl : i = k := by omega
          have HF : Hid (PermIn a b d dk ∧ SortedIn lt a b dk) := Lib.hid ⟨HR.out.2, HSRT.out dk HR.out.1⟩
          clear HR HSRT
          go_wp2
          (try simp only [Exit.inBlock, Exit.then])
          refine bodyPost_ret (results_none rfl _ _ _) rfl ?_
          exact ⟨rfl, dk, HF.out.1, HF.out.2, S1.out⟩
end Stb
end Go.Proofs.YtdhlmflbefnekaaDoor
