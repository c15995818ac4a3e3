/- The library's stable sort at elements of one cell, whatever the test 'cmp' lays: swapRange, rotate, symMerge, stable. Printed by tools/genstab.py. -/
import Derived.Test.YtdhlmflbefnekaaDoorStabC
import Derived.Test.YtdhlmflbefnekaaDoorStabS
import Derived.Test.YtdhlmflbefnekaaDoorBase
import Derived.Sort.WalkA
import Derived.Shelf.SlSortCmp.Kit1
import Derived.Deep.LoopGhost
import Derived.KernelRfl
import Derived.Lib.Hide
namespace Go.Proofs.YtdhlmflbefnekaaDoor
namespace Stb
open Go.Shelf Go.RowKit Go.Lib Go.Sort
variable {α : Type} [Inhabited α]
set_option maxHeartbeats 8000000 in
set_option maxRecDepth 1000000 in
theorem ins_s (enc : α → Value) (cf : α → α → Int) (g : Nat) (cb : Array Value) (blk off cap a b : Nat) (d0 d : Array α) (w0 w : World)
    (eg : ∀ args w, (callFunc g args).run Tryd.prog w = .ok (.enter g args) w) (hcmp : CmpLays1 Tryd.prog g cb enc cf blk off d0.size w0) (R : Row1 enc w0 blk off d0) (hs : d0.size = d.size) (S : SW enc w0 blk off d w) (hab : a ≤ b) (hb : b ≤ d.size) (hsz : d.size < 4611686018427387904) :
    Calls Tryd.prog 47 #[.slice (some ⟨blk, off, none⟩) d.size cap, .int .i64 a, .int .i64 b, .func (.func g) #[] cb] w fun e w' => e = .returned (.tuple #[]) ∧ SW enc w0 blk off (Sort.insertionSort (ltOf cf) d a b) w' := by
  have mixed : Tryd.prog.follows .mixedOrders = true := by kernel_rfl
  have hcl0 := R.hO.cells
  simp only [Value.cells] at hcl0
  have hst := R.hO.store Tryd.prog
  have S0 : Aside (SW enc w0 blk off d w) := S
  clear S
  have HC : Aside _ := hcmp
  clear hcmp
  go_enter Tryd.func47, Tryd.ntmps47
  go_wp2
  go_loopg [8] (b - a) (fun g1 vi wr => ∃ (i : Nat) (dk : Array α), vi = .int .i64 i ∧ a < i ∧ i ≤ b + 1 ∧ b + 1 - i ≤ g1 + 1 ∧ dk.size = d.size ∧ Aside (SW enc w0 blk off dk wr) ∧ Hid (insOuter (ltOf cf) a b i dk = insOuter (ltOf cf) a b (a + 1) d))
  case atStart => exact ⟨a + 1, d, by go_num, by omega, by omega, by omega, rfl, S0, rfl⟩
  case round =>
    clear S0
    obtain ⟨i, dk, rfl, hai, hib, hg1, hsk, S1, HO⟩ := hrel
    by_cases hlt : i < b
    · have hltz : (i : Int) < (b : Int) := by omega
      go_wp2
      go_loopg [9] i (fun g2 vj wr2 => ∃ (j : Nat) (dj : Array α), vj = .int .i64 j ∧ a ≤ j ∧ j ≤ i ∧ j ≤ g2 ∧ dj.size = d.size ∧ Aside (SW enc w0 blk off dj wr2) ∧ Hid (insInner (ltOf cf) a j dj = insInner (ltOf cf) a i dk))
      case atStart => exact ⟨i, dk, rfl, by omega, Nat.le_refl _, Nat.le_refl _, hsk, S1, rfl⟩
      case round =>
        clear S1
        obtain ⟨j, dj, rfl, haj, hji, hg2, hsj, SJ, HI⟩ := hrel
        have OUT : Aside ((j ≤ a ∨ (ltOf cf) dj[j]! dj[j - 1]! = false) → Hid (insOuter (ltOf cf) a b (i + 1) dj = insOuter (ltOf cf) a b (a + 1) d)) := fun hs => by
          show _ = _
          rw [← HO.out, insOuter_go _ _ _ _ _ hlt, ← HI.out, insInner_stop _ _ _ _ hs]
        by_cases hja : a < j
        · have hjaz : (a : Int) < (j : Int) := by omega
          obtain ⟨jp, hjp⟩ : ∃ q, q + 1 = j := ⟨j - 1, by omega⟩
          have zjp : (j : Int) = (jp : Int) + 1 := by omega
          have hjad : decide ((jp : Int) + 1 > (a : Int)) = true := decide_eq_true (by omega)
          have hjaz' : (a : Int) < (jp : Int) + 1 := by omega
          cases hlv : (ltOf cf) dj[j]! dj[j - 1]! with
          | true =>
            obtain ⟨iN12, hiN12⟩ : ∃ q, q = j := ⟨_, rfl⟩
            obtain ⟨jN12, hjN12⟩ : ∃ q, q = j - 1 := ⟨_, rfl⟩
            have ea12 : ((jp : Int) + 1).toNat = iN12 := by omega
            have pa12 : (0 : Int) ≤ (jp : Int) + 1 := by omega
            have ba12 : (jp : Int) + 1 < (d.size : Int) := by omega
            have ra12 : IntKind.i64.wrap ((jp : Int) + 1) = (jp : Int) + 1 := by rw [IntKind.wrap_i64]; omega
            have ec12 : ((jp : Int)).toNat = jN12 := by omega
            have pc12 : (0 : Int) ≤ (jp : Int) := by omega
            have bc12 : (jp : Int) < (d.size : Int) := by omega
            have rc12 : IntKind.i64.wrap ((jp : Int)) = (jp : Int) := by rw [IntKind.wrap_i64]; omega
            obtain ⟨x12, hx12⟩ : ∃ x, x = dj[j]! := ⟨_, rfl⟩
            obtain ⟨y12, hy12⟩ : ∃ x, x = dj[j - 1]! := ⟨_, rfl⟩
            have l12a := SJ.out.cl R (by omega) (j) (by omega)
            have l12b := SJ.out.cl R (by omega) (j - 1) (by omega)
            rw [← hx12, ← hiN12] at l12a
            rw [← hy12, ← hjN12] at l12b
            have hc12 := SJ.out.cmp HC.out (by omega) x12 y12
            have hv12 : cf x12 y12 < 0 := by rw [hx12, hy12]; exact of_decide_eq_true hlv
            have hd12 : decide (cf x12 y12 < 0) = true := decide_eq_true hv12
            clear hx12 hy12 hiN12 hjN12
            go_wp2_with fail
            go_quiet_grown (first | (go_at_fn g; refine Calls.grown_of (hc12 _ _)))
            have S2 : Aside (SW enc w0 blk off dj (grow (wr.drewN nq) osq)) := SJ.out.grown nq osq
            clear l12a l12b hc12 SJ
            generalize grow (wr.drewN nq) osq = w2 at S2 ⊢
            clear nq osq
            clear ea12 ec12
            go_wp2_with fail
            obtain ⟨iN13, hiN13⟩ : ∃ q, q = j := ⟨_, rfl⟩
            obtain ⟨jN13, hjN13⟩ : ∃ q, q = j - 1 := ⟨_, rfl⟩
            have ea13 : ((jp : Int) + 1).toNat = iN13 := by omega
            have pa13 : (0 : Int) ≤ (jp : Int) + 1 := by omega
            have ba13 : (jp : Int) + 1 < (d.size : Int) := by omega
            have ra13 : IntKind.i64.wrap ((jp : Int) + 1) = (jp : Int) + 1 := by rw [IntKind.wrap_i64]; omega
            have ec13 : ((jp : Int)).toNat = jN13 := by omega
            have pc13 : (0 : Int) ≤ (jp : Int) := by omega
            have bc13 : (jp : Int) < (d.size : Int) := by omega
            have rc13 : IntKind.i64.wrap ((jp : Int)) = (jp : Int) := by rw [IntKind.wrap_i64]; omega
            obtain ⟨x13, hx13⟩ : ∃ x, x = dj[j]! := ⟨_, rfl⟩
            obtain ⟨y13, hy13⟩ : ∃ x, x = dj[j - 1]! := ⟨_, rfl⟩
            have S3 : Aside (SW enc w0 blk off (swp dj (j) (j - 1)) ((w2.setCell ⟨blk, off + iN13, none⟩ (enc y13)).setCell ⟨blk, off + jN13, none⟩ (enc x13)).drew) := by rw [hiN13, hjN13, hx13, hy13]; exact S2.out.swapped R (j) (j - 1) (by omega) (by omega)
            have c13a := S2.out.c1 R (by omega) (j) (by omega)
            have c13b := S2.out.c1 R (by omega) (j - 1) (by omega)
            have f13a := S2.out.f1 R (by omega) (j) (by omega)
            have f13b := S2.out.f1 R (by omega) (j - 1) (by omega)
            obtain ⟨u13, c13c⟩ := S2.out.c2 R (by omega) (j) (j - 1) (by omega) (by omega) (enc y13)
            rw [← hjN13, ← hiN13] at c13c
            rw [← hx13, ← hiN13] at c13a
            rw [← hy13, ← hjN13] at c13b
            rw [← hiN13] at f13a
            rw [← hjN13] at f13b
            clear S2 hx13 hy13 hiN13 hjN13
            go_wp2_with fail
            go_big_region_o
            clear c13a c13b c13c f13a f13b
            generalize ((w2.setCell ⟨blk, off + iN13, none⟩ (enc y13)).setCell ⟨blk, off + jN13, none⟩ (enc x13)).drew = w3 at S3 ⊢
            clear ea13 ec13
            go_wp2
            go_roundg (j - 1)
            case measure => omega
            case rel => exact ⟨j - 1, swp dj j (j - 1), by first | rfl | go_num | (congr 1; omega), by omega, by omega, Nat.le_refl _, by rw [size_swp]; exact hsj, S3, (show Hid _ from by rw [← HI.out, insInner_go (ltOf cf) a j dj hja hlv]; exact rfl)⟩
          | false =>
            obtain ⟨iN14, hiN14⟩ : ∃ q, q = j := ⟨_, rfl⟩
            obtain ⟨jN14, hjN14⟩ : ∃ q, q = j - 1 := ⟨_, rfl⟩
            have ea14 : ((jp : Int) + 1).toNat = iN14 := by omega
            have pa14 : (0 : Int) ≤ (jp : Int) + 1 := by omega
            have ba14 : (jp : Int) + 1 < (d.size : Int) := by omega
            have ra14 : IntKind.i64.wrap ((jp : Int) + 1) = (jp : Int) + 1 := by rw [IntKind.wrap_i64]; omega
            have ec14 : ((jp : Int)).toNat = jN14 := by omega
            have pc14 : (0 : Int) ≤ (jp : Int) := by omega
            have bc14 : (jp : Int) < (d.size : Int) := by omega
            have rc14 : IntKind.i64.wrap ((jp : Int)) = (jp : Int) := by rw [IntKind.wrap_i64]; omega
            obtain ⟨x14, hx14⟩ : ∃ x, x = dj[j]! := ⟨_, rfl⟩
            obtain ⟨y14, hy14⟩ : ∃ x, x = dj[j - 1]! := ⟨_, rfl⟩
            have l14a := SJ.out.cl R (by omega) (j) (by omega)
            have l14b := SJ.out.cl R (by omega) (j - 1) (by omega)
            rw [← hx14, ← hiN14] at l14a
            rw [← hy14, ← hjN14] at l14b
            have hc14 := SJ.out.cmp HC.out (by omega) x14 y14
            have hv14 : ¬ cf x14 y14 < 0 := by rw [hx14, hy14]; exact of_decide_eq_false hlv
            have hd14 : decide (cf x14 y14 < 0) = false := decide_eq_false hv14
            clear hx14 hy14 hiN14 hjN14
            go_wp2_with fail
            go_quiet_grown (first | (go_at_fn g; refine Calls.grown_of (hc14 _ _)))
            have S2 : Aside (SW enc w0 blk off dj (grow (wr.drewN nq) osq)) := SJ.out.grown nq osq
            clear l14a l14b hc14 SJ
            generalize grow (wr.drewN nq) osq = w2 at S2 ⊢
            clear nq osq
            clear ea14 ec14
            go_wp2
            go_roundg (b - (i + 1))
            case measure => omega
            case rel => exact ⟨i + 1, dj, by go_num, by omega, by omega, by omega, hsj, S2, OUT.out (Or.inr hlv)⟩
        · have hjaz : decide ((j : Int) > (a : Int)) = false := decide_eq_false (by omega)
          have hjaz' : ¬ (a : Int) < (j : Int) := by omega
          go_wp2_with fail
          go_big_region_o
          have S2 : Aside (SW enc w0 blk off dj wr.drew) := SJ.out.drew
          clear SJ
          generalize wr.drew = w2 at S2 ⊢
          go_wp2
          go_roundg (b - (i + 1))
          case measure => omega
          case rel => exact ⟨i + 1, dj, by go_num, by omega, by omega, by omega, hsj, S2, OUT.out (Or.inl (by omega))⟩
    · have hltz : ¬ (i : Int) < (b : Int) := by omega
      go_wp2
      go_end0
      exact ⟨rfl, by unfold Sort.insertionSort; rw [← HO.out, insOuter_stop _ _ _ _ _ hlt]; exact S1.out⟩
end Stb
end Go.Proofs.YtdhlmflbefnekaaDoor
