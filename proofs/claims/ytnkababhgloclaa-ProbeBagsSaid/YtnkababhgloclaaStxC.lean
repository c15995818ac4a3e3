/- Whether two rows of texts are the same: the law's sameTexts. -/
import Derived.Test.YtnkababhgloclaaFamS
import Derived.Test.YtnkababhgloclaaSameC
import Derived.Test.YtnkababhgloclaaTextC
namespace Go.Proofs.Ytnkababhgloclaa
open Go.RowKit Go.ChangeShapes Tx Nm
set_option maxHeartbeats 4000000 in
theorem stexts_any (v u : Value) (ss tt : List ByteArray) (w : World) (hv : Strs w v ss) (hu : Strs w u tt) : Calls Try.prog 12 #[v, u] w (Bl (decide (ss = tt)) w) := by
  obtain ⟨a, cap, rfl, hm, _, _, hc⟩ := hv
  obtain ⟨a', cap', rfl, hm', _, _, hc'⟩ := hu
  have HC := Lib.hid hc
  have HC' := Lib.hid hc'
  unfold maxLen at hm hm'
  clear hc hc'
  by_cases hl : ss.length = tt.length
  · have HL := Lib.hid hl
    rw [← hl]
    rw [← hl] at hm'
    clear hl
    go_enter Try.func12, Try.ntmps12
    go_wp2_with fail
    go_loopg [5] ss.length (fun r vi wr => ∃ k : Nat, k ≤ ss.length ∧ r = ss.length - k ∧ vi = .int .i64 k ∧ Hid (∃ n, wr = w.drewN n) ∧ Hid (∀ j, j < k → nthS ss j = nthS tt j))
    case atStart => exact ⟨0, by omega, by omega, rfl, Lib.hid ⟨0, rfl⟩, Lib.hid (fun j h => by omega)⟩
    case round =>
      obtain ⟨k, hk, hr, rfl, hq, hh⟩ := hrel
      have HR := Lib.hid hr
      clear hr
      obtain ⟨n0, hwr⟩ := hq.out
      have HW := Lib.hid hwr
      by_cases hlt : k < ss.length
      · obtain ⟨b, off, hp, g⟩ := HC.out k hlt
        obtain ⟨b', off', hp', g'⟩ := HC'.out k (by rw [← HL.out]; exact hlt)
        subst hp hp'
        replace g : wr.cell? ⟨b, off + k, none⟩ = some (.string (nthS ss k)) := by rw [hwr]; exact g
        replace g' : wr.cell? ⟨b', off' + k, none⟩ = some (.string (nthS tt k)) := by rw [hwr]; exact g'
        clear hwr hq
        have hix : (0 : Int) ≤ (k : Int) ∧ (k : Int) < (ss.length : Int) := by omega
        by_cases he : nthS ss k = nthS tt k
        · have HN : Hid (∀ j, j < k + 1 → nthS ss j = nthS tt j) := Lib.hid (fun j hj => by
            by_cases e : j = k
            · subst e; exact he
            · exact hh.out j (by omega))
          have e1 := beq_yes he
          obtain ⟨y, hy⟩ : ∃ y, nthS ss k = y := ⟨_, rfl⟩
          obtain ⟨z, hz⟩ : ∃ y, nthS tt k = y := ⟨_, rfl⟩
          rw [hy] at g e1
          rw [hz] at g' e1
          clear hy hz he hh
          go_wp2_with fail
          go_quiet (fail)
          go_wp2_with fail
          go_roundg (ss.length - (k + 1))
          case measure => rw [HR.out]; omega
          case rel => exact ⟨k + 1, by omega, rfl, by first | rfl | simp, Lib.hid ⟨n0 + _, by rw [HW.out, World.drewN_drewN]⟩, HN⟩
        · have HF : Hid (decide (ss = tt) = false) := Lib.hid (decide_eq_false (fun h => he (by rw [h])))
          have e1 := beq_no he
          obtain ⟨y, hy⟩ : ∃ y, nthS ss k = y := ⟨_, rfl⟩
          obtain ⟨z, hz⟩ : ∃ y, nthS tt k = y := ⟨_, rfl⟩
          rw [hy] at g e1
          rw [hz] at g' e1
          clear hy hz he hh
          go_wp2_with fail
          go_quiet (fail)
          go_wp2_with fail
          go_ret
          exact ⟨by rw [HF.out]; rfl, n0 + _, by rw [HW.out, World.drewN_drewN]⟩
      · obtain rfl : k = ss.length := by omega
        have HF : Hid (decide (ss = tt) = true) := Lib.hid (decide_eq_true (strs_ext HL.out hh.out))
        clear hwr hq
        go_wp2_with fail
        go_ret
        exact ⟨by rw [HF.out]; rfl, n0, HW.out⟩
  · have HF : Hid (decide (ss = tt) = false) := Lib.hid (decide_eq_false (fun h => hl (by rw [h])))
    have e1 := lens_ne hl
    go_enter Try.func12, Try.ntmps12
    go_wp2_with fail
    go_ret
    exact ⟨by rw [HF.out]; rfl, 0, rfl⟩
end Go.Proofs.Ytnkababhgloclaa
