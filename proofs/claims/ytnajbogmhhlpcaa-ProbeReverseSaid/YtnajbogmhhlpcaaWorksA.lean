/- The law's own small functions: its closures that count, its card, whether two rows of texts are the same. -/
import Derived.Test.YtnajbogmhhlpcaaProbeB
import Derived.Test.YtnajbogmhhlpcaaSameC
namespace Go.Proofs.Ytnajbogmhhlpcaa
open Go.RowKit Go.ChangeShapes Tx Nm
set_option maxHeartbeats 4000000 in
theorem stexts_any (v u : Value) (ss tt : List ByteArray) (w : World) (hv : Strs w v ss) (hu : Strs w u tt) : Calls Try.prog 10 #[v, u] w (Bl (decide (ss = tt)) w) := by
  obtain ⟨a, cap, rfl, hm, _, _, hc⟩ := hv
  obtain ⟨a', cap', rfl, hm', _, _, hc'⟩ := hu
  have HC := Lib.hid hc
  have HC' := Lib.hid hc'
  unfold maxLen at hm hm'
  clear hc hc'
  by_cases hl : ss.length = tt.length
  · have HL := Lib.hid hl
    rw [← hl]
    rw [← hl] at hm'
    clear hl
    go_enter Try.func10, Try.ntmps10
    go_wp2_with fail
    go_loopg [5] ss.length (fun r vi wr => ∃ k : Nat, k ≤ ss.length ∧ r = ss.length - k ∧ vi = .int .i64 k ∧ Hid (∃ n, wr = w.drewN n) ∧ Hid (∀ j, j < k → nthS ss j = nthS tt j))
    case atStart => exact ⟨0, by omega, by omega, rfl, Lib.hid ⟨0, rfl⟩, Lib.hid (fun j h => by omega)⟩
    case round =>
      obtain ⟨k, hk, hr, rfl, hq, hh⟩ := hrel
      have HR := Lib.hid hr
      clear hr
      obtain ⟨n0, hwr⟩ := hq.out
      have HW := Lib.hid hwr
      by_cases hlt : k < ss.length
      · obtain ⟨b, off, hp, g⟩ := HC.out k hlt
        obtain ⟨b', off', hp', g'⟩ := HC'.out k (by rw [← HL.out]; exact hlt)
        subst hp hp'
        replace g : wr.cell? ⟨b, off + k, none⟩ = some (.string (nthS ss k)) := by rw [hwr]; exact g
        replace g' : wr.cell? ⟨b', off' + k, none⟩ = some (.string (nthS tt k)) := by rw [hwr]; exact g'
        clear hwr hq
        have hix : (0 : Int) ≤ (k : Int) ∧ (k : Int) < (ss.length : Int) := by omega
        by_cases he : nthS ss k = nthS tt k
        · have HN : Hid (∀ j, j < k + 1 → nthS ss j = nthS tt j) := Lib.hid (fun j hj => by
            by_cases e : j = k
            · subst e; exact he
            · exact hh.out j (by omega))
          have e1 := beq_yes he
          obtain ⟨y, hy⟩ : ∃ y, nthS ss k = y := ⟨_, rfl⟩
          obtain ⟨z, hz⟩ : ∃ y, nthS tt k = y := ⟨_, rfl⟩
          rw [hy] at g e1
          rw [hz] at g' e1
          clear hy hz he hh
          go_wp2_with fail
          go_quiet (fail)
          go_wp2_with fail
          go_roundg (ss.length - (k + 1))
          case measure => rw [HR.out]; omega
          case rel => exact ⟨k + 1, by omega, rfl, by first | rfl | simp, Lib.hid ⟨n0 + _, by rw [HW.out, World.drewN_drewN]⟩, HN⟩
        · have HF : Hid (decide (ss = tt) = false) := Lib.hid (decide_eq_false (fun h => he (by rw [h])))
          have e1 := beq_no he
          obtain ⟨y, hy⟩ : ∃ y, nthS ss k = y := ⟨_, rfl⟩
          obtain ⟨z, hz⟩ : ∃ y, nthS tt k = y := ⟨_, rfl⟩
          rw [hy] at g e1
          rw [hz] at g' e1
          clear hy hz he hh
          go_wp2_with fail
          go_quiet (fail)
          go_wp2_with fail
          go_ret
          exact ⟨by rw [HF.out]; rfl, n0 + _, by rw [HW.out, World.drewN_drewN]⟩
      · obtain rfl : k = ss.length := by omega
        have HF : Hid (decide (ss = tt) = true) := Lib.hid (decide_eq_true (strs_ext HL.out hh.out))
        clear hwr hq
        go_wp2_with fail
        go_ret
        exact ⟨by rw [HF.out]; rfl, n0, HW.out⟩
  · have HF : Hid (decide (ss = tt) = false) := Lib.hid (decide_eq_false (fun h => hl (by rw [h])))
    have e1 := lens_ne hl
    go_enter Try.func10, Try.ntmps10
    go_wp2_with fail
    go_ret
    exact ⟨by rw [HF.out]; rfl, 0, rfl⟩
set_option maxHeartbeats 1000000 in
theorem w1_any (p : Nat) (n : Int) (w : World) (hp : w.heap[p]? = some (.cells #[.int .i64 n] 3 (0, 0))) : Calls Try.prog 55 #[.pointer (some ⟨p, 0, none⟩)] w fun e w' => e = (Beh.ret 0).ending ∧ w' = w.setCell ⟨p, 0, none⟩ (.int .i64 (wrap64 (n + 1))) := by
  have c0 := (cell_of_row w p 0 _ _ _ hp).trans (show (#[Value.int .i64 n] : Array Value)[0]? = some (.int .i64 n) from rfl)
  have f0 := frozen_of_row w p 0 _ _ hp
  clear hp
  go_enter Try.func55, Try.ntmps55
  go_wp2_with fail
  go_ret
  exact ⟨rfl, rfl⟩
set_option maxHeartbeats 1000000 in
theorem w2_any (p : Nat) (n : Int) (w : World) (hp : w.heap[p]? = some (.cells #[.int .i64 n] 3 (0, 0))) : Calls Try.prog 56 #[.pointer (some ⟨p, 0, none⟩)] w fun e w' => e = (Beh.str ⟨#[120]⟩).ending ∧ w' = w.setCell ⟨p, 0, none⟩ (.int .i64 (wrap64 (n + 1))) := by
  have c0 := (cell_of_row w p 0 _ _ _ hp).trans (show (#[Value.int .i64 n] : Array Value)[0]? = some (.int .i64 n) from rfl)
  have f0 := frozen_of_row w p 0 _ _ hp
  clear hp
  go_enter Try.func56, Try.ntmps56
  go_wp2_with fail
  exact ⟨rfl, rfl, rfl⟩
/-- The card that a law's probes are asked with. -/
def sampleC (f : ByteArray) : Cd := ⟨⟨#[120]⟩, f, 0, [⟨#[97]⟩], 0, ⟨#[]⟩, -1⟩
set_option maxHeartbeats 4000000 in
theorem sample_any (f : ByteArray) (w : World) : Calls Try.prog 57 #[.string f] w fun e w' => ∃ sl, e = .returned (.agg #[.string ⟨#[120]⟩, .string f, .int .u8 0, sl, .int .i8 0, .string ⟨#[]⟩, .int .i16 (-1)]) ∧ Strs w' sl [⟨#[97]⟩] ∧ Below w.heap.size w w' := by
  have hh : ((w.alloc (.cells #[.string ⟨#[120]⟩, .string f, .int .u8 0, .slice (some ⟨w.heap.size + 1, 0, none⟩) 1 1, .int .i8 0, .string ⟨#[]⟩, .int .i16 (-1)] 50)).alloc (.cells #[.string ⟨#[97]⟩] 9)).heap[w.heap.size]? = _ := (heap_alloc_old' _ _ (by simp)).trans (heap_alloc_new w (.cells #[.string ⟨#[120]⟩, .string f, .int .u8 0, .slice (some ⟨w.heap.size + 1, 0, none⟩) 1 1, .int .i8 0, .string ⟨#[]⟩, .int .i16 (-1)] 50))
  have h2 : ((w.alloc (.cells #[.string ⟨#[120]⟩, .string f, .int .u8 0, .slice (some ⟨w.heap.size + 1, 0, none⟩) 1 1, .int .i8 0, .string ⟨#[]⟩, .int .i16 (-1)] 50)).alloc (.cells #[.string ⟨#[97]⟩] 9)).heap[w.heap.size + 1]? = _ := heap_alloc2_new w (.cells #[.string ⟨#[120]⟩, .string f, .int .u8 0, .slice (some ⟨w.heap.size + 1, 0, none⟩) 1 1, .int .i8 0, .string ⟨#[]⟩, .int .i16 (-1)] 50) (.cells #[.string ⟨#[97]⟩] 9)
  have bb : Below w.heap.size w ((w.alloc (.cells #[.string ⟨#[120]⟩, .string f, .int .u8 0, .slice (some ⟨w.heap.size + 1, 0, none⟩) 1 1, .int .i8 0, .string ⟨#[]⟩, .int .i16 (-1)] 50)).alloc (.cells #[.string ⟨#[97]⟩] 9)) := ((Below.refl _ w).alloc (Nat.le_refl _) _).alloc (by simp) _
  have v0 := (cell_of_row _ _ 0 _ _ _ hh).trans (show (#[Value.string ⟨#[120]⟩, .string f, .int .u8 0, .slice (some ⟨w.heap.size + 1, 0, none⟩) 1 1, .int .i8 0, .string ⟨#[]⟩, .int .i16 (-1)] : Array Value)[0]? = some (.string ⟨#[120]⟩) from rfl)
  have v1 := (cell_of_row _ _ 1 _ _ _ hh).trans (show (#[Value.string ⟨#[120]⟩, .string f, .int .u8 0, .slice (some ⟨w.heap.size + 1, 0, none⟩) 1 1, .int .i8 0, .string ⟨#[]⟩, .int .i16 (-1)] : Array Value)[1]? = some (.string f) from rfl)
  have v2 := (cell_of_row _ _ 2 _ _ _ hh).trans (show (#[Value.string ⟨#[120]⟩, .string f, .int .u8 0, .slice (some ⟨w.heap.size + 1, 0, none⟩) 1 1, .int .i8 0, .string ⟨#[]⟩, .int .i16 (-1)] : Array Value)[2]? = some (.int .u8 0) from rfl)
  have v3 := (cell_of_row _ _ 3 _ _ _ hh).trans (show (#[Value.string ⟨#[120]⟩, .string f, .int .u8 0, .slice (some ⟨w.heap.size + 1, 0, none⟩) 1 1, .int .i8 0, .string ⟨#[]⟩, .int .i16 (-1)] : Array Value)[3]? = some (.slice (some ⟨w.heap.size + 1, 0, none⟩) 1 1) from rfl)
  have v4 := (cell_of_row _ _ 4 _ _ _ hh).trans (show (#[Value.string ⟨#[120]⟩, .string f, .int .u8 0, .slice (some ⟨w.heap.size + 1, 0, none⟩) 1 1, .int .i8 0, .string ⟨#[]⟩, .int .i16 (-1)] : Array Value)[4]? = some (.int .i8 0) from rfl)
  have v5 := (cell_of_row _ _ 5 _ _ _ hh).trans (show (#[Value.string ⟨#[120]⟩, .string f, .int .u8 0, .slice (some ⟨w.heap.size + 1, 0, none⟩) 1 1, .int .i8 0, .string ⟨#[]⟩, .int .i16 (-1)] : Array Value)[5]? = some (.string ⟨#[]⟩) from rfl)
  have v6 := (cell_of_row _ _ 6 _ _ _ hh).trans (show (#[Value.string ⟨#[120]⟩, .string f, .int .u8 0, .slice (some ⟨w.heap.size + 1, 0, none⟩) 1 1, .int .i8 0, .string ⟨#[]⟩, .int .i16 (-1)] : Array Value)[6]? = some (.int .i16 (-1)) from rfl)
  have H2 := Lib.hid h2
  have BB := Lib.hid bb
  clear hh h2 bb
  go_enter Try.func57, Try.ntmps57
  go_wp2_with fail
  refine bodyPost_ret (v := .agg #[Value.string ⟨#[120]⟩, .string f, .int .u8 0, .slice (some ⟨w.heap.size + 1, 0, none⟩) 1 1, .int .i8 0, .string ⟨#[]⟩, .int .i16 (-1)]) (by simp [results, Try.results57, go_sem, v0, v1, v2, v3, v4, v5, v6]) rfl ?_
  refine ⟨_, rfl, ⟨some ⟨w.heap.size + 1, 0, none⟩, 1, rfl, by unfold maxLen; simp, by simp, (fun h => by cases h), fun i hi => ?_⟩, BB.out⟩
  have hi0 : i = 0 := by simpa using hi
  subst hi0
  exact ⟨w.heap.size + 1, 0, rfl, (cell_of_row _ _ 0 _ _ _ H2.out).trans rfl⟩
/-- The probe that a law asks first: the steps of "bus", the third of which panics. -/
theorem works_far {fs : List Ft} (hfs : fs = [⟨2, 2, 0⟩]) {n m : Nat} {g : Bool} {at_ how : Int} (hn : 3 ≤ n) (h : Far fs n m g at_ how) : g = false ∧ m = 2 ∧ at_ = 2 := by
  subst hfs
  have h2 : ∀ s : Int, s ≠ 2 → (ofT [⟨2, 2, 0⟩] s).how = 0 := fun s hs => by
    unfold ofT
    rw [List.find?_eq_none.2 (fun f hf => by
      have e : f = ⟨2, 2, 0⟩ := by simpa using hf
      subst e
      simp only [isT, decide_eq_true_eq]
      exact fun e => hs e.symm)]
    rfl
  cases g with
  | true =>
    obtain ⟨e, _, _⟩ := h.yes rfl
    exact absurd (h.fine 2 (by omega)) (by decide)
  | false =>
    obtain ⟨e1, e2, e3, e4⟩ := h.no rfl
    have hm : m = 2 := by
      apply Decidable.byContradiction
      intro hm
      rw [h2 m (by omega)] at e3
      exact e4 e3
    subst hm
    exact ⟨rfl, rfl, e2⟩
theorem mayB_sample : mayB (sampleC ⟨#[98, 117, 115]⟩) = true := by decide
theorem steps_bus : stepsRun.stepsF ⟨#[98, 117, 115]⟩ = [⟨#[119, 105, 110, 100, 111, 119]⟩, ⟨#[114, 101, 115, 101, 116]⟩, ⟨#[115, 99, 97, 110]⟩, ⟨#[108, 111, 99, 107]⟩] := by decide
end Go.Proofs.Ytnajbogmhhlpcaa
