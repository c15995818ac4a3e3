/- What is in a bag: Held; Back and Close. -/
import Derived.Test.YtnkababhgloclaaBackB
import Derived.Test.YtnkababhgloclaaTwinC
namespace Go.Proofs.Ytnkababhgloclaa
open Go.RowKit Go.ChangeShapes
/-- The names of a bag's things. -/
def heldN (L : List Th) : List ByteArray := (L.filter fun t => t.fn.isSome).map (·.name)
theorem heldN_append (L M : List Th) : heldN (L ++ M) = heldN L ++ heldN M := by simp [heldN]
theorem heldN_len (L : List Th) : (heldN L).length ≤ L.length := by
  unfold heldN
  rw [List.length_map]
  exact List.length_filter_le _ _
set_option maxHeartbeats 1000000 in
theorem held_nil (w : World) : Calls Try.prog 11 #[.pointer none] w fun e w' => e = .returned (.slice none 0 0) ∧ w' = w := by
  go_enter Try.func11, Try.ntmps11
  go_wp2_with fail
  go_ret
  exact ⟨rfl, rfl⟩
set_option maxHeartbeats 8000000 in
set_option maxRecDepth 100000 in
theorem held_any {w : World} {B b : Nat} {L : List Th} {last : Int} {busy closed : Bool} (h : BagAt w B b L last busy closed) (hl : L.length ≤ 256) :
    Calls Try.prog 11 #[.pointer (some ⟨b, 0, none⟩)] w fun e w' => ∃ v, e = .returned v ∧ w'.ownsRow w.heap.size 9 1 v (heldN L).length (sc (heldN L)) ∧ Below w.heap.size w w' := by
  obtain ⟨ir, hir, hz0, hz1, hz2⟩ := info_parts infoS
  obtain ⟨a, c, c0, _, _, _, ho⟩ := h.cells
  obtain ⟨n, hn⟩ : ∃ n, L.length = n := ⟨_, rfl⟩
  have HN := Lib.hid hn
  rw [hn] at hl c0 ho
  have HO := Lib.hid ho
  clear h ho hn
  go_enter Try.func11, Try.ntmps11
  go_wp2_with fail
  go_loopg [3, 13] n (fun r v3 v13 wr => ∃ k : Nat, k ≤ n ∧ r = n - k ∧ v13 = .int .i64 k ∧ Hid (Below w.heap.size w wr ∧ wr.ownsRow w.heap.size 9 1 v3 (heldN (L.take k)).length (sc (heldN (L.take k)))))
  case atStart => exact ⟨0, by omega, by omega, rfl, Lib.hid ⟨Below.refl _ _, ⟨by simp [heldN, sc], .inl ⟨rfl, rfl⟩⟩⟩⟩
  case round =>
    obtain ⟨k, hk, hr, rfl, hq⟩ := hrel
    have HR := Lib.hid hr
    have BB := Lib.hid hq.out.1
    have OW := Lib.hid hq.out.2
    clear hr hq
    obtain ⟨a3, cc3, rfl⟩ := own_slice OW.out
    obtain ⟨m, hm⟩ : ∃ m, (heldN (L.take k)).length = m := ⟨_, rfl⟩
    have HM := Lib.hid hm
    have hmk : m ≤ 256 := by
      have h1 := heldN_len (L.take k)
      have h2 : (L.take k).length ≤ k := by rw [List.length_take]; exact Nat.min_le_left _ _
      omega
    rw [hm] at OW ⊢
    clear hm
    by_cases hlt : k < n
    · have hkL : k < L.length := by rw [HN.out]; exact hlt
      obtain ⟨g, cap', hform, hgB, hgl⟩ := HO.out.form (by omega)
      injection hform with e1 _ e3
      subst e1 e3
      obtain ⟨t, ht⟩ : ∃ t, L[k]'hkL = t := ⟨_, rfl⟩
      have OT := own_below HO.out BB.out
      have gx : ∀ j (u : Value), t.cells[j]? = some u → wr.cell? ⟨g, k * 3 + j, none⟩ = some u := fun j u hu => by
        have h3 := tcell_lt hu
        rw [OT.cellAt (k * 3 + j) (by omega)]
        exact hc_at L k hkL j u (by rw [ht]; exact hu)
      have hstep : heldN (L.take (k + 1)) = heldN (L.take k) ++ heldN [t] := by
        rw [List.take_succ_eq_append_getElem hkL, heldN_append, ht]
      have HST := Lib.hid hstep
      obtain ⟨x, name, fn⟩ := t
      have g0 : wr.cell? ⟨g, k * 3, none⟩ = some (.int .i64 x) := gx 0 _ rfl
      have g1 : wr.cell? ⟨g, k * 3 + 1, none⟩ = some (.string name) := gx 1 _ rfl
      have g2 : wr.cell? ⟨g, k * 3 + 2, none⟩ = some (fnV fn) := gx 2 _ rfl
      have hkc1 : (0 : Int) ≤ (k : Int) := by omega
      have hkc2 : (k : Int) < (n : Int) := by omega
      clear gx OT ht hstep
      rcases fn with _ | ⟨kf, cf⟩
      · simp only [fnV] at g2
        have fnn := fn_none'
        have TZ : Hid ((wr.alloc (.cells #[.int .i64 0, .string ⟨#[]⟩, .nilFunc] 101)).there wr.heap.size 0 3) := Lib.hid (fun j hj => ⟨by
          rw [cell_of_row _ _ _ _ _ _ (heap_alloc_new wr (.cells #[.int .i64 0, .string ⟨#[]⟩, .nilFunc] 101))]
          exact Option.isSome_iff_exists.2 ⟨_, Array.getElem?_eq_getElem (by simp; omega)⟩, frozen_of_row _ _ _ _ _ (heap_alloc_new wr (.cells #[.int .i64 0, .string ⟨#[]⟩, .nilFunc] 101))⟩)
        go_wp2_with (refine wpList_store_all (by rfl) 101 (.tmp 5) (.tmp 16) (by rfl) wr.heap.size 0 [.int .i64 x, .string name, .nilFunc] (by kernel_rfl) (by kernel_rfl) TZ.out (by kernel_rfl) (by simp [Value.oneCell']) ?_)
        intro W4 HW4
        have ba : Below wr.heap.size wr (wr.alloc (.cells #[.int .i64 0, .string ⟨#[]⟩, .nilFunc] 101)) := (Below.refl _ wr).alloc (Nat.le_refl _) _
        have K4 : Hid (W4.heap[wr.heap.size]? = some (.cells #[.int .i64 x, .string name, .nilFunc] 101 (0, 0)) ∧ Below wr.heap.size wr W4) := Lib.hid (by
          rw [HW4.out]
          exact ⟨heap_setCells_same _ _ 0 _ (heap_alloc_new wr (.cells #[.int .i64 0, .string ⟨#[]⟩, .nilFunc] 101)), ba.trans (below_lay (Nat.le_refl _) _ _ _)⟩)
        have q1 := (cell_of_row W4 wr.heap.size 1 _ _ _ K4.out.1).trans (show (#[.int .i64 x, .string name, .nilFunc] : Array Value)[1]? = some (.string name) from rfl)
        have q2 := (cell_of_row W4 wr.heap.size 2 _ _ _ K4.out.1).trans (show (#[.int .i64 x, .string name, .nilFunc] : Array Value)[2]? = some (.nilFunc) from rfl)
        have O4 := Lib.hid (own_below OW.out K4.out.2)
        have B4 := Lib.hid (BB.out.trans (K4.out.2.mono BB.out.size))
        clear HW4 TZ ba g0 g1 g2
        go_wp2_with fail
        go_roundg (n - (k + 1))
        case measure => rw [HR.out]; omega
        case rel => exact ⟨k + 1, by omega, rfl, by first | rfl | simp, Lib.hid ⟨B4.out, by rw [HST.out]; simpa [heldN, HM.out, List.filter_cons] using (show W4.ownsRow w.heap.size 9 1 (.slice a3 m cc3) (heldN (L.take k)).length (sc (heldN (L.take k))) by rw [HM.out]; exact O4.out)⟩⟩
      · simp only [fnV] at g2
        have fnn := fn_some'
        have TZ : Hid ((wr.alloc (.cells #[.int .i64 0, .string ⟨#[]⟩, .nilFunc] 101)).there wr.heap.size 0 3) := Lib.hid (fun j hj => ⟨by
          rw [cell_of_row _ _ _ _ _ _ (heap_alloc_new wr (.cells #[.int .i64 0, .string ⟨#[]⟩, .nilFunc] 101))]
          exact Option.isSome_iff_exists.2 ⟨_, Array.getElem?_eq_getElem (by simp; omega)⟩, frozen_of_row _ _ _ _ _ (heap_alloc_new wr (.cells #[.int .i64 0, .string ⟨#[]⟩, .nilFunc] 101))⟩)
        go_wp2_with (refine wpList_store_all (by rfl) 101 (.tmp 5) (.tmp 16) (by rfl) wr.heap.size 0 [.int .i64 x, .string name, .func (.func kf) #[] cf] (by kernel_rfl) (by kernel_rfl) TZ.out (by kernel_rfl) (by simp [Value.oneCell']) ?_)
        intro W4 HW4
        have ba : Below wr.heap.size wr (wr.alloc (.cells #[.int .i64 0, .string ⟨#[]⟩, .nilFunc] 101)) := (Below.refl _ wr).alloc (Nat.le_refl _) _
        have K4 : Hid (W4.heap[wr.heap.size]? = some (.cells #[.int .i64 x, .string name, .func (.func kf) #[] cf] 101 (0, 0)) ∧ Below wr.heap.size wr W4) := Lib.hid (by
          rw [HW4.out]
          exact ⟨heap_setCells_same _ _ 0 _ (heap_alloc_new wr (.cells #[.int .i64 0, .string ⟨#[]⟩, .nilFunc] 101)), ba.trans (below_lay (Nat.le_refl _) _ _ _)⟩)
        have q1 := (cell_of_row W4 wr.heap.size 1 _ _ _ K4.out.1).trans (show (#[.int .i64 x, .string name, .func (.func kf) #[] cf] : Array Value)[1]? = some (.string name) from rfl)
        have q2 := (cell_of_row W4 wr.heap.size 2 _ _ _ K4.out.1).trans (show (#[.int .i64 x, .string name, .func (.func kf) #[] cf] : Array Value)[2]? = some (.func (.func kf) #[] cf) from rfl)
        have O4 := Lib.hid (own_below OW.out K4.out.2)
        have B4 := Lib.hid (BB.out.trans (K4.out.2.mono BB.out.size))
        clear HW4 TZ ba g0 g1 g2
        go_wp2_with (refine wpList_append_lies _ (by rfl) (.tmp 20) (.tmp 23) 37 (by rfl) w.heap.size 9 ir _ 1 16 Try.underlying37 hir hz0 hz1 hz2 rfl (by omega) (.slice a3 m cc3) m (sc (heldN (L.take k))) (by rfl) (O4.out.alloc _) ⟨W4.heap.size, 0, none⟩ 1 1 [.string name] (by rfl) (by rfl) (World.news_of_block (cs := #[.string name]) (t := 9) (fr := (0, 0)) (heap_alloc_new W4 _)) (by simp [Value.oneCell']) (by omega) (by unfold maxLen; omega) (by omega) (by have := B4.out.size; simp; omega) (W4.heap.size + 1) (by simp) ?_)
        intro g6 cap6 w6 hown hgrow hat hlt6
        have B6 := Lib.hid ((B4.out.alloc B4.out.size (.cells #[.string name] 9 (0, 0))).grown hgrow (by have := B4.out.size; simp; omega) (fun kk hk' => ((O4.out.lt kk hk').1)))
        have O6 := Lib.hid hown
        clear hown hgrow hat hlt6 q1 q2
        go_wp2_with fail
        go_roundg (n - (k + 1))
        case measure => rw [HR.out]; omega
        case rel => exact ⟨k + 1, by omega, rfl, by first | rfl | simp, Lib.hid ⟨B6.out, by rw [HST.out, show heldN [⟨x, name, some (kf, cf)⟩] = [name] from rfl, List.length_append, HM.out]; simpa [sc] using O6.out⟩⟩
    · obtain rfl : k = n := by omega
      have FIN : Hid (wr.ownsRow w.heap.size 9 1 (.slice a3 m cc3) (heldN L).length (sc (heldN L))) := Lib.hid (by
        have := OW.out
        rw [show L.take k = L by rw [← HN.out]; exact List.take_length] at this
        rw [show (heldN L).length = m by rw [← HM.out, ← HN.out, List.take_length]]
        exact this)
      go_wp2_with fail
      go_ret
      exact ⟨_, rfl, FIN.out, BB.out⟩
end Go.Proofs.Ytnkababhgloclaa
