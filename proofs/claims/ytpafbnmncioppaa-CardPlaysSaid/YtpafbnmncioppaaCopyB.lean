/- Cards copied: slices.Clone of texts, card.copied, card.all. -/
import Derived.Test.YtpafbnmncioppaaTwinC
namespace Go.Proofs.Ytpafbnmncioppaa
open Go.RowKit Go.ChangeShapes
def Cloned (ss : List ByteArray) (w : World) (e : Ending) (w' : World) : Prop := ∃ v a c, e = .returned v ∧ v = .slice a ss.length c ∧ w'.ownsRow w.heap.size 9 1 v ss.length (sc ss) ∧ Below w.heap.size w w'
set_option maxHeartbeats 2000000 in
set_option maxRecDepth 100000 in
theorem clone_any (v : Value) (ss : List ByteArray) (w : World) (hv : Strs w v ss) (hn : ss.length ≤ 8796093022208) : Calls Try.prog 55 #[v] w (Cloned ss w) := by
  obtain ⟨is, hj, hy0, hy1, hy2⟩ := info_parts infoS
  have hv' := hv
  obtain ⟨a, cap, rfl, _, _, hnil, _⟩ := hv'
  cases a with
  | none =>
    obtain ⟨rfl, rfl⟩ := hnil rfl
    have hq : ∀ w, Sem.run Try.prog (binOp BinOp.eql 34 (.slice none 0 0) (.slice none 0 0)) w = Result.ok (.bool true) w := fun w => by kernel_rfl
    clear hv hn hnil
    go_enter Try.func55, Try.ntmps55
    go_wp2_with fail
    go_ret
    exact ⟨_, _, _, rfl, rfl, World.ownsRow_nil _ _ _ _, Below.refl _ _⟩
  | some a =>
    have o0 : Hid ((w.alloc (.cells #[] 9)).ownsRow w.heap.size 9 1 (.slice (some ⟨w.heap.size, 0, none⟩) 0 0) 0 (sc [])) := Lib.hid (World.ownsRow_lit (w := w) #[] 0 (Nat.le_refl _) (by simp) rfl)
    have b1 : Below w.heap.size w (w.alloc (.cells #[] 9)) := (Below.refl _ w).alloc (Nat.le_refl _) _
    have B1 := Lib.hid b1
    have HS := Lib.hid (hv.below b1)
    have S1 : Hid (w.heap.size ≤ (w.alloc (.cells #[] 9)).heap.size) := Lib.hid b1.size
    have HX : Hid ((w.alloc (.cells #[] 9)).heap.size = w.heap.size + 1) := Lib.hid (by simp)
    have hq : ∀ w, Sem.run Try.prog (binOp BinOp.eql 34 (.slice (some a) ss.length cap) (.slice none 0 0)) w = Result.ok (.bool false) w := fun w => by kernel_rfl
    clear hv b1 hnil
    go_enter Try.func55, Try.ntmps55
    go_wp2_with (refine wpList_copyS (by rfl) (.tmp 5) (.tmp 6) 34 (by rfl) w.heap.size 9 is Try.underlying34 hj hy0 hy1 hy2 w.heap.size 0 (by rfl) o0.out _ ss (by rfl) HS.out hn S1.out (w.heap.size + 1) HX.out ?_)
    intro g cap1 w1 hown hgrow hat hlt
    have HO := Lib.hid hown
    have B2 := Lib.hid (B1.out.grown hgrow S1.out (fun k hk => by simp at hk; omega))
    clear hown hgrow hat
    go_wp2_with fail
    go_ret
    exact ⟨_, _, _, rfl, rfl, HO.out, B2.out⟩
def CopiedX (n f : ByteArray) (l : Int) (ss : List ByteArray) (s : Int) (q : ByteArray) (e : Int) (w : World) (er : Ending) (w' : World) : Prop := ∃ a c, er = .returned (.agg #[.string n, .string f, .int .u8 l, .slice a ss.length c, .int .i8 s, .string q, .int .i16 e]) ∧ w'.ownsRow w.heap.size 9 1 (.slice a ss.length c) ss.length (sc ss) ∧ Below w.heap.size w w'
set_option maxHeartbeats 8000000 in
set_option maxRecDepth 100000 in
theorem copied_walk (n f q : ByteArray) (l s e : Int) (ss : List ByteArray) (sl : Value) (w : World) (hs : Strs w sl ss) (hn : ss.length ≤ 8796093022208) :
    Calls Try.prog 46 #[.agg #[.string n, .string f, .int .u8 l, sl, .int .i8 s, .string q, .int .i16 e]] w (CopiedX n f l ss s q e w) := by
  obtain ⟨W2, hW2⟩ : ∃ W2, W2 = (w.alloc (.cells #[.string n, .string f, .int .u8 l, sl, .int .i8 s, .string q, .int .i16 e] 38)).alloc (.cells #[.string ⟨#[]⟩, .string ⟨#[]⟩, .int .u8 0, .slice none 0 0, .int .i8 0, .string ⟨#[]⟩, .int .i16 0] 38) := ⟨_, rfl⟩
  have hz2 : W2.heap.size = w.heap.size + 1 + 1 := by rw [hW2]; simp
  have b1 : Below w.heap.size w W2 := by rw [hW2]; exact ((Below.refl _ w).alloc (Nat.le_refl _) _).alloc (by simp; try omega) _
  have B1 := Lib.hid b1
  have HC := Lib.hid (clone_any sl ss W2 (hs.below b1) hn)
  have ka : W2.heap[w.heap.size]? = some (.cells #[.string n, .string f, .int .u8 l, sl, .int .i8 s, .string q, .int .i16 e] 38 (0, 0)) := by
    rw [hW2, heap_alloc_old _ _ (by simp; try omega), heap_alloc_new]
  have kb : W2.heap[w.heap.size + 1]? = some (.cells #[.string ⟨#[]⟩, .string ⟨#[]⟩, .int .u8 0, .slice none 0 0, .int .i8 0, .string ⟨#[]⟩, .int .i16 0] 38 (0, 0)) := by
    rw [hW2]
    have := heap_alloc_new (w.alloc (.cells #[.string n, .string f, .int .u8 l, sl, .int .i8 s, .string q, .int .i16 e] 38)) (.cells #[.string ⟨#[]⟩, .string ⟨#[]⟩, .int .u8 0, .slice none 0 0, .int .i8 0, .string ⟨#[]⟩, .int .i16 0] 38)
    simpa using this
  have KA := Lib.hid ka
  have KB := Lib.hid kb
  have HZ := Lib.hid hz2
  subst hW2
  clear hs b1 ka kb hz2
  go_enter Try.func46, Try.ntmps46
  go_wp2_with fail
  refine HC.out.mono ?_
  rintro er w1 ⟨v, a, c, rfl, rfl, hown, hb⟩
  rw [HZ.out] at hown hb
  have ha := (hb.block w.heap.size (by omega)).trans KA.out
  have hbb := (hb.block (w.heap.size + 1) (by omega)).trans KB.out
  have k0 := (cell_of_row w1 w.heap.size 0 _ _ _ ha).trans rfl
  have k1 := (cell_of_row w1 w.heap.size 1 _ _ _ ha).trans rfl
  have k2 := (cell_of_row w1 w.heap.size 2 _ _ _ ha).trans rfl
  have k3 := (cell_of_row w1 w.heap.size 3 _ _ _ ha).trans rfl
  have k4 := (cell_of_row w1 w.heap.size 4 _ _ _ ha).trans rfl
  have k5 := (cell_of_row w1 w.heap.size 5 _ _ _ ha).trans rfl
  have k6 := (cell_of_row w1 w.heap.size 6 _ _ _ ha).trans rfl
  have fk := frozen_of_row w1 w.heap.size 3 _ _ ha
  have j0 := (cell_of_row w1 (w.heap.size + 1) 0 _ _ _ hbb).trans rfl
  have f0 := frozen_of_row w1 (w.heap.size + 1) 0 _ _ hbb
  have j1 := (cell_of_row w1 (w.heap.size + 1) 1 _ _ _ hbb).trans rfl
  have f1 := frozen_of_row w1 (w.heap.size + 1) 1 _ _ hbb
  have j2 := (cell_of_row w1 (w.heap.size + 1) 2 _ _ _ hbb).trans rfl
  have f2 := frozen_of_row w1 (w.heap.size + 1) 2 _ _ hbb
  have j3 := (cell_of_row w1 (w.heap.size + 1) 3 _ _ _ hbb).trans rfl
  have f3 := frozen_of_row w1 (w.heap.size + 1) 3 _ _ hbb
  have j4 := (cell_of_row w1 (w.heap.size + 1) 4 _ _ _ hbb).trans rfl
  have f4 := frozen_of_row w1 (w.heap.size + 1) 4 _ _ hbb
  have j5 := (cell_of_row w1 (w.heap.size + 1) 5 _ _ _ hbb).trans rfl
  have f5 := frozen_of_row w1 (w.heap.size + 1) 5 _ _ hbb
  have j6 := (cell_of_row w1 (w.heap.size + 1) 6 _ _ _ hbb).trans rfl
  have f6 := frozen_of_row w1 (w.heap.size + 1) 6 _ _ hbb
  have HO := Lib.hid hown
  have B2 := Lib.hid (B1.out.trans (hb.mono (by omega)))
  clear ha hbb hown hb
  go_wp2_with fail
  refine bodyPost_ret (v := .agg #[.string n, .string f, .int .u8 l, .slice a ss.length c, .int .i8 s, .string q, .int .i16 e]) (by simp [results, Try.results46, go_sem, *]) rfl ?_
  have nb : (Value.slice a ss.length c).ownBlock ≠ some w.heap.size := fun h => by have := (HO.out.lt _ h).1; omega
  have nr : (Value.slice a ss.length c).ownBlock ≠ some (w.heap.size + 1) := fun h => by have := (HO.out.lt _ h).1; omega
  refine ⟨a, c, rfl, own_base ?_ (show w.heap.size ≤ w.heap.size + 1 + 1 by omega), ?_⟩
  · refine ownsRow_setCell_other (ownsRow_setCell_other (ownsRow_setCell_other (ownsRow_setCell_other (ownsRow_setCell_other (ownsRow_setCell_other (ownsRow_setCell_other (ownsRow_setCell_other HO.out ?_ _) ?_ _) ?_ _) ?_ _) ?_ _) ?_ _) ?_ _) ?_ _
    all_goals first | exact nb | exact nr
  · refine Below.setCell (Below.setCell (Below.setCell (Below.setCell (Below.setCell (Below.setCell (Below.setCell (Below.setCell B2.out ?_ _) ?_ _) ?_ _) ?_ _) ?_ _) ?_ _) ?_ _) ?_ _
    all_goals (simp only []; omega)
end Go.Proofs.Ytpafbnmncioppaa
