/- Cards in memory of their own: the document's Twin, Twins. -/
import Derived.Test.YtnkababhgloclaaFamS
namespace Go.Proofs.Ytnkababhgloclaa
open Go.RowKit Go.ChangeShapes
theorem infoS : (Try.prog.info? 9).map (fun i => (i.zero, i.size, i.bytes)) = some (some (.string .empty), 1, 16) := by kernel_rfl
theorem infoC : (Try.prog.info? 50).map (fun i => (i.zero, i.size, i.bytes)) = some (some (.agg #[.string .empty, .string .empty, .int .u8 0, .slice none 0 0, .int .i8 0, .string .empty, .int .i16 0]), 7, 96) := by kernel_rfl
def Twinned (c : Cd) (w : World) (e : Ending) (w' : World) : Prop := ∃ g cap, e = .returned (.agg (c.cells (.slice (some ⟨g, 0, none⟩) c.comp.length cap)).toArray) ∧ w'.ownsRow w.heap.size 9 1 (.slice (some ⟨g, 0, none⟩) c.comp.length cap) c.comp.length (sc c.comp) ∧ Below w.heap.size w w'
set_option maxHeartbeats 8000000 in
set_option maxRecDepth 100000 in
theorem twin_walk (n f q : ByteArray) (l s e : Int) (ss : List ByteArray) (sl : Value) (w : World) (hs : Strs w sl ss) (hn : ss.length ≤ 8796093022208) :
    Calls Try.prog 18 #[.agg #[.string n, .string f, .int .u8 l, sl, .int .i8 s, .string q, .int .i16 e]] w (Twinned ⟨n, f, l, ss, s, q, e⟩ w) := by
  obtain ⟨is, hj, hy0, hy1, hy2⟩ := info_parts infoS
  obtain ⟨W2, hW2⟩ : ∃ W2, W2 = (w.alloc (.cells #[.string n, .string f, .int .u8 l, sl, .int .i8 s, .string q, .int .i16 e] 50)).alloc (.cells #[.string ⟨#[]⟩, .string ⟨#[]⟩, .int .u8 0, .slice none 0 0, .int .i8 0, .string ⟨#[]⟩, .int .i16 0] 50) := ⟨_, rfl⟩
  have hz2 : W2.heap.size = w.heap.size + 1 + 1 := by rw [hW2]; simp
  have o0 : Hid ((W2.alloc (.cells #[] 9)).ownsRow w.heap.size 9 1 (.slice (some ⟨W2.heap.size, 0, none⟩) 0 0) 0 (sc [])) := Lib.hid (World.ownsRow_lit (w := W2) #[] 0 (by omega) (by simp) rfl)
  have b1 : Below w.heap.size w (W2.alloc (.cells #[] 9)) := by rw [hW2]; exact (((Below.refl _ w).alloc (Nat.le_refl _) _).alloc (by simp; try omega) _).alloc (by simp; try omega) _
  have B1 := Lib.hid b1
  have HS := Lib.hid (hs.below b1)
  have ka : (W2.alloc (.cells #[] 9)).heap[w.heap.size]? = some (.cells #[.string n, .string f, .int .u8 l, sl, .int .i8 s, .string q, .int .i16 e] 50 (0, 0)) := by
    rw [hW2, heap_alloc_old _ _ (by simp; try omega), heap_alloc_old _ _ (by simp; try omega), heap_alloc_new]
  have kb : (W2.alloc (.cells #[] 9)).heap[w.heap.size + 1]? = some (.cells #[.string ⟨#[]⟩, .string ⟨#[]⟩, .int .u8 0, .slice none 0 0, .int .i8 0, .string ⟨#[]⟩, .int .i16 0] 50 (0, 0)) := by
    rw [heap_alloc_old _ _ (by omega), hW2]
    have := heap_alloc_new (w.alloc (.cells #[.string n, .string f, .int .u8 l, sl, .int .i8 s, .string q, .int .i16 e] 50)) (.cells #[.string ⟨#[]⟩, .string ⟨#[]⟩, .int .u8 0, .slice none 0 0, .int .i8 0, .string ⟨#[]⟩, .int .i16 0] 50)
    simpa using this
  have KA := Lib.hid ka
  have KB := Lib.hid kb
  have HZ := Lib.hid hz2
  have s1 : w.heap.size ≤ (W2.alloc (.cells #[] 9)).heap.size := b1.size
  have S1 := Lib.hid s1
  have hx : (W2.alloc (.cells #[] 9)).heap.size = w.heap.size + 1 + 1 + 1 := by simp [hz2]
  have HX := Lib.hid hx
  rw [hz2] at o0
  subst hW2
  clear ka kb hs b1 hz2 hx s1
  go_enter Try.func18, Try.ntmps18
  go_wp2_with (refine wpList_copyS (by rfl) (.tmp 3) (.tmp 5) 37 (by rfl) w.heap.size 9 is Try.underlying37 hj hy0 hy1 hy2 (w.heap.size + 1 + 1) 0 (by rfl) o0.out sl ss (by rfl) HS.out hn S1.out (w.heap.size + 1 + 1 + 1) HX.out ?_)
  intro g cap w1 hown hgrow hat hlt
  have hg : w.heap.size + 2 ≤ g := by rcases hat with rfl | rfl <;> omega
  have ha := (hgrow.block w.heap.size (by simp; try omega) (by simp; try omega)).trans KA.out
  have hb := (hgrow.block (w.heap.size + 1) (by simp; try omega) (by simp; try omega)).trans KB.out
  have k0 := (cell_of_row w1 w.heap.size 0 _ _ _ ha).trans rfl
  have k1 := (cell_of_row w1 w.heap.size 1 _ _ _ ha).trans rfl
  have k2 := (cell_of_row w1 w.heap.size 2 _ _ _ ha).trans rfl
  have k3 := (cell_of_row w1 w.heap.size 3 _ _ _ ha).trans rfl
  have k4 := (cell_of_row w1 w.heap.size 4 _ _ _ ha).trans rfl
  have k5 := (cell_of_row w1 w.heap.size 5 _ _ _ ha).trans rfl
  have k6 := (cell_of_row w1 w.heap.size 6 _ _ _ ha).trans rfl
  have fk := frozen_of_row w1 w.heap.size 3 _ _ ha
  have j0 := (cell_of_row w1 (w.heap.size + 1) 0 _ _ _ hb).trans rfl
  have f0 := frozen_of_row w1 (w.heap.size + 1) 0 _ _ hb
  have j1 := (cell_of_row w1 (w.heap.size + 1) 1 _ _ _ hb).trans rfl
  have f1 := frozen_of_row w1 (w.heap.size + 1) 1 _ _ hb
  have j2 := (cell_of_row w1 (w.heap.size + 1) 2 _ _ _ hb).trans rfl
  have f2 := frozen_of_row w1 (w.heap.size + 1) 2 _ _ hb
  have j3 := (cell_of_row w1 (w.heap.size + 1) 3 _ _ _ hb).trans rfl
  have f3 := frozen_of_row w1 (w.heap.size + 1) 3 _ _ hb
  have j4 := (cell_of_row w1 (w.heap.size + 1) 4 _ _ _ hb).trans rfl
  have f4 := frozen_of_row w1 (w.heap.size + 1) 4 _ _ hb
  have j5 := (cell_of_row w1 (w.heap.size + 1) 5 _ _ _ hb).trans rfl
  have f5 := frozen_of_row w1 (w.heap.size + 1) 5 _ _ hb
  have j6 := (cell_of_row w1 (w.heap.size + 1) 6 _ _ _ hb).trans rfl
  have f6 := frozen_of_row w1 (w.heap.size + 1) 6 _ _ hb
  have HO := Lib.hid hown
  have B2 := Lib.hid (B1.out.grown hgrow S1.out (fun k hk => by simp at hk; omega))
  clear ha hb hgrow hown hat
  go_wp2_with fail
  refine bodyPost_ret (v := .agg #[.string n, .string f, .int .u8 l, .slice (some ⟨g, 0, none⟩) ss.length cap, .int .i8 s, .string q, .int .i16 e]) (by simp [results, Try.results18, go_sem, *]) rfl ?_
  have nb : (Value.slice (some ⟨g, 0, none⟩) ss.length cap).ownBlock ≠ some w.heap.size := by simp [Value.ownBlock]; omega
  have nr : (Value.slice (some ⟨g, 0, none⟩) ss.length cap).ownBlock ≠ some (w.heap.size + 1) := by simp [Value.ownBlock]; omega
  refine ⟨g, cap, rfl, ?_, ?_⟩
  · refine ownsRow_setCell_other (ownsRow_setCell_other (ownsRow_setCell_other (ownsRow_setCell_other (ownsRow_setCell_other (ownsRow_setCell_other (ownsRow_setCell_other (ownsRow_setCell_other HO.out ?_ _) ?_ _) ?_ _) ?_ _) ?_ _) ?_ _) ?_ _) ?_ _
    all_goals first | exact nb | exact nr
  · refine Below.setCell (Below.setCell (Below.setCell (Below.setCell (Below.setCell (Below.setCell (Below.setCell (Below.setCell B2.out ?_ _) ?_ _) ?_ _) ?_ _) ?_ _) ?_ _) ?_ _) ?_ _
    all_goals (simp only []; omega)
theorem twin_any (c : Cd) (sl : Value) (w : World) (hs : Strs w sl c.comp) (hn : c.comp.length ≤ 8796093022208) : Calls Try.prog 18 #[.agg (c.cells sl).toArray] w (Twinned c w) :=
  twin_walk c.name c.fam c.quirk c.lvl c.score c.ent c.comp sl w hs hn
/-- The cards and their texts lie in memory of their own. -/
def Own (w : World) (B : Nat) (v : Value) (l : List (Cd × Value)) : Prop := w.ownsRow B 50 7 v l.length (ccells l) ∧ FamS w B 9 (l.map fun r => (r.2, r.1.comp))
def Twinsd (cs : List Cd) (w : World) (e : Ending) (w' : World) : Prop := ∃ vo l, e = .returned vo ∧ l.map (·.1) = cs ∧ Own w' w.heap.size vo l ∧ Below w.heap.size w w'
end Go.Proofs.Ytnkababhgloclaa
