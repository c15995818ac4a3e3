/- ProbeBags: what the law knows of a thing; a thing's function is made; what the bag's calls do to the play. -/
import Derived.Test.YtnkababhgloclaaPlayC
namespace Go.Proofs.Ytnkababhgloclaa
open Go.RowKit Go.ChangeShapes
def zt6' : List Value := [.int .i64 0, .bool false, .string ⟨#[]⟩, .int .i64 0, .bool false, .string ⟨#[]⟩]
/-- What the document knows of a thing ahead of its number. -/
def bare (t : St) : RT := ⟨0, false, t.name, (behS t).code, (behS t).pan, (behS t).word⟩
theorem there6 {w : World} {p t : Nat} {C : Array Value} (h : w.heap[p]? = some (.cells C t (0, 0))) (hC : C.size = 6) : w.there p 0 6 := fun j hj => ⟨by
  rw [cell_of_row _ _ _ _ _ _ h]
  exact Option.isSome_iff_exists.2 ⟨_, Array.getElem?_eq_getElem (by omega)⟩, frozen_of_row _ _ _ _ _ h⟩
theorem lay6 {w : World} {p t : Nat} {C : Array Value} {a0 a1 a2 a3 a4 a5 : Value} (h : w.heap[p]? = some (.cells C t (0, 0))) (hC : C.size = 6) : (w.setCells p 0 [a0, a1, a2, a3, a4, a5]).heap[p]? = some (.cells #[a0, a1, a2, a3, a4, a5] t (0, 0)) := by
  obtain ⟨l⟩ := C
  obtain ⟨c0, c1, c2, c3, c4, c5, rfl⟩ := six22 l (by simpa using hC)
  rw [heap_setCells_same [a0, a1, a2, a3, a4, a5] w 0 _ h]
  simp [layA]
set_option maxHeartbeats 4000000 in
set_option maxRecDepth 100000 in
theorem thing_any (w : World) (t : St) : Calls Try.prog 43 #[.agg t.cells.toArray] w fun e w' => e = .returned (.agg (bare t).cells.toArray) ∧ Below w.heap.size w w' := by
  obtain ⟨kind, name, code, pan, word, sid⟩ := t
  change Calls Try.prog 43 #[.agg #[.int .i64 kind, .string name, .int .i64 code, .int .i64 pan, .string word, .int .i64 sid]] w _
  obtain ⟨w1, hw1⟩ : ∃ x, x = w.alloc (.cells #[.int .i64 kind, .string name, .int .i64 code, .int .i64 pan, .string word, .int .i64 sid] 36) := ⟨_, rfl⟩
  obtain ⟨w2, hw2⟩ : ∃ x, x = w1.alloc (.cells #[.int .i64 0, .bool false, .string ⟨#[]⟩, .int .i64 0, .bool false, .string ⟨#[]⟩] 92) := ⟨_, rfl⟩
  have c1 := heap_alloc_new w (.cells #[.int .i64 kind, .string name, .int .i64 code, .int .i64 pan, .string word, .int .i64 sid] 36)
  rw [← hw1] at c1
  have c2 := heap_alloc_new w1 (.cells #[.int .i64 0, .bool false, .string ⟨#[]⟩, .int .i64 0, .bool false, .string ⟨#[]⟩] 92)
  rw [← hw2] at c2
  have b1 : Below w.heap.size w w1 := by rw [hw1]; exact (Below.refl _ w).alloc (Nat.le_refl _) _
  have b2 : Below w1.heap.size w1 w2 := by rw [hw2]; exact (Below.refl _ w1).alloc (Nat.le_refl _) _
  have z1 : w1.heap.size = w.heap.size + 1 := by rw [hw1]; exact sz_alloc _ _
  have c1' := (b2.block w.heap.size (by omega)).trans c1
  obtain ⟨p1, hp1⟩ : ∃ p, p = w.heap.size := ⟨_, rfl⟩
  obtain ⟨p2, hp2⟩ : ∃ p, p = w.heap.size + 1 := ⟨_, rfl⟩
  rw [← hp1] at c1'
  rw [z1, ← hp2] at c2
  have HW1 := Lib.hid hw1
  have HW2 := Lib.hid hw2
  have HP1 := Lib.hid hp1
  have HP2 := Lib.hid hp2
  have C1 := Lib.hid c1'
  have C2 := Lib.hid c2
  have B2 : Hid (Below w.heap.size w w2) := Lib.hid (b1.trans (b2.mono b1.size))
  have NE : Hid (p1 ≠ p2) := Lib.hid (by omega)
  have LT : Hid (p1 < w2.heap.size ∧ p2 < w2.heap.size ∧ w.heap.size ≤ p2) := Lib.hid ⟨(Array.getElem?_eq_some_iff.1 c1').1, (Array.getElem?_eq_some_iff.1 c2).1, by omega⟩
  have x1 := (cell_of_row _ p1 1 _ _ _ c1').trans (show (#[Value.int .i64 kind, .string name, .int .i64 code, .int .i64 pan, .string word, .int .i64 sid] : Array Value)[1]? = some (.string name) from rfl)
  have x2 := (cell_of_row _ p1 2 _ _ _ c1').trans (show (#[Value.int .i64 kind, .string name, .int .i64 code, .int .i64 pan, .string word, .int .i64 sid] : Array Value)[2]? = some (.int .i64 code) from rfl)
  have TH := Lib.hid (zt6_there w2)
  clear c1 c2 b1 b2 z1 c1' hw1 hw2 hp1 hp2
  go_enter Try.func43, Try.ntmps43
  go_upto_region 1 with fail
  rw [← HW1.out, ← HW2.out, ← HP2.out, ← HP1.out]
  go_wp2_with (refine wpList_store_all (by rfl) 92 (.tmp 3) (.tmp 8) (by rfl) w2.heap.size 0 [.int .i64 0, .bool false, .string name, .int .i64 code, .bool false, .string ⟨#[]⟩] (by kernel_rfl) (by kernel_rfl) TH.out (by kernel_rfl) (rc6_one [⟨0, false, name, code, false, ⟨#[]⟩⟩]) ?_)
  intro w4 HW4
  obtain ⟨p3, hp3⟩ : ∃ p, p = w2.heap.size := ⟨_, rfl⟩
  rw [← hp3] at HW4 ⊢
  have bz : Below w2.heap.size w2 w4 := by
    rw [HW4.out, hp3]
    exact ((Below.refl w2.heap.size w2).alloc (Nat.le_refl _) _).trans (below_lay (Nat.le_refl _) _ _ _)
  have C3 : Hid (w4.heap[p3]? = some (.cells #[.int .i64 0, .bool false, .string name, .int .i64 code, .bool false, .string ⟨#[]⟩] 92 (0, 0))) := Lib.hid (by
    rw [HW4.out]
    exact lay6 (by rw [hp3]; exact heap_alloc_new w2 _) rfl)
  have D1 := Lib.hid ((bz.block p1 LT.out.1).trans C1.out)
  have D2 := Lib.hid ((bz.block p2 LT.out.2.1).trans C2.out)
  have B4 : Hid (Below w.heap.size w w4) := Lib.hid (B2.out.trans (bz.mono B2.out.size))
  have NE3 : Hid (p1 ≠ p3 ∧ p2 ≠ p3 ∧ w.heap.size ≤ p3) := Lib.hid (by
    have h1 := LT.out.1
    have h2 := LT.out.2.1
    have h3 := LT.out.2.2
    omega)
  clear HW4 bz hp3 x1 x2 TH C1 C2 B2 HW1 HW2 HP1 HP2
  have y3 := (cell_of_row _ p1 3 _ _ _ D1.out).trans (show (#[Value.int .i64 kind, .string name, .int .i64 code, .int .i64 pan, .string word, .int .i64 sid] : Array Value)[3]? = some (.int .i64 pan) from rfl)
  have y4 := (cell_of_row _ p1 4 _ _ _ D1.out).trans (show (#[Value.int .i64 kind, .string name, .int .i64 code, .int .i64 pan, .string word, .int .i64 sid] : Array Value)[4]? = some (.string word) from rfl)
  have g3 := frozen_of_row _ p3 3 _ _ C3.out
  have g4 := frozen_of_row _ p3 4 _ _ C3.out
  have g5 := frozen_of_row _ p3 5 _ _ C3.out
  have k3 := (cell_of_row _ p3 3 _ _ _ C3.out).trans (show (#[Value.int .i64 0, .bool false, .string name, .int .i64 code, .bool false, .string ⟨#[]⟩] : Array Value)[3]? = some (.int .i64 code) from rfl)
  have k4 := (cell_of_row _ p3 4 _ _ _ C3.out).trans (show (#[Value.int .i64 0, .bool false, .string name, .int .i64 code, .bool false, .string ⟨#[]⟩] : Array Value)[4]? = some (.bool false) from rfl)
  have k5 := (cell_of_row _ p3 5 _ _ _ C3.out).trans (show (#[Value.int .i64 0, .bool false, .string name, .int .i64 code, .bool false, .string ⟨#[]⟩] : Array Value)[5]? = some (.string ⟨#[]⟩) from rfl)
  have ne13 := NE3.out.1
  by_cases h0 : pan = 0
  · subst h0
    go_upto_region 7 with fail
    obtain ⟨w7, hw7⟩ : ∃ x, x = w4 := ⟨_, rfl⟩
    have B7 : Hid (Below w.heap.size w w7) := Lib.hid (by
      rw [hw7]
      exact B4.out)
    have c7 : w7.heap[p3]? = some (.cells #[.int .i64 0, .bool false, .string name, .int .i64 code, .bool false, .string ⟨#[]⟩] 92 (0, 0)) := by
      rw [hw7]
      exact C3.out
    have d7 : w7.heap[p2]? = some (.cells #[.int .i64 0, .bool false, .string ⟨#[]⟩, .int .i64 0, .bool false, .string ⟨#[]⟩] 92 (0, 0)) := by
      rw [hw7]
      exact D2.out
    rw [← hw7]
    have TH := Lib.hid (there6 d7 rfl)
    have D7 := Lib.hid d7
    have z0 := (cell_of_row _ p3 0 _ _ _ c7).trans rfl
    have z1 := (cell_of_row _ p3 1 _ _ _ c7).trans rfl
    have z2 := (cell_of_row _ p3 2 _ _ _ c7).trans rfl
    have z3 := (cell_of_row _ p3 3 _ _ _ c7).trans rfl
    have z4 := (cell_of_row _ p3 4 _ _ _ c7).trans rfl
    have z5 := (cell_of_row _ p3 5 _ _ _ c7).trans rfl
    clear hw7 c7 d7 y3 y4 g3 g4 g5 k3 k4 k5
    go_wp2_with (refine wpList_store_all (by rfl) 92 (.tmp 2) (.tmp 20) (by rfl) p2 0 [.int .i64 0, .bool false, .string name, .int .i64 code, .bool false, .string ⟨#[]⟩] (by kernel_rfl) (by kernel_rfl) TH.out (by kernel_rfl) (rc6_one [⟨0, false, name, code, false, ⟨#[]⟩⟩]) ?_)
    intro w8 HW8
    have c8 : w8.heap[p2]? = some (.cells #[.int .i64 0, .bool false, .string name, .int .i64 code, .bool false, .string ⟨#[]⟩] 92 (0, 0)) := by
      rw [HW8.out]
      exact lay6 D7.out rfl
    have B8 : Hid (Below w.heap.size w w8) := Lib.hid (by
      rw [HW8.out]
      exact B7.out.trans (below_lay LT.out.2.2 _ _ _))
    have v0 := (cell_of_row _ p2 0 _ _ _ c8).trans rfl
    have v1 := (cell_of_row _ p2 1 _ _ _ c8).trans rfl
    have v2 := (cell_of_row _ p2 2 _ _ _ c8).trans rfl
    have v3 := (cell_of_row _ p2 3 _ _ _ c8).trans rfl
    have v4 := (cell_of_row _ p2 4 _ _ _ c8).trans rfl
    have v5 := (cell_of_row _ p2 5 _ _ _ c8).trans rfl
    clear HW8 c8 z0 z1 z2 z3 z4 z5
    go_wp2_with fail
    refine bodyPost_ret (v := .agg #[.int .i64 0, .bool false, .string name, .int .i64 code, .bool false, .string ⟨#[]⟩]) (by simp [results, Try.results43, go_sem, v0, v1, v2, v3, v4, v5]) rfl ?_
    exact ⟨rfl, B8.out⟩
  · by_cases h1 : pan = 1
    · subst h1
      go_upto_region 7 with fail
      obtain ⟨w7, hw7⟩ : ∃ x, x = ((w4.setCell ⟨p3, 3, none⟩ (.int .i64 0)).setCell ⟨p3, 4, none⟩ (.bool true)).setCell ⟨p3, 5, none⟩ (.string word) := ⟨_, rfl⟩
      have B7 : Hid (Below w.heap.size w w7) := Lib.hid (by
        rw [hw7]
        exact ((B4.out.setCell (p := ⟨p3, 3, none⟩) NE3.out.2.2 _).setCell (p := ⟨p3, 4, none⟩) NE3.out.2.2 _).setCell (p := ⟨p3, 5, none⟩) NE3.out.2.2 _)
      have c7 : w7.heap[p3]? = some (.cells #[.int .i64 0, .bool false, .string name, .int .i64 0, .bool true, .string word] 92 (0, 0)) := by
        rw [hw7]
        exact heap_setCell_same _ p3 5 _ _ _ (heap_setCell_same _ p3 4 _ _ _ (heap_setCell_same _ p3 3 _ _ _ C3.out))
      have d7 : w7.heap[p2]? = some (.cells #[.int .i64 0, .bool false, .string ⟨#[]⟩, .int .i64 0, .bool false, .string ⟨#[]⟩] 92 (0, 0)) := by
        rw [hw7]
        exact (Below.heap_setCell _ ⟨p3, 5, none⟩ _ p2 (by simpa using NE3.out.2.1)).trans ((Below.heap_setCell _ ⟨p3, 4, none⟩ _ p2 (by simpa using NE3.out.2.1)).trans ((Below.heap_setCell _ ⟨p3, 3, none⟩ _ p2 (by simpa using NE3.out.2.1)).trans D2.out))
      rw [← hw7]
      have TH := Lib.hid (there6 d7 rfl)
      have D7 := Lib.hid d7
      have z0 := (cell_of_row _ p3 0 _ _ _ c7).trans rfl
      have z1 := (cell_of_row _ p3 1 _ _ _ c7).trans rfl
      have z2 := (cell_of_row _ p3 2 _ _ _ c7).trans rfl
      have z3 := (cell_of_row _ p3 3 _ _ _ c7).trans rfl
      have z4 := (cell_of_row _ p3 4 _ _ _ c7).trans rfl
      have z5 := (cell_of_row _ p3 5 _ _ _ c7).trans rfl
      clear hw7 c7 d7 y3 y4 g3 g4 g5 k3 k4 k5
      go_wp2_with (refine wpList_store_all (by rfl) 92 (.tmp 2) (.tmp 20) (by rfl) p2 0 [.int .i64 0, .bool false, .string name, .int .i64 0, .bool true, .string word] (by kernel_rfl) (by kernel_rfl) TH.out (by kernel_rfl) (rc6_one [⟨0, false, name, 0, true, word⟩]) ?_)
      intro w8 HW8
      have c8 : w8.heap[p2]? = some (.cells #[.int .i64 0, .bool false, .string name, .int .i64 0, .bool true, .string word] 92 (0, 0)) := by
        rw [HW8.out]
        exact lay6 D7.out rfl
      have B8 : Hid (Below w.heap.size w w8) := Lib.hid (by
        rw [HW8.out]
        exact B7.out.trans (below_lay LT.out.2.2 _ _ _))
      have v0 := (cell_of_row _ p2 0 _ _ _ c8).trans rfl
      have v1 := (cell_of_row _ p2 1 _ _ _ c8).trans rfl
      have v2 := (cell_of_row _ p2 2 _ _ _ c8).trans rfl
      have v3 := (cell_of_row _ p2 3 _ _ _ c8).trans rfl
      have v4 := (cell_of_row _ p2 4 _ _ _ c8).trans rfl
      have v5 := (cell_of_row _ p2 5 _ _ _ c8).trans rfl
      clear HW8 c8 z0 z1 z2 z3 z4 z5
      go_wp2_with fail
      refine bodyPost_ret (v := .agg #[.int .i64 0, .bool false, .string name, .int .i64 0, .bool true, .string word]) (by simp [results, Try.results43, go_sem, v0, v1, v2, v3, v4, v5]) rfl ?_
      exact ⟨rfl, B8.out⟩
    · have HBH : Hid (behS ⟨kind, name, code, pan, word, sid⟩ = .num pan) := Lib.hid (by unfold behS; rw [if_neg h0, if_neg h1])
      go_upto_region 7 with fail
      obtain ⟨w7, hw7⟩ : ∃ x, x = (w4.setCell ⟨p3, 3, none⟩ (.int .i64 0)).setCell ⟨p3, 4, none⟩ (.bool true) := ⟨_, rfl⟩
      have B7 : Hid (Below w.heap.size w w7) := Lib.hid (by
        rw [hw7]
        exact (B4.out.setCell (p := ⟨p3, 3, none⟩) NE3.out.2.2 _).setCell (p := ⟨p3, 4, none⟩) NE3.out.2.2 _)
      have c7 : w7.heap[p3]? = some (.cells #[.int .i64 0, .bool false, .string name, .int .i64 0, .bool true, .string ⟨#[]⟩] 92 (0, 0)) := by
        rw [hw7]
        exact heap_setCell_same _ p3 4 _ _ _ (heap_setCell_same _ p3 3 _ _ _ C3.out)
      have d7 : w7.heap[p2]? = some (.cells #[.int .i64 0, .bool false, .string ⟨#[]⟩, .int .i64 0, .bool false, .string ⟨#[]⟩] 92 (0, 0)) := by
        rw [hw7]
        exact (Below.heap_setCell _ ⟨p3, 4, none⟩ _ p2 (by simpa using NE3.out.2.1)).trans ((Below.heap_setCell _ ⟨p3, 3, none⟩ _ p2 (by simpa using NE3.out.2.1)).trans D2.out)
      rw [← hw7]
      have TH := Lib.hid (there6 d7 rfl)
      have D7 := Lib.hid d7
      have z0 := (cell_of_row _ p3 0 _ _ _ c7).trans rfl
      have z1 := (cell_of_row _ p3 1 _ _ _ c7).trans rfl
      have z2 := (cell_of_row _ p3 2 _ _ _ c7).trans rfl
      have z3 := (cell_of_row _ p3 3 _ _ _ c7).trans rfl
      have z4 := (cell_of_row _ p3 4 _ _ _ c7).trans rfl
      have z5 := (cell_of_row _ p3 5 _ _ _ c7).trans rfl
      clear hw7 c7 d7 y3 y4 g3 g4 g5 k3 k4 k5
      go_wp2_with (refine wpList_store_all (by rfl) 92 (.tmp 2) (.tmp 20) (by rfl) p2 0 [.int .i64 0, .bool false, .string name, .int .i64 0, .bool true, .string ⟨#[]⟩] (by kernel_rfl) (by kernel_rfl) TH.out (by kernel_rfl) (rc6_one [⟨0, false, name, 0, true, ⟨#[]⟩⟩]) ?_)
      intro w8 HW8
      have c8 : w8.heap[p2]? = some (.cells #[.int .i64 0, .bool false, .string name, .int .i64 0, .bool true, .string ⟨#[]⟩] 92 (0, 0)) := by
        rw [HW8.out]
        exact lay6 D7.out rfl
      have B8 : Hid (Below w.heap.size w w8) := Lib.hid (by
        rw [HW8.out]
        exact B7.out.trans (below_lay LT.out.2.2 _ _ _))
      have v0 := (cell_of_row _ p2 0 _ _ _ c8).trans rfl
      have v1 := (cell_of_row _ p2 1 _ _ _ c8).trans rfl
      have v2 := (cell_of_row _ p2 2 _ _ _ c8).trans rfl
      have v3 := (cell_of_row _ p2 3 _ _ _ c8).trans rfl
      have v4 := (cell_of_row _ p2 4 _ _ _ c8).trans rfl
      have v5 := (cell_of_row _ p2 5 _ _ _ c8).trans rfl
      clear HW8 c8 z0 z1 z2 z3 z4 z5
      go_wp2_with fail
      refine bodyPost_ret (v := .agg #[.int .i64 0, .bool false, .string name, .int .i64 0, .bool true, .string ⟨#[]⟩]) (by simp [results, Try.results43, go_sem, v0, v1, v2, v3, v4, v5]) rfl ?_
      exact ⟨by unfold bare; rw [HBH.out]; rfl, B8.out⟩
set_option maxHeartbeats 4000000 in
/-- A thing's function is made: its three boxes. -/
theorem made_any (w : World) (q : Nat) (id : Int) (t : St) : Calls Try.prog 42 #[.pointer (some ⟨q, 0, none⟩), .int .i64 id, .agg t.cells.toArray] w fun e w' => ∃ p0 p1 p2, w.heap.size ≤ p0 ∧ w.heap.size ≤ p1 ∧ w.heap.size ≤ p2 ∧ e = .returned (.func (.func 68) #[] #[.pointer (some ⟨p0, 0, none⟩), .pointer (some ⟨p1, 0, none⟩), .pointer (some ⟨p2, 0, none⟩)]) ∧ w'.heap[p0]? = some (.cells #[.pointer (some ⟨q, 0, none⟩)] 23 (0, 0)) ∧ w'.heap[p1]? = some (.cells #[.int .i64 id] 3 (0, 0)) ∧ w'.heap[p2]? = some (.cells t.cells.toArray 36 (0, 0)) ∧ Below w.heap.size w w' := by
  obtain ⟨kind, name, code, pan, word, sid⟩ := t
  change Calls Try.prog 42 #[.pointer (some ⟨q, 0, none⟩), .int .i64 id, .agg #[.int .i64 kind, .string name, .int .i64 code, .int .i64 pan, .string word, .int .i64 sid]] w _
  have hmf : ∀ (fn : Fn) (first cap : Array Value) (w : World), (Instr.makeFunc fn first cap).run Try.prog w = .ok (.func fn first cap) w := fun _ _ _ _ => rfl
  go_enter Try.func42, Try.ntmps42
  go_wp2_with fail
  go_ret
  obtain ⟨w1, hw1⟩ : ∃ x, x = w.alloc (.cells #[.pointer (some ⟨q, 0, none⟩)] 23) := ⟨_, rfl⟩
  obtain ⟨w2, hw2⟩ : ∃ x, x = w1.alloc (.cells #[.int .i64 id] 3) := ⟨_, rfl⟩
  obtain ⟨w3, hw3⟩ : ∃ x, x = w2.alloc (.cells #[.int .i64 kind, .string name, .int .i64 code, .int .i64 pan, .string word, .int .i64 sid] 36) := ⟨_, rfl⟩
  have z1 : w1.heap.size = w.heap.size + 1 := by rw [hw1]; exact sz_alloc _ _
  have z2 : w2.heap.size = w1.heap.size + 1 := by rw [hw2]; exact sz_alloc _ _
  have b1 : Below w.heap.size w w1 := by rw [hw1]; exact (Below.refl _ w).alloc (Nat.le_refl _) _
  have b2 : Below w1.heap.size w1 w2 := by rw [hw2]; exact (Below.refl _ w1).alloc (Nat.le_refl _) _
  have b3 : Below w2.heap.size w2 w3 := by rw [hw3]; exact (Below.refl _ w2).alloc (Nat.le_refl _) _
  have e1 := heap_alloc_new w (.cells #[.pointer (some ⟨q, 0, none⟩)] 23)
  rw [← hw1] at e1
  have e2 := heap_alloc_new w1 (.cells #[.int .i64 id] 3)
  rw [← hw2] at e2
  have e3 := heap_alloc_new w2 (.cells #[.int .i64 kind, .string name, .int .i64 code, .int .i64 pan, .string word, .int .i64 sid] 36)
  rw [← hw3] at e3
  simp only [← hw1, ← hw2, ← hw3]
  rw [z1] at e2
  rw [z2, z1] at e3
  exact ⟨w.heap.size, w.heap.size + 1, w.heap.size + 1 + 1, Nat.le_refl _, by omega, by omega, rfl, (b3.block _ (by omega)).trans ((b2.block _ (by omega)).trans e1), (b3.block _ (by omega)).trans e2, e3, b1.trans ((b2.mono (by omega)).trans (b3.mono (by omega)))⟩
/-- How a thing's undoing ends, read off its step's box. -/
def readBeh (w : World) (t : Th) : Beh :=
  match t.fn with
  | some (_, c) => match c[2]? with
    | some (Value.pointer (some a)) => match w.heap[a.block]? with
      | some (Obj.cells C _ _) => match C[2]?, C[3]?, C[4]? with
        | some (Value.int _ code), some (Value.int _ pan), some (Value.string word) => behS ⟨0, ⟨#[]⟩, code, pan, word, 0⟩
        | _, _, _ => .ret 0
      | _ => .ret 0
    | _ => .ret 0
  | none => .ret 0
theorem readBeh_of {w : World} {id : Int} {nm : ByteArray} {k p2 : Nat} {a b : Value} {s : St} (h : w.heap[p2]? = some (.cells s.cells.toArray 36 (0, 0))) : readBeh w ⟨id, nm, some (k, #[a, b, .pointer (some ⟨p2, 0, none⟩)])⟩ = behS s := by
  simp [readBeh, h, St.cells, behS]
theorem readBeh_mark (w : World) (id : Int) (nm : ByteArray) : readBeh w ⟨id, nm, none⟩ = .ret 0 := rfl
/-- A thing, as the document has it. -/
def rtOf (w : World) (t : Th) : RT := ⟨t.id, t.fn.isNone, t.name, (readBeh w t).code, (readBeh w t).pan, (readBeh w t).word⟩
/-- Each thing's function is the law's closure, over its three boxes. -/
def BoxP (w : World) (q : Nat) (L : List Th) : Prop := ∀ t ∈ L, ∀ k c, t.fn = some (k, c) → ∃ p0 p1 p2 s, k = 68 ∧ c = #[.pointer (some ⟨p0, 0, none⟩), .pointer (some ⟨p1, 0, none⟩), .pointer (some ⟨p2, 0, none⟩)] ∧ w.heap[p0]? = some (.cells #[.pointer (some ⟨q, 0, none⟩)] 23 (0, 0)) ∧ w.heap[p1]? = some (.cells #[.int .i64 t.id] 3 (0, 0)) ∧ w.heap[p2]? = some (.cells (St.cells s).toArray 36 (0, 0))
/-- The boxes' blocks are as they were. -/
def Old (w x : World) : Prop := ∀ (p : Nat) (C : Array Value) (ty : TypeId), w.heap[p]? = some (.cells C ty (0, 0)) → ty = 23 ∨ ty = 3 ∨ ty = 36 → x.heap[p]? = some (.cells C ty (0, 0))
theorem Old.refl (w : World) : Old w w := fun _ _ _ h _ => h
theorem Old.trans {w x y : World} (h : Old w x) (k : ∀ (p : Nat) (C : Array Value) (ty : TypeId), p < w.heap.size → x.heap[p]? = some (.cells C ty (0, 0)) → ty = 23 ∨ ty = 3 ∨ ty = 36 → y.heap[p]? = some (.cells C ty (0, 0))) : Old w y :=
  fun p C ty hp ht => k p C ty (Array.getElem?_eq_some_iff.1 hp).1 (h p C ty hp ht) ht
theorem Old.rel {w x x' : World} {B : Nat} {S : Nat → Obj → Prop} (h : Old w x) (hr : Rel B S x x') (hs : ∀ k C z, k < w.heap.size → ¬ S k (.cells C 23 z) ∧ ¬ S k (.cells C 3 z) ∧ ¬ S k (.cells C 36 z)) : Old w x' :=
  h.trans fun p C ty hp hx ht => hr.block hx (fun _ => by
    rcases ht with rfl | rfl | rfl
    · exact (hs p C _ hp).1
    · exact (hs p C _ hp).2.1
    · exact (hs p C _ hp).2.2)
theorem BoxP.old {w x : World} {q : Nat} {L : List Th} (h : BoxP w q L) (ho : Old w x) : BoxP x q L := fun t ht k c hf => by
  obtain ⟨p0, p1, p2, s, h1, h2, h3, h4, h5⟩ := h t ht k c hf
  exact ⟨p0, p1, p2, s, h1, h2, ho _ _ _ h3 (.inl rfl), ho _ _ _ h4 (.inr (.inl rfl)), ho _ _ _ h5 (.inr (.inr rfl))⟩
theorem BoxP.beh {w x : World} {q : Nat} {L : List Th} (h : BoxP w q L) (ho : Old w x) {t : Th} (ht : t ∈ L) : readBeh x t = readBeh w t := by
  obtain ⟨id, nm, fn⟩ := t
  cases fn with
  | none => rfl
  | some kc =>
    obtain ⟨k, c⟩ := kc
    obtain ⟨p0, p1, p2, s, h1, h2, h3, h4, h5⟩ := h _ ht k c rfl
    subst h2
    rw [readBeh_of h5, readBeh_of (ho _ _ _ h5 (.inr (.inr rfl)))]
theorem BoxP.rts {w x : World} {q : Nat} {L : List Th} (h : BoxP w q L) (ho : Old w x) : L.map (rtOf x) = L.map (rtOf w) :=
  List.map_congr_left fun t ht => by unfold rtOf; rw [h.beh ho ht]
theorem BoxP.sub {w : World} {q : Nat} {L L' : List Th} (h : BoxP w q L) (hs : ∀ t ∈ L', t ∈ L) : BoxP w q L' := fun t ht => h t (hs t ht)
theorem box_enterP {w : World} {q : Nat} {L : List Th} (hbox : BoxP w q L) {t : Th} (ht : t ∈ L) {k : Nat} {c : Array Value} (hf : t.fn = some (k, c)) (x : World) : (callFunc k c).run Try.prog x = .ok (.enter k c) x := by
  obtain ⟨p0, p1, p2, st, rfl, rfl, _⟩ := hbox t ht k c hf
  kernel_rfl
/-- The play, as the bag's calls find it: those called since the step began, what each found. -/
def IP (w : World) (q b m : Nat) (s : List Int × List Int) (x : World) : Prop := PlayI x q b m w.heap.size s.1 s.2 ∧ Old w x ∧ w.heap.size ≤ x.heap.size
theorem IP.rel {w x x' : World} {B q b m : Nat} {s : List Int × List Int} {S : Nat → Obj → Prop} (h : IP w q b m s x) (hr : Rel B S x x') (hs : ∀ k C z, ¬ S k (.cells C 32 z) ∧ ¬ S k (.cells C 23 z) ∧ ¬ S k (.cells C 3 z) ∧ ¬ S k (.cells C 36 z)) : IP w q b m s x' :=
  ⟨h.1.rel hr (fun C z => (hs _ _ _).1) (fun k C z _ => (hs _ _ _).2.2.1), h.2.1.rel hr (fun k C z _ => (hs k C z).2), Nat.le_trans h.2.2 hr.size⟩
theorem only3 {b N : Nat} {S : Nat → Obj → Prop} (hS : S = SX b N (fun _ _ => False) ∨ S = SC b N (fun _ _ => False)) : ∀ k C t z, (t ≠ 89 ∧ t ≠ 101 ∧ t ≠ 83) → ¬ S k (.cells C t z) := fun k C t z ht ho => by
  have key : ∃ C' t' z', (Obj.cells C t z) = .cells C' t' z' ∧ (t' = 89 ∨ t' = 101 ∨ t' = 83) := by
    rcases hS with rfl | rfl
    · rcases ho with (⟨_, C, z, e⟩ | ⟨C, z, e⟩) | ⟨_, C, z, e⟩ | e
      · exact ⟨C, _, z, e, .inl rfl⟩
      · exact ⟨C, _, z, e, .inr (.inl rfl)⟩
      · exact ⟨C, _, z, e, .inr (.inr rfl)⟩
      · exact e.elim
    · rcases ho with ⟨C, z, e⟩ | ⟨C, z, e⟩ | ⟨_, C, z, e⟩ | e
      · exact ⟨C, _, z, e, .inl rfl⟩
      · exact ⟨C, _, z, e, .inr (.inl rfl)⟩
      · exact ⟨C, _, z, e, .inr (.inr rfl)⟩
      · exact e.elim
  obtain ⟨C', t', z', e, h⟩ := key
  injection e with _ e2 _
  subst e2
  rcases h with h | h | h
  · exact ht.1 h
  · exact ht.2.1 h
  · exact ht.2.2 h
theorem no4 {b N : Nat} {S : Nat → Obj → Prop} (hS : S = SX b N (fun _ _ => False) ∨ S = SC b N (fun _ _ => False)) : ∀ k C z, ¬ S k (.cells C 32 z) ∧ ¬ S k (.cells C 23 z) ∧ ¬ S k (.cells C 3 z) ∧ ¬ S k (.cells C 36 z) := fun k C z =>
  ⟨only3 hS _ _ _ _ (by decide), only3 hS _ _ _ _ (by decide), only3 hS _ _ _ _ (by decide), only3 hS _ _ _ _ (by decide)⟩
theorem SP_no {q N0 : Nat} : ∀ k C z, ¬ SP q N0 k (.cells C 24 z) ∧ ¬ SP q N0 k (.cells C 101 z) ∧ ¬ SP q N0 k (.cells C 83 z) ∧ ¬ SP q N0 k (.cells C 89 z) := fun k C z =>
  ⟨SP_not (by decide) (by decide) _ _ _, SP_not (by decide) (by decide) _ _ _, SP_not (by decide) (by decide) _ _ _, SP_not (by decide) (by decide) _ _ _⟩
theorem p_hu {w x : World} {B q b m : Nat} {s : List Int × List Int} {L R : List Th} {last : Int} {busy closed : Bool} (hd : (closed || busy) = true) (hbox : BoxP w q L) (hB : B ≤ q) (hBw : B ≤ w.heap.size) {t : Th} (ht : t ∈ L) {k : Nat} {c : Array Value} (hf : t.fn = some (k, c)) (hs1 : s.1.length ≤ 600) (hs2 : s.2.length ≤ 600) (hx : IP w q b m s x) (hb : BagAt x B b R last busy closed) (hR : R.length ≤ 256) :
    Calls Try.prog k c x fun e x' => e = (readBeh w t).ending ∧ Rel B (SP q w.heap.size) x x' ∧ IP w q b m (s.1 ++ [t.id], s.2 ++ [(((heldN R).length : Nat) : Int)]) x' := by
  obtain ⟨id, nm, fn⟩ := t
  simp only at hf
  subst hf
  obtain ⟨p0, p1, p2, st, rfl, rfl, h0, h1, h2⟩ := hbox _ ht _ _ rfl
  have l1 := (Array.getElem?_eq_some_iff.1 h1).1
  refine (ufn_any (B := B) (t := st) hx.1 ⟨hb, hx.2.1 _ _ _ h0 (.inl rfl), hx.2.1 _ _ _ h1 (.inr (.inl rfl)), hx.2.1 _ _ _ h2 (.inr (.inr rfl))⟩ hd hR l1 hs1 hs2 hx.2.2 hB hBw).mono (fun e x' he => ⟨?_, he.2.2, he.2.1, ?_, Nat.le_trans hx.2.2 he.2.2.size⟩)
  · rw [he.1, readBeh_of h2]
  · refine hx.2.1.rel he.2.2 (fun k C z hk => ⟨SP_not (by decide) (by decide) _ _ _, fun ho => ?_, SP_not (by decide) (by decide) _ _ _⟩)
    rcases ho with ⟨_, C', z', e⟩ | ⟨h, _⟩
    · injection e with _ e4 _
      exact absurd e4 (by decide)
    · omega
/-! What the calls come to, plainly. -/
def isT (t : Th) : Bool := t.fn.isSome
def rsOf (w : World) (M : List Th) : List Rs := (M.filter isT).map fun t => ⟨t.id, t.name, readBeh w t⟩
def idsP (M : List Th) : List Int := (M.filter isT).map (·.id)
def cntT (L : List Th) : Nat := (heldN L).length
def fndL (L0 : List Th) : List Th → List Int
  | [] => []
  | t :: rest => match t.fn with
    | none => fndL L0 rest
    | some _ => ((cntT (L0 ++ rest.reverse) : Nat) : Int) :: fndL L0 rest
def nx1 (s : List Int × List Int) (t : Th) (R : List Th) : List Int × List Int := (s.1 ++ [t.id], s.2 ++ [((cntT R : Nat) : Int)])
def nx0 (s : List Int × List Int) (t : Th) (_ : List Th) : List Int × List Int := (s.1 ++ [t.id], s.2 ++ [(0 : Int)])
theorem runB_1 (w : World) (L0 : List Th) : ∀ (M : List Th) (s : List Int × List Int), runB (fun _ t _ => readBeh w t) nx1 L0 M s = ((s.1 ++ idsP M, s.2 ++ fndL L0 M), rsOf w M)
  | [], s => by simp [runB, idsP, fndL, rsOf]
  | ⟨id, nm, none⟩ :: rest, s => by
    rw [runB]
    simp only
    rw [runB_1 w L0 rest s]
    simp [idsP, rsOf, fndL, isT]
  | ⟨id, nm, some kc⟩ :: rest, s => by
    rw [runB]
    simp only
    rw [runB_1 w L0 rest]
    simp [idsP, rsOf, fndL, isT, nx1, List.filter_cons, cntT]
theorem runB_0 (w : World) (L0 : List Th) : ∀ (M : List Th) (s : List Int × List Int), runB (fun _ t _ => readBeh w t) nx0 L0 M s = ((s.1 ++ idsP M, s.2 ++ List.replicate (idsP M).length 0), rsOf w M)
  | [], s => by simp [runB, idsP, rsOf]
  | ⟨id, nm, none⟩ :: rest, s => by
    rw [runB]
    simp only
    rw [runB_0 w L0 rest s]
    simp [idsP, rsOf, isT]
  | ⟨id, nm, some kc⟩ :: rest, s => by
    rw [runB]
    simp only
    rw [runB_0 w L0 rest]
    simp [idsP, rsOf, isT, nx0, List.replicate_succ, List.filter_cons]
theorem rch_n {nx : List Int × List Int → Th → List Th → List Int × List Int} (h1 : ∀ s t R, (nx s t R).1.length = s.1.length + 1) (h2 : ∀ s t R, (nx s t R).2.length = s.2.length + 1) {n : Nat} {s : List Int × List Int} (h : Rch nx ([], []) n s) : s.1.length = n ∧ s.2.length = n := by
  induction h with
  | zero => exact ⟨rfl, rfl⟩
  | succ _ ih => rw [h1, h2, ih.1, ih.2]; exact ⟨rfl, rfl⟩
theorem IP.zero {w : World} {q b m : Nat} (h : PlayI w q b m w.heap.size [] []) : IP w q b m ([], []) w := ⟨h, Old.refl w, Nat.le_refl _⟩
/-- What a step writes of what stood there. -/
def ST (q b m N : Nat) (k : Nat) (o : Obj) : Prop := SX b N (SP q N) k o ∨ SD m k o
theorem p_back {w : World} {B q b m : Nat} {L : List Th} {last : Int} (h : BagAt w B b L last false false) (hl : L.length ≤ 256) (hB : B ≤ w.heap.size) (hBq : B ≤ q) (hbox : BoxP w q L) (hI : PlayI w q b m w.heap.size [] []) (id : Int) (i : Nat) (hp : posT L id true = some i) :
    Calls Try.prog 28 #[.pointer (some ⟨b, 0, none⟩), .int .i64 id] w fun e w' => ∃ v, e = .returned (.tuple #[v, .int .i64 0]) ∧ w'.ownsRow w.heap.size 83 5 v (rsOf w (L.drop i).reverse).length (rl (rsOf w (L.drop i).reverse)) ∧ BagAt w' B b (L.take i) last false false ∧ IP w q b m (idsP (L.drop i).reverse, fndL (L.take i) (L.drop i).reverse) w' ∧ Rel B (SX b w.heap.size (SP q w.heap.size)) w w' := by
  have hh := bback_some (fun _ t _ => readBeh w t) nx1 (fun s x => IP w q b m s x) (SP q w.heap.size) ([], []) h hl id i hp hB (IP.zero hI) SP_no
    (fun s x x' hx hr => hx.rel hr (no4 (.inl rfl)))
    (fun t ht k c hf x => box_enterP hbox ht hf x)
    (fun t ht k c hf s R x hj hx hb hBx => by
      obtain ⟨hR, j, hj1, hj2⟩ := hj
      obtain ⟨e1, e2⟩ := rch_n (nx := nx1) (fun _ _ _ => by simp [nx1]) (fun _ _ _ => by simp [nx1]) hj2
      exact p_hu (by rfl) hbox hBq hB ht hf (by omega) (by omega) hx hb hR)
  rw [runB_1] at hh
  simpa using hh
theorem p_close {w : World} {B q b m : Nat} {L : List Th} {last : Int} (h : BagAt w B b L last false false) (hl : L.length ≤ 256) (hB : B ≤ w.heap.size) (hBq : B ≤ q) (hbox : BoxP w q L) (hI : PlayI w q b m w.heap.size [] []) :
    Calls Try.prog 14 #[.pointer (some ⟨b, 0, none⟩)] w fun e w' => ∃ v, e = .returned (.tuple #[v, .int .i64 0]) ∧ w'.ownsRow w.heap.size 83 5 v (rsOf w L.reverse).length (rl (rsOf w L.reverse)) ∧ BagAt w' B b [] last false true ∧ IP w q b m (idsP L.reverse, List.replicate (idsP L.reverse).length 0) w' ∧ Rel B (SC b w.heap.size (SP q w.heap.size)) w w' := by
  have hh := close_some (fun _ t _ => readBeh w t) nx0 (fun s x => IP w q b m s x) (SP q w.heap.size) ([], []) h hl hB (IP.zero hI) SP_no
    (fun s x x' hx hr => hx.rel hr (no4 (.inr rfl)))
    (fun t ht k c hf x => box_enterP hbox ht hf x)
    (fun t ht k c hf s R x hj hx hb hBx => by
      obtain ⟨j, hj1, hj2⟩ := hj
      obtain ⟨e1, e2⟩ := rch_n (nx := nx0) (fun _ _ _ => by simp [nx0]) (fun _ _ _ => by simp [nx0]) hj2
      exact p_hu (R := []) (by rfl) hbox hBq hB ht hf (by omega) (by omega) hx hb (by simp))
  rw [runB_0] at hh
  simpa using hh
theorem p_undo {w : World} {B q b m : Nat} {L : List Th} {last : Int} (h : BagAt w B b L last false false) (hl : L.length ≤ 256) (hB : B ≤ w.heap.size) (hBq : B ≤ q) (hbox : BoxP w q L) (hI : PlayI w q b m w.heap.size [] []) (id : Int) (i : Nat) (hp : posT L id false = some i) :
    Calls Try.prog 33 #[.pointer (some ⟨b, 0, none⟩), .int .i64 id] w fun e w' => ∃ t, L[i]? = some t ∧ t.id = id ∧ t.fn.isSome = true ∧ e = .returned (.tuple #[.agg (rcells t.id t.name (readBeh w t)).toArray, .int .i64 0]) ∧ BagAt w' B b (L.eraseIdx i) last false false ∧ IP w q b m ([id], [((cntT (L.eraseIdx i) : Nat) : Int)]) w' ∧ Rel B (SX b w.heap.size (SP q w.heap.size)) w w' := by
  obtain ⟨hi, hm⟩ := posT_lt hp
  obtain ⟨tt, htt⟩ : ∃ t, L[i] = t := ⟨_, rfl⟩
  rw [htt] at hm
  simp only [matchT, Bool.and_eq_true, decide_eq_true_eq, beq_iff_eq] at hm
  obtain ⟨m1, m2⟩ := hm
  obtain ⟨tid, nm, fn⟩ := tt
  simp only at m1 m2
  subst m1
  cases fn with
  | none => simp at m2
  | some kc =>
  obtain ⟨k, c⟩ := kc
  have hmem : (⟨tid, nm, some (k, c)⟩ : Th) ∈ L := by rw [← htt]; exact List.getElem_mem _
  have hg : L[i]? = some ⟨tid, nm, some (k, c)⟩ := by rw [List.getElem?_eq_getElem hi, htt]
  have hel : (L.eraseIdx i).length ≤ 256 := Nat.le_trans (List.length_eraseIdx_le _ _) hl
  have hh := undo_some h hl hB tid i hp tid nm k c hg (box_enterP hbox hmem rfl) (SP q w.heap.size) (fun _ bh w2 => bh = readBeh w ⟨tid, nm, some (k, c)⟩ ∧ IP w q b m ([tid], [((cntT (L.eraseIdx i) : Nat) : Int)]) w2) SP_no
    (fun w1 hb hr => (p_hu (s := ([], [])) (by rfl) hbox hBq hB hmem rfl (by simp) (by simp) ((IP.zero hI).rel hr (no4 (.inl rfl))) hb hel).mono (fun e x' he => ⟨_, he.1, he.2.1, rfl, he.2.2⟩))
  refine hh.mono (fun e w' he => ?_)
  obtain ⟨bh, w1, w2, rfl, _, r1, r2, ⟨rfl, hJ⟩, r3, hbag⟩ := he
  refine ⟨⟨tid, nm, some (k, c)⟩, hg, rfl, rfl, rfl, hbag, hJ.rel r3 (no4 (.inl rfl)), ?_⟩
  have mono : ∀ k o, SX b w.heap.size (fun _ _ => False) k o → SX b w.heap.size (SP q w.heap.size) k o := fun k o ho => by
    rcases ho with ho | ho | ho
    · exact .inl ho
    · exact .inr (.inl ho)
    · exact ho.elim
  exact ((r1.mono mono (Nat.le_refl _)).trans (r2.mono (fun k o ho => .inr (.inr ho)) (Nat.le_refl _))).trans (r3.mono mono (Nat.le_refl _))
end Go.Proofs.Ytnkababhgloclaa
