/- A bag in memory: its things and marks. -/
import Derived.Test.YtnkababhgloclaaRelC
namespace Go.Proofs.Ytnkababhgloclaa
open Go.RowKit Go.ChangeShapes
/-- A thing, or a mark (no function): its function and what that captured. -/
structure Th where
  id : Int
  name : ByteArray
  fn : Option (Nat × Array Value)
def fnV : Option (Nat × Array Value) → Value
  | none => .nilFunc
  | some (k, c) => .func (.func k) #[] c
def Th.cells (t : Th) : List Value := [.int .i64 t.id, .string t.name, fnV t.fn]
theorem fnV_one (f : Option (Nat × Array Value)) : (fnV f).oneCell' = true := by cases f <;> rfl
def hc : List Th → List Value
  | [] => []
  | t :: l => t.cells ++ hc l
theorem hc_len : ∀ l : List Th, (hc l).length = l.length * 3
  | [] => rfl
  | t :: l => by simp [hc, Th.cells, hc_len l]; omega
theorem hc_append : ∀ l m : List Th, hc (l ++ m) = hc l ++ hc m
  | [], _ => rfl
  | t :: l, m => by simp [hc, hc_append l m]
theorem tcell_lt {t : Th} {j : Nat} {u : Value} (h : t.cells[j]? = some u) : j < 3 := by
  have := (List.getElem?_eq_some_iff.1 h).1
  simpa [Th.cells] using this
theorem hc_at : ∀ (l : List Th) (i : Nat) (h : i < l.length) (j : Nat) (u : Value), l[i].cells[j]? = some u → (hc l)[i * 3 + j]? = some u
  | [], i, h, _, _, _ => by simp at h
  | t :: l, 0, _, j, u, hj => by
    have h3 := tcell_lt hj
    simp only [Nat.zero_mul, Nat.zero_add, hc]
    rw [List.getElem?_append_left (by simp [Th.cells]; omega)]
    exact hj
  | t :: l, i + 1, h, j, u, hj => by
    have h' : i < l.length := by simpa using h
    rw [hc, List.getElem?_append_right (by simp [Th.cells]; omega)]
    have e : (i + 1) * 3 + j - t.cells.length = i * 3 + j := by simp [Th.cells]; omega
    rw [e]
    exact hc_at l i h' j u (by simpa using hj)
theorem hc_take : ∀ (l : List Th) (n : Nat), (hc l).take (n * 3) = hc (l.take n)
  | [], n => by simp [hc]
  | t :: l, 0 => by simp [hc]
  | t :: l, n + 1 => by
    have e : (n + 1) * 3 = t.cells.length + n * 3 := by simp [Th.cells]; omega
    rw [hc, e, List.take_length_add_append, hc_take l n, List.take_succ_cons, hc]
theorem hc_one (l : List Th) : ∀ u ∈ hc l, u.oneCell' = true := by
  induction l with
  | nil => intro u hu; cases hu
  | cons t l ih =>
    intro u hu
    rcases List.mem_append.1 hu with hu | hu
    · simp only [Th.cells, List.mem_cons, List.not_mem_nil, or_false] at hu
      rcases hu with rfl | rfl | rfl
      · rfl
      · rfl
      · exact fnV_one _
    · exact ih u hu
/-- A bag in block b: what it holds, the last number, whether it is busy, closed. -/
def BagAt (w : World) (B b : Nat) (L : List Th) (last : Int) (busy closed : Bool) : Prop :=
  B ≤ b ∧ ∃ v, w.heap[b]? = some (.cells #[v, .int .i64 last, .bool busy, .bool closed] 89 (0, 0)) ∧ w.ownsRow B 101 3 v L.length (hc L)
theorem BagAt.lt {w : World} {B b : Nat} {L : List Th} {last : Int} {busy closed : Bool} (h : BagAt w B b L last busy closed) : b < w.heap.size := by
  obtain ⟨_, v, h1, _⟩ := h
  exact (Array.getElem?_eq_some_iff.1 h1).1
theorem BagAt.rel {w w' : World} {B B' b : Nat} {S : Nat → Obj → Prop} {L : List Th} {last : Int} {busy closed : Bool} (h : BagAt w B b L last busy closed) (hr : Rel B' S w w') (h1 : ∀ C z, ¬ S b (.cells C 89 z)) (h2 : ∀ k C z, ¬ S k (.cells C 101 z)) : BagAt w' B b L last busy closed := by
  obtain ⟨h0, v, g1, g2⟩ := h
  exact ⟨h0, v, hr.block g1 (fun _ => h1 _ _), own_rel g2 hr (fun k C _ _ => h2 k C _)⟩
theorem BagAt.below {w w' : World} {B b : Nat} {L : List Th} {last : Int} {busy closed : Bool} (h : BagAt w B b L last busy closed) (hb : Below w.heap.size w w') : BagAt w' B b L last busy closed :=
  h.rel (B' := 0) (S := fun _ _ => False) (Rel.below hb) (fun _ _ h => h) (fun _ _ _ h => h)
/-- What a bag's own calls write: its block; rows of things. -/
def SB (b : Nat) (k : Nat) (o : Obj) : Prop := k = b ∧ (∃ C z, o = .cells C 89 z) ∨ ∃ C z, o = .cells C 101 z
/-- What a call of a thing's function lets be written of a bag's: its block; new results. -/
def SK (b N : Nat) (k : Nat) (o : Obj) : Prop := k = b ∧ (∃ C z, o = .cells C 89 z) ∨ N ≤ k ∧ ∃ C z, o = .cells C 83 z
theorem BagAt.cells {w : World} {B b : Nat} {L : List Th} {last : Int} {busy closed : Bool} (h : BagAt w B b L last busy closed) : ∃ a c, w.cell? ⟨b, 0, none⟩ = some (.slice a L.length c) ∧ w.cell? ⟨b, 1, none⟩ = some (.int .i64 last) ∧ w.cell? ⟨b, 2, none⟩ = some (.bool busy) ∧ w.cell? ⟨b, 3, none⟩ = some (.bool closed) ∧ w.ownsRow B 101 3 (.slice a L.length c) L.length (hc L) := by
  obtain ⟨_, v, h1, h2⟩ := h
  obtain ⟨a, c, rfl⟩ := own_slice h2
  exact ⟨a, c, (cell_of_row _ b 0 _ _ _ h1).trans rfl, (cell_of_row _ b 1 _ _ _ h1).trans rfl, (cell_of_row _ b 2 _ _ _ h1).trans rfl, (cell_of_row _ b 3 _ _ _ h1).trans rfl, h2⟩
theorem BagAt.frozen {w : World} {B b : Nat} {L : List Th} {last : Int} {busy closed : Bool} (h : BagAt w B b L last busy closed) (j : Nat) : w.frozen? ⟨b, j, none⟩ = false := by
  obtain ⟨_, v, h1, _⟩ := h
  exact frozen_of_row w b j _ _ h1
/-- A row stays where a bag's own cell is written. -/
theorem own_setBag {w : World} {B e z n b p : Nat} {v : Value} {xs : List Value} {C : Array Value} (h : w.ownsRow B e z v n xs) (he : e ≠ 89) (hm : w.heap[b]? = some (.cells C 89 (0, 0))) (u : Value) : (w.setCell ⟨b, p, none⟩ u).ownsRow B e z v n xs := by
  refine ownsRow_setCell_other h (a := ⟨b, p, none⟩) (fun hb => ?_) u
  rcases h.2 with ⟨rfl, _⟩ | ⟨g, cap, cur, rfl, _, hc, _⟩
  · cases hb
  · simp only [Value.ownBlock, Option.some.injEq] at hb
    subst hb
    rw [hm] at hc
    injection hc with hc
    injection hc with _ h2 _
    exact he h2.symm
/-- Its flags, its last number, its row, written. -/
theorem BagAt.setBusy {w : World} {B b : Nat} {L : List Th} {last : Int} {busy closed : Bool} (h : BagAt w B b L last busy closed) (x : Bool) : BagAt (w.setCell ⟨b, 2, none⟩ (.bool x)) B b L last x closed := by
  obtain ⟨h0, v, h1, h2⟩ := h
  exact ⟨h0, v, heap_setCell_same w b 2 _ _ _ h1, own_setBag h2 (by decide) h1 _⟩
theorem BagAt.setClosed {w : World} {B b : Nat} {L : List Th} {last : Int} {busy closed : Bool} (h : BagAt w B b L last busy closed) (x : Bool) : BagAt (w.setCell ⟨b, 3, none⟩ (.bool x)) B b L last busy x := by
  obtain ⟨h0, v, h1, h2⟩ := h
  exact ⟨h0, v, heap_setCell_same w b 3 _ _ _ h1, own_setBag h2 (by decide) h1 _⟩
theorem BagAt.setLast {w : World} {B b : Nat} {L : List Th} {last : Int} {busy closed : Bool} (h : BagAt w B b L last busy closed) (x : Int) : BagAt (w.setCell ⟨b, 1, none⟩ (.int .i64 x)) B b L x busy closed := by
  obtain ⟨h0, v, h1, h2⟩ := h
  exact ⟨h0, v, heap_setCell_same w b 1 _ _ _ h1, own_setBag h2 (by decide) h1 _⟩
theorem BagAt.setRow {w : World} {B b : Nat} {L L' : List Th} {last : Int} {busy closed : Bool} (h : BagAt w B b L last busy closed) {v : Value} (hv : w.ownsRow B 101 3 v L'.length (hc L')) : BagAt (w.setCell ⟨b, 0, none⟩ v) B b L' last busy closed := by
  obtain ⟨h0, v', h1, h2⟩ := h
  exact ⟨h0, v, heap_setCell_same w b 0 _ _ _ h1, own_setBag hv (by decide) h1 _⟩
theorem BagAt.relSet {w : World} {B B' b : Nat} {L : List Th} {last : Int} {busy closed : Bool} (h : BagAt w B b L last busy closed) (p : Nat) (v : Value) (S : Nat → Obj → Prop) (hs : ∀ C z, S b (.cells C 89 z)) (hB : B' ≤ B) : Rel B' S w (w.setCell ⟨b, p, none⟩ v) := by
  obtain ⟨h0, v', h1, _⟩ := h
  exact Rel.set (a := ⟨b, p, none⟩) (by simpa using Nat.le_trans hB h0) h1 (hs _ _) v
end Go.Proofs.Ytnkababhgloclaa
