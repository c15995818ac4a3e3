/- The document's bag: what it reads as; what is written of it. Plain law of memory. -/
import Derived.Test.YtnkababhgloclaaRelC
namespace Go.Proofs.Ytnkababhgloclaa
open Go.RowKit Go.ChangeShapes
structure RT where
  id : Int
  mark : Bool
  name : ByteArray
  code : Int
  pan : Bool
  word : ByteArray
def RT.cells (t : RT) : List Value := [.int .i64 t.id, .bool t.mark, .string t.name, .int .i64 t.code, .bool t.pan, .string t.word]
def rc6 : List RT → List Value
  | [] => []
  | t :: l => t.cells ++ rc6 l
theorem rc6_len : ∀ l : List RT, (rc6 l).length = l.length * 6
  | [] => rfl
  | t :: l => by simp [rc6, RT.cells, rc6_len l]; omega
theorem rc6_append : ∀ l m : List RT, rc6 (l ++ m) = rc6 l ++ rc6 m
  | [], _ => rfl
  | t :: l, m => by simp [rc6, rc6_append l m]
theorem rtcell_lt {t : RT} {j : Nat} {u : Value} (h : t.cells[j]? = some u) : j < 6 := by
  have := (List.getElem?_eq_some_iff.1 h).1
  simpa [RT.cells] using this
theorem rc6_at : ∀ (l : List RT) (i : Nat) (h : i < l.length) (j : Nat) (u : Value), l[i].cells[j]? = some u → (rc6 l)[i * 6 + j]? = some u
  | [], i, h, _, _, _ => by simp at h
  | t :: l, 0, _, j, u, hj => by
    have h3 := rtcell_lt hj
    simp only [Nat.zero_mul, Nat.zero_add, rc6]
    rw [List.getElem?_append_left (by simp [RT.cells]; omega)]
    exact hj
  | t :: l, i + 1, h, j, u, hj => by
    have h' : i < l.length := by simpa using h
    rw [rc6, List.getElem?_append_right (by simp [RT.cells]; omega)]
    have e : (i + 1) * 6 + j - t.cells.length = i * 6 + j := by simp [RT.cells]; omega
    rw [e]
    exact rc6_at l i h' j u (by simpa using hj)
theorem rc6_take : ∀ (l : List RT) (n : Nat), (rc6 l).take (n * 6) = rc6 (l.take n)
  | [], _ => by simp [rc6]
  | t :: l, 0 => by simp [rc6]
  | t :: l, n + 1 => by
    have e : (n + 1) * 6 = t.cells.length + n * 6 := by simp [RT.cells]; omega
    rw [rc6, e, List.take_length_add_append, rc6_take l n]
    rfl
theorem rc6_drop : ∀ (l : List RT) (n : Nat), (rc6 l).drop (n * 6) = rc6 (l.drop n)
  | [], _ => by simp [rc6]
  | t :: l, 0 => by simp [rc6]
  | t :: l, n + 1 => by
    have e : (n + 1) * 6 = t.cells.length + n * 6 := by simp [RT.cells]; omega
    rw [rc6, e, List.drop_length_add_append, rc6_drop l n]
    rfl
theorem rc6_one (l : List RT) : ∀ u ∈ rc6 l, u.oneCell' = true := by
  induction l with
  | nil => intro u hu; cases hu
  | cons t l ih =>
    intro u hu
    rcases List.mem_append.1 hu with hu | hu
    · simp only [RT.cells, List.mem_cons, List.not_mem_nil, or_false] at hu
      rcases hu with rfl | rfl | rfl | rfl | rfl | rfl <;> rfl
    · exact ih u hu
/-- The document's bag in a block. -/
def RBagAt (w : World) (B m : Nat) (L : List RT) (last : Int) (closed : Bool) : Prop :=
  B ≤ m ∧ ∃ v, w.heap[m]? = some (.cells #[v, .int .i64 last, .bool closed] 29 (0, 0)) ∧ w.ownsRow B 92 6 v L.length (rc6 L)
/-- What is written of it. -/
def SD (m : Nat) (k : Nat) (o : Obj) : Prop := k = m ∧ (∃ C z, o = .cells C 29 z) ∨ ∃ C z, o = .cells C 92 z
theorem SD_not {m k t : Nat} {C : Array Value} {z : Nat × Nat} (h1 : t ≠ 29) (h2 : t ≠ 92) : ¬ SD m k (.cells C t z) := fun h => by
  rcases h with ⟨_, C', z', e⟩ | ⟨C', z', e⟩
  · injection e with _ e2 _
    exact h1 e2
  · injection e with _ e2 _
    exact h2 e2
section
variable {w w' : World} {B m : Nat} {L : List RT} {last : Int} {closed : Bool}
theorem RBagAt.lt (h : RBagAt w B m L last closed) : m < w.heap.size := by
  obtain ⟨_, v, hb, _⟩ := h
  exact (Array.getElem?_eq_some_iff.1 hb).1
theorem RBagAt.rel {B' : Nat} {S : Nat → Obj → Prop} (h : RBagAt w B m L last closed) (hr : Rel B' S w w') (h1 : ∀ C z, ¬ S m (.cells C 29 z)) (h2 : ∀ k C z, ¬ S k (.cells C 92 z)) : RBagAt w' B m L last closed := by
  obtain ⟨hB, v, hb, ho⟩ := h
  exact ⟨hB, v, hr.block hb (fun _ => h1 _ _), own_rel ho hr (fun k C _ _ => h2 _ _ _)⟩
theorem RBagAt.below (h : RBagAt w B m L last closed) (hb : Below w.heap.size w w') : RBagAt w' B m L last closed :=
  h.rel (Rel.below (B := 0) (S := fun _ _ => False) hb) (fun _ _ e => e) (fun _ _ _ e => e)
theorem RBagAt.cells (h : RBagAt w B m L last closed) : ∃ a c, w.cell? ⟨m, 0, none⟩ = some (.slice a L.length c) ∧ w.cell? ⟨m, 1, none⟩ = some (.int .i64 last) ∧ w.cell? ⟨m, 2, none⟩ = some (.bool closed) ∧ w.ownsRow B 92 6 (.slice a L.length c) L.length (rc6 L) := by
  obtain ⟨_, v, hb, ho⟩ := h
  obtain ⟨a, c, rfl⟩ := own_slice ho
  exact ⟨a, c, (cell_of_row w m 0 _ _ _ hb).trans rfl, (cell_of_row w m 1 _ _ _ hb).trans rfl, (cell_of_row w m 2 _ _ _ hb).trans rfl, ho⟩
theorem RBagAt.frozen (h : RBagAt w B m L last closed) (j : Nat) : w.frozen? ⟨m, j, none⟩ = false := by
  obtain ⟨_, v, hb, _⟩ := h
  exact frozen_of_row _ _ _ _ _ hb
end
def matchR (id : Int) (mark : Bool) (t : RT) : Bool := decide (t.id = id) && (t.mark == mark)
def posR (L : List RT) (id : Int) (mark : Bool) : Option Nat := L.findIdx? (matchR id mark)
theorem posR_none {L : List RT} {id : Int} {mark : Bool} (h : ∀ j (hj : j < L.length), matchR id mark L[j] = false) : posR L id mark = none := by
  unfold posR
  rw [List.findIdx?_eq_none_iff]
  intro t ht
  obtain ⟨j, hj, rfl⟩ := List.getElem_of_mem ht
  exact h j hj
theorem posR_some {L : List RT} {id : Int} {mark : Bool} {k : Nat} (hk : k < L.length) (h1 : matchR id mark L[k] = true) (h : ∀ j (hj : j < k), matchR id mark (L[j]'(by omega)) = false) : posR L id mark = some k := by
  unfold posR
  rw [List.findIdx?_eq_some_iff_getElem]
  exact ⟨hk, h1, fun j hj => by rw [h j hj]; simp⟩
theorem posR_lt {L : List RT} {id : Int} {mark : Bool} {k : Nat} (h : posR L id mark = some k) : ∃ hk : k < L.length, matchR id mark L[k] = true := by
  unfold posR at h
  rw [List.findIdx?_eq_some_iff_getElem] at h
  obtain ⟨hk, h1, _⟩ := h
  exact ⟨hk, h1⟩
def placeR : Option Nat → Int
  | none => -1
  | some i => i
/-- The things of a list, the last one first. -/
def lastR (L : List RT) : List RT := (L.filter fun t => !t.mark).reverse
end Go.Proofs.Ytnkababhgloclaa
