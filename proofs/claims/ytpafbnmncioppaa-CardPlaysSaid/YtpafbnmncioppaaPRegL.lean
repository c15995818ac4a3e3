/- A card is laid into a registry's array: plain law. -/
import Derived.Test.YtpafbnmncioppaaPRegD
namespace Go.Proofs.Ytpafbnmncioppaa
open Go.RowKit Go.ChangeShapes
set_option linter.unusedSectionVars false
variable [RE]
/-- Cells written one behind another. -/
def putAll (w : World) (b p : Nat) : List Value → World
  | [] => w
  | v :: vs => putAll (w.setCell ⟨b, p, none⟩ v) b (p + 1) vs
def setAll (C : Array Value) (p : Nat) : List Value → Array Value
  | [] => C
  | v :: vs => setAll (C.setIfInBounds p v) (p + 1) vs
theorem setAll_size : ∀ (vs : List Value) (C : Array Value) (p : Nat), (setAll C p vs).size = C.size
  | [], _, _ => rfl
  | v :: vs, C, p => by rw [setAll, setAll_size vs]; simp
theorem setAll_out : ∀ (vs : List Value) (C : Array Value) (p i : Nat), i < p ∨ p + vs.length ≤ i → (setAll C p vs)[i]? = C[i]?
  | [], _, _, _, _ => rfl
  | v :: vs, C, p, i, h => by
    simp only [List.length_cons] at h
    rw [setAll, setAll_out vs _ _ _ (by omega), Array.getElem?_setIfInBounds_ne (by omega)]
theorem setAll_in : ∀ (vs : List Value) (C : Array Value) (p j : Nat), p + vs.length ≤ C.size → j < vs.length → (setAll C p vs)[p + j]? = vs[j]?
  | [], _, _, _, _, h => by simp at h
  | v :: vs, C, p, 0, h, _ => by
    simp only [List.length_cons] at h
    rw [setAll, setAll_out vs _ _ _ (by omega), Nat.add_zero, Array.getElem?_setIfInBounds_self_of_lt (by omega)]
    rfl
  | v :: vs, C, p, j + 1, h, hj => by
    simp only [List.length_cons] at h hj
    rw [setAll, show p + (j + 1) = p + 1 + j by omega, setAll_in vs _ _ _ (by simp; omega) (by omega)]
    rfl
theorem putAll_heap {b : Nat} {t : Nat} : ∀ (vs : List Value) (w : World) (C : Array Value) (p : Nat), w.heap[b]? = some (.cells C t (0, 0)) → (putAll w b p vs).heap[b]? = some (.cells (setAll C p vs) t (0, 0))
  | [], _, _, _, h => h
  | v :: vs, w, C, p, h => putAll_heap vs _ _ _ (heap_setCell_same w b p C _ _ h)
theorem putAll_row {b B : Nat} : ∀ (vs : List Value) (w : World) (C : Array Value) (p : Nat), w.heap[b]? = some (.cells C 84 (0, 0)) → ∀ (v : Value) (n : Nat) (xs : List Value), w.ownsRow B 9 1 v n xs → (putAll w b p vs).ownsRow B 9 1 v n xs
  | [], _, _, _, _, _, _, _, hv => hv
  | v :: vs, w, C, p, h, _, _, _, hv => putAll_row vs _ _ _ (heap_setCell_same w b p C _ _ h) _ _ _ (row_stays h p v _ _ _ hv)
theorem grown_setCell (w : World) (b p : Nat) (v : Value) : w.grownBy (w.setCell ⟨b, p, none⟩ v) (some b) := ⟨rfl, rfl, rfl, by simp, fun k _ hne => Below.heap_setCell w _ _ k (by simpa using hne)⟩
theorem putAll_grown {b : Nat} : ∀ (vs : List Value) (w : World) (p : Nat), w.grownBy (putAll w b p vs) (some b)
  | [], w, _ => World.grownBy.refl w _
  | v :: vs, w, p => (grown_setCell w b p v).trans (putAll_grown vs _ _)
theorem Slots.setAll {C : Array Value} {o : Nat} {w : World} {B : Nat} {cs : List Cd} (h : Slots C o w B cs) {p : Nat} (vs : List Value) (hp : o + cs.length * 7 ≤ p ∨ p + vs.length ≤ o) : Slots (setAll C p vs) o w B cs := fun i hi => by
  obtain ⟨a, c, h1, h2⟩ := h i hi
  refine ⟨a, c, fun j v hj => ?_, h2⟩
  have hj7 : j < 7 := by
    have := (List.getElem?_eq_some_iff.1 hj).1
    simpa [Cd.cells] using this
  rw [setAll_out _ _ _ _ (by omega)]
  exact h1 j v hj
theorem Slots.add {C : Array Value} {o : Nat} {w : World} {B : Nat} {cs : List Cd} (h : Slots C o w B cs) (c : Cd) (a : Option Addr) (cap : Nat) (hs : o + cs.length * 7 + 7 ≤ C.size) (hr : w.ownsRow B 9 1 (.slice a c.comp.length cap) c.comp.length (sc c.comp)) (hT : ∀ g : Addr, a = some g → RE.okT g.block) :
    Slots (Proofs.Ytpafbnmncioppaa.setAll C (o + cs.length * 7) (c.cells (.slice a c.comp.length cap))) o w B (cs ++ [c]) := fun i hi => by
  by_cases hl : i < cs.length
  · obtain ⟨a', c', h1, h2⟩ := (h.setAll (p := o + cs.length * 7) (c.cells (.slice a c.comp.length cap)) (.inl (Nat.le_refl _))) i hl
    rw [List.getElem_append_left hl]
    exact ⟨a', c', h1, h2⟩
  · have hi' : i = cs.length := by simp at hi; omega
    subst hi'
    have e : (cs ++ [c])[cs.length] = c := by simp
    rw [e]
    refine ⟨a, cap, fun j v hj => ?_, hr, hT⟩
    have hj7 : j < 7 := by
      have := (List.getElem?_eq_some_iff.1 hj).1
      simpa [Cd.cells] using this
    rw [setAll_in _ _ _ _ (by simpa [Cd.cells] using hs) (by simpa [Cd.cells] using hj7)]
    exact hj
/-- One more is refused. -/
theorem Reg.refuse {w : World} {B b : Nat} {cs rs : List Cd} {fz : Bool} (h : Reg w B b cs rs fz) (c : Cd) (a : Option Addr) (cap : Nat) (hl : rs.length < 64) (hr : w.ownsRow B 9 1 (.slice a c.comp.length cap) c.comp.length (sc c.comp)) (hT : ∀ g : Addr, a = some g → RE.okT g.block) :
    Reg ((putAll w b (448 + rs.length * 7) (c.cells (.slice a c.comp.length cap))).setCell ⟨b, 1921, none⟩ (.int .i64 (rs.length + 1))) B b cs (rs ++ [c]) fz := by
  obtain ⟨C, m, h1, h2, h3, h4, h5, h6, h7, h8, h9, h10⟩ := h
  have hc : (c.cells (.slice a c.comp.length cap)).length = 7 := by simp [Cd.cells]
  have g1 := putAll_heap (c.cells (.slice a c.comp.length cap)) w C (448 + rs.length * 7) h1
  have row : ∀ (v : Value) (n : Nat) (xs : List Value), w.ownsRow B 9 1 v n xs → ((putAll w b (448 + rs.length * 7) (c.cells (.slice a c.comp.length cap))).setCell ⟨b, 1921, none⟩ (.int .i64 (rs.length + 1))).ownsRow B 9 1 v n xs := fun v n xs hv => row_stays g1 1921 _ _ _ _ (putAll_row _ w C _ h1 _ _ _ hv)
  refine ⟨_, m, heap_setCell_same _ b 1921 _ _ _ g1, by simpa [setAll_size] using h2, h3, by simp; omega, ?_, ?_, ?_, ?_, ?_, ?_⟩
  · rw [Array.getElem?_setIfInBounds_ne (by omega), setAll_out _ _ _ _ (by omega)]; exact h5
  · rw [Array.getElem?_setIfInBounds_self_of_lt (by rw [setAll_size]; omega)]; simp
  · exact RE.inv _ _ (fun j hj => by rw [Array.getElem?_setIfInBounds_ne (by omega), setAll_out _ _ _ _ (by omega)]) h7
  · rw [Array.getElem?_setIfInBounds_ne (by omega), setAll_out _ _ _ _ (by omega)]; exact h8
  · exact ((h9.to row).setAll _ (.inl (by omega))).set (.inl (by omega)) _
  · exact ((h10.to row).add c a cap (by omega) (row _ _ _ hr) hT).set (.inl (by simp; omega)) _
/-- One more stands. -/
theorem Reg.stand {w : World} {B b : Nat} {cs rs : List Cd} {fz : Bool} (h : Reg w B b cs rs fz) (c : Cd) (a : Option Addr) (cap : Nat) (hl : cs.length < 64) (hr : w.ownsRow B 9 1 (.slice a c.comp.length cap) c.comp.length (sc c.comp)) (hT : ∀ g : Addr, a = some g → RE.okT g.block) :
    Reg ((putAll w b (cs.length * 7) (c.cells (.slice a c.comp.length cap))).setCell ⟨b, 1920, none⟩ (.int .i64 (cs.length + 1))) B b (cs ++ [c]) rs fz := by
  obtain ⟨C, m, h1, h2, h3, h4, h5, h6, h7, h8, h9, h10⟩ := h
  have hc : (c.cells (.slice a c.comp.length cap)).length = 7 := by simp [Cd.cells]
  have g1 := putAll_heap (c.cells (.slice a c.comp.length cap)) w C (cs.length * 7) h1
  have row : ∀ (v : Value) (n : Nat) (xs : List Value), w.ownsRow B 9 1 v n xs → ((putAll w b (cs.length * 7) (c.cells (.slice a c.comp.length cap))).setCell ⟨b, 1920, none⟩ (.int .i64 (cs.length + 1))).ownsRow B 9 1 v n xs := fun v n xs hv => row_stays g1 1920 _ _ _ _ (putAll_row _ w C _ h1 _ _ _ hv)
  refine ⟨_, m, heap_setCell_same _ b 1920 _ _ _ g1, by simpa [setAll_size] using h2, by simp; omega, h4, ?_, ?_, ?_, ?_, ?_, ?_⟩
  · rw [Array.getElem?_setIfInBounds_self_of_lt (by rw [setAll_size]; omega)]; simp
  · rw [Array.getElem?_setIfInBounds_ne (by omega), setAll_out _ _ _ _ (by omega)]; exact h6
  · exact RE.inv _ _ (fun j hj => by rw [Array.getElem?_setIfInBounds_ne (by omega), setAll_out _ _ _ _ (by omega)]) h7
  · rw [Array.getElem?_setIfInBounds_ne (by omega), setAll_out _ _ _ _ (by omega)]; exact h8
  · have := (h9.to row).add c a cap (by omega) (row _ _ _ hr) hT
    rw [Nat.zero_add] at this
    exact this.set (.inl (by simp; omega)) _
  · exact ((h10.to row).setAll _ (.inr (by omega))).set (.inl (by omega)) _
end Go.Proofs.Ytpafbnmncioppaa
