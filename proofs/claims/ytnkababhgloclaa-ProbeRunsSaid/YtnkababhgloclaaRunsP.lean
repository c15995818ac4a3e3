/- ProbeRuns, plain: the fates turned one by one. -/
import Derived.Test.YtnkababhgloclaaGiveD
namespace Go.Proofs.Ytnkababhgloclaa
open Go.RowKit Go.ChangeShapes
/-- The fates, the first k of them turned by g. -/
def halfG (g : Ft → Ft) (fs : List Ft) (k : Nat) : List Ft := (fs.take k).map g ++ fs.drop k
section
variable (g : Ft → Ft)
theorem halfG_len (fs : List Ft) (k : Nat) : (halfG g fs k).length = fs.length := by
  unfold halfG
  rw [List.length_append, List.length_map, List.length_take, List.length_drop]
  omega
theorem halfG_zero (fs : List Ft) : halfG g fs 0 = fs := by simp [halfG]
theorem halfG_all (fs : List Ft) : halfG g fs fs.length = fs.map g := by simp [halfG]
theorem halfG_at {fs : List Ft} {k : Nat} (h : k < fs.length) : (halfG g fs k)[k]'(by rw [halfG_len]; exact h) = fs[k] := by
  unfold halfG
  rw [List.getElem_append_right (by rw [List.length_map, List.length_take]; omega)]
  simp only [List.length_map, List.length_take, Nat.min_eq_left (Nat.le_of_lt h), Nat.sub_self]
  rw [List.getElem_drop]
  simp
theorem halfG_next {fs : List Ft} {k : Nat} (h : k < fs.length) : (halfG g fs k).set k (g fs[k]) = halfG g fs (k + 1) := by
  have h1 : ((fs.take k).map g).length = k := by rw [List.length_map, List.length_take]; omega
  unfold halfG
  rw [List.set_append_right _ _ (by rw [h1]; exact Nat.le_refl _), h1, Nat.sub_self, List.take_succ_eq_append_getElem h, List.map_append, List.append_assoc, List.drop_eq_getElem_cons h]
  rfl
end
theorem fcs_set02 : ∀ (l : List Ft) (k : Nat) (h : k < l.length) (a b c : Value) (f : Ft), f.cells = [a, b, c] → (l[k]).cells[1]? = some b → (((fcs l).set (k * 3) a).set (k * 3 + 2) c) = fcs (l.set k f)
  | [], k, h, _, _, _, _, _, _ => by simp at h
  | t :: l, 0, _, a, b, c, f, hf, h0 => by
    simp only [Ft.cells, List.cons.injEq, and_true] at hf
    obtain ⟨e1, e2, e3⟩ := hf
    simp only [List.getElem_cons_zero, Ft.cells, List.getElem?_cons_succ, List.getElem?_cons_zero, Option.some.injEq] at h0
    simp only [fcs, Ft.cells, List.set_cons_zero, Nat.zero_mul, Nat.zero_add, List.cons_append, List.nil_append, List.set_cons_succ]
    rw [h0, e1, e2, e3]
  | t :: l, k + 1, h, a, b, c, f, hf, h0 => by
    have h' : k < l.length := by simpa using h
    have ih := fcs_set02 l k h' a b c f hf (by simpa using h0)
    have e1 : (k + 1) * 3 = 3 + (k * 3) := by omega
    have e2 : 3 + (k * 3) + 2 = 3 + (k * 3 + 2) := by omega
    have hs : ∀ (j : Nat) (x : Value) (m : List Value), ((t.cells ++ m).set (3 + j) x) = t.cells ++ m.set j x := fun j x m => by
      rw [List.set_append_right _ _ (by simp [Ft.cells])]
      simp [Ft.cells]
    rw [e1, e2, List.set_cons_succ]
    simp only [fcs, hs]
    rw [ih]
/-- A fate turned. -/
def nxF (f : Ft) : Ft := ⟨wrap64 (f.step + 1), f.how, 2 - f.back % 3⟩
theorem nxF_ok {f : Ft} (h : f.ok) : (nxF f).ok := by
  unfold Ft.ok nxF at *
  simp only
  omega
end Go.Proofs.Ytnkababhgloclaa
