/- A row of the call's own, cells laid into it; a thing taken out of a row of things. Plain law. -/
import Derived.Test.YtnkababhgloclaaFindB
import Derived.Laws.IdiomCopy
namespace Go.Proofs.Ytnkababhgloclaa
open Go.RowKit Go.ChangeShapes
theorem own_lay {B e z g n c : Nat} : ∀ (vs : List Value) {w : World} {xs : List Value} (p : Nat), w.ownsRow B e z (.slice (some ⟨g, 0, none⟩) n c) n xs → p + vs.length ≤ n * z → (w.setCells g p vs).ownsRow B e z (.slice (some ⟨g, 0, none⟩) n c) n (xs.take p ++ vs ++ xs.drop (p + vs.length)) ∧ w.grownBy (w.setCells g p vs) (some g)
  | [], w, xs, p, h, _ => ⟨by simpa [World.setCells] using h, World.grownBy.refl w _⟩
  | v :: r, w, xs, p, h, hp => by
    simp only [List.length_cons] at hp
    obtain ⟨h1, g1⟩ := h.stored p v
    obtain ⟨h2, g2⟩ := own_lay r (p + 1) h1 (by omega)
    have hl : xs.length = n * z := h.1
    rw [World.setCells]
    have e : (xs.set p v).take (p + 1) ++ r ++ (xs.set p v).drop (p + 1 + r.length) = xs.take p ++ v :: r ++ xs.drop (p + (v :: r).length) := by
      rw [List.take_add_one, List.take_set_of_le (Nat.le_refl _), List.getElem?_set_self (by omega), List.drop_set_of_lt (by omega)]
      simp [Nat.add_assoc, Nat.add_comm 1]
    rw [← e]
    exact ⟨h2, g1.trans g2⟩
theorem hc_erase : ∀ (L : List Th) (i : Nat), hc (L.eraseIdx i) = (hc L).take (i * 3) ++ (hc L).drop ((i + 1) * 3)
  | [], i => by simp [hc]
  | t :: L, 0 => by
    rw [List.eraseIdx_cons_zero, hc, show (0 + 1) * 3 = t.cells.length by rfl, List.drop_left]
    rfl
  | t :: L, i + 1 => by
    rw [List.eraseIdx_cons_succ, hc, hc_erase L i, hc]
    have e1 : (i + 1) * 3 = t.cells.length + i * 3 := by simp [Th.cells]; omega
    have e2 : (i + 1 + 1) * 3 = t.cells.length + (i + 1) * 3 := by simp [Th.cells]; omega
    rw [e2, e1, List.take_length_add_append, List.drop_length_add_append, List.append_assoc]
end Go.Proofs.Ytnkababhgloclaa
