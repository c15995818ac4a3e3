/- The plain law of the library's stable sort: the searches, and the end of a merge. -/
import Derived.Test.YtdhlmflbefnekaaDoorStabB
namespace Go.Proofs.YtdhlmflbefnekaaDoor
namespace Stb
open Go.Sort
variable {α : Type} [Inhabited α] {ct lt : α → α → Bool}
/-- A search under way: below i it holds, from j on it does not. -/
structure Cut (p : Nat → Bool) (lo i j hi : Nat) : Prop where
  yes : ∀ t, lo ≤ t → t < i → p t = true
  no : ∀ t, j ≤ t → t < hi → p t = false
def Down (p : Nat → Bool) (lo hi : Nat) : Prop := ∀ s t, lo ≤ s → s ≤ t → t < hi → p t = true → p s = true
theorem Cut.start (p : Nat → Bool) (lo hi : Nat) : Cut p lo lo hi hi := ⟨fun t h1 h2 => by omega, fun t h1 h2 => by omega⟩
theorem Cut.up {p : Nat → Bool} {lo i j hi h : Nat} (hd : Down p lo hi) (c : Cut p lo i j hi) (hj : h < hi) (hp : p h = true) : Cut p lo (h + 1) j hi :=
  ⟨fun t h1 h2 => hd t h h1 (by omega) hj hp, c.no⟩
theorem Cut.dn {p : Nat → Bool} {lo i j hi h : Nat} (hd : Down p lo hi) (c : Cut p lo i j hi) (hl : lo ≤ h) (hp : p h = false) : Cut p lo i h hi :=
  ⟨c.yes, fun t h1 h2 => by
    cases hpt : p t with
    | false => rfl
    | true => exact absurd (hd h t hl h1 h2 hpt) (by rw [hp]; decide)⟩
theorem down1 (hS : SWO lt) {a m b : Nat} {d : Array α} (H : Halves ct lt a m b d) (x : α) : Down (fun t => lt d[t]! x) m b := by
  intro s t h1 h2 h3 h4
  simp only at h4 ⊢
  by_cases c : s = t
  · rw [c]; exact h4
  · cases hs : lt d[s]! x with
    | true => rfl
    | false =>
      have := hS.ntrans _ _ _ (H.right s t h1 (by omega) h3) hs
      rw [h4] at this
      cases this
theorem down2 (hS : SWO lt) {a m b : Nat} {d : Array α} (H : Halves ct lt a m b d) (x : α) : Down (fun t => !lt x d[t]!) a m := by
  intro s t h1 h2 h3 h4
  simp only [Bool.not_eq_true'] at h4 ⊢
  by_cases c : s = t
  · rw [c]; exact h4
  · exact hS.ntrans _ _ _ h4 (H.left s t h1 (by omega) h3)
theorem down3 (hS : SWO lt) {a m b s0 r0 pp : Nat} {d : Array α} (H : Halves ct lt a m b d) (h1 : a ≤ s0) (h2 : r0 ≤ m) (h3 : ∀ c, s0 ≤ c → c < r0 → c ≤ pp ∧ m ≤ pp - c ∧ pp - c < b) : Down (fun c => !ct d[pp - c]! d[c]!) s0 r0 := by
  intro s t g1 g2 g3 g4
  simp only [Bool.not_eq_true'] at g4 ⊢
  by_cases c : s = t
  · rw [c]; exact g4
  · obtain ⟨u0, u1, u2⟩ := h3 s g1 (by omega)
    obtain ⟨v0, v1, v2⟩ := h3 t (by omega) g3
    rw [H.cross s _ (by omega) (by omega) u1 u2]
    rw [H.cross t _ (by omega) (by omega) v1 v2] at g4
    exact hS.ntrans _ _ _ (hS.ntrans _ _ _ (H.right (pp - t) (pp - s) v1 (by omega) u2) g4) (H.left s t (by omega) (by omega) (by omega))
theorem Halves.same {a m b : Nat} {d d' : Array α} (H : Halves ct lt a m b d) (h : ∀ i : Nat, a ≤ i → d'[i]! = d[i]!) (ham : a ≤ m) : Halves ct lt a m b d' :=
  ⟨fun i j h1 h2 h3 => by rw [h i h1, h j (by omega)]; exact H.left i j h1 h2 h3, fun i j h1 h2 h3 => by rw [h i (by omega), h j (by omega)]; exact H.right i j h1 h2 h3, fun i j h1 h2 h3 h4 => by rw [h i h1, h j (by omega)]; exact H.cross i j h1 h2 h3 h4⟩
/-- Both smaller merges done. -/
theorem fin {a b mid : Nat} {d e e1 e2 : Array α} (ham : a ≤ mid) (hmb : mid ≤ b) (hb : b ≤ d.size) (h0 : PermIn a b d e) (hX : ∀ i j, a ≤ i → i < mid → mid ≤ j → j < b → lt e[j]! e[i]! = false)
    (h1 : PermIn a mid e e1) (s1 : SortedIn lt a mid e1) (h2 : PermIn mid b e1 e2) (s2 : SortedIn lt mid b e2) : PermIn a b d e2 ∧ SortedIn lt a b e2 := by
  have z0 : e.size = d.size := h0.1
  have z1 : e1.size = e.size := h1.1
  refine ⟨permIn_trans _ _ _ _ _ h0 (permIn_trans _ _ _ _ _ (permIn_mono _ _ _ _ _ _ (Nat.le_refl _) hmb (by omega) h1) (permIn_mono _ _ _ _ _ _ ham (Nat.le_refl _) (by omega) h2)), join (m := mid) ?_ s2 ?_⟩
  · intro i j g1 g2 g3
    rw [h2.2.1 i (by omega), h2.2.1 j (by omega)]
    exact s1 i j g1 g2 g3
  · intro i j g1 g2 g3 g4
    rw [h2.2.1 i (by omega)]
    refine permIn_all e1 e2 mid b (fun x => lt x e1[i]! = false) (by omega) h2 (fun k k1 k2 => ?_) j g3 g4
    rw [h1.2.1 k (by omega)]
    exact permIn_all e e1 a mid (fun x => lt e[k]! x = false) (by omega) h1 (fun t t1 t2 => hX t k t1 t2 k1 k2) i g1 g2
end Stb
end Go.Proofs.YtdhlmflbefnekaaDoor
