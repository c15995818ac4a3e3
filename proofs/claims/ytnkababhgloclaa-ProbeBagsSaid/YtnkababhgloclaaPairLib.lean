/- Slices of pairs of int64 (two cells an element): one that came in, and rows of the call's own. -/
import Derived.Test.YtnkababhgloclaaOpenLib
import Derived.OpenShut
import Derived.Laws.AppendOwnNone
import Derived.Below
import Derived.OneCell
namespace Go.Proofs.Ytnkababhgloclaa
open Go.RowKit Go.ChangeShapes Go.WideShapes Go.Deep

def p1 (ps : List (Int × Int)) (i : Nat) : Int := (ps.getD i (0, 0)).1
def p2 (ps : List (Int × Int)) (i : Nat) : Int := (ps.getD i (0, 0)).2
theorem pair_at (ps : List (Int × Int)) (k : Nat) (hk : k < ps.length) : ps[k] = (p1 ps k, p2 ps k) := by
  simp [p1, p2, List.getD, hk]
/-- A slice value that reads as these pairs, two cells each. -/
def Pairs (w : World) (v : Value) (ps : List (Int × Int)) : Prop :=
  ∃ a cap, v = .slice a ps.length cap ∧ ps.length ≤ maxLen ∧ (a = none → ps = [] ∧ cap = 0) ∧ ∀ i, i < ps.length → ∃ b off, a = some ⟨b, off, none⟩ ∧
    w.cell? ⟨b, off + i * 2, none⟩ = some (.int .i64 (p1 ps i)) ∧ w.cell? ⟨b, off + i * 2 + 1, none⟩ = some (.int .i64 (p2 ps i))
theorem Pairs.grown {w w' : World} {v : Value} {ps : List (Int × Int)} (h : Pairs w v ps) (hb : Below w.heap.size w w') : Pairs w' v ps := by
  obtain ⟨a, cap, rfl, h1, h2, h3⟩ := h
  refine ⟨a, cap, rfl, h1, h2, fun i hi => ?_⟩
  obtain ⟨b, off, rfl, g1, g2⟩ := h3 i hi
  have hbb := World.block_lt_of_cell? w _ g1
  exact ⟨b, off, rfl, (hb.cell (p := ⟨b, off + i * 2, none⟩) hbb).trans g1, (hb.cell (p := ⟨b, off + i * 2 + 1, none⟩) hbb).trans g2⟩

section
variable {H : Type} {enc : TypeId × Value → H} {P : Program} {w : World} {base : Nat} {spare : Nat → Bool} {held : Bool}
/-- A slice of arrays of two int64 that came in. -/
theorem pairs_arg {t e i : TypeId} {r : Reach} {b0 : Nat} {v : Value} {d : DataW H} {ps : List MemPlace} (ht : P.underlying t = some (.slice e)) (he : P.underlying e = some (.array 2 i)) (hi : P.underlying i = some (.int .i64)) (hce : P.cellsOf e = 2) (hci : P.cellsOf i = 1) (hby : P.bytesOf e = 16)
    (hv : Value.okWide P w r b0 t v) (h : DataW.Trod enc P w base spare held t v d ps) (hw : ∀ n ∈ DataW.weights P t d, n ≤ reachBytes) :
    ∃ zs : List (Int × Int), Pairs w v zs ∧ zs.length * 16 ≤ reachBytes ∧ ∀ z ∈ zs, (Lit.int .i64 z.1).wf = true ∧ (Lit.int .i64 z.2).wf = true := by
  obtain ⟨a, len, cap, rfl⟩ := okWide_slice ht hv
  have hsz := slice_size ht h hw
  rw [hby] at hsz
  rcases slice_elems ht h with ⟨rfl, rfl, rfl⟩ | ⟨x, rfl, hl, hm, he'⟩
  · exact ⟨[], ⟨none, 0, rfl, by simp, fun _ => ⟨rfl, rfl⟩, fun i hi => by simp at hi⟩, by simp, by simp⟩
  · have key : ∀ i, i < len → ∃ z1 z2, w.cell? (x.add (i * 2)) = some (.int .i64 z1) ∧ w.cell? (x.add (i * 2 + 1)) = some (.int .i64 z2) ∧ (Lit.int .i64 z1).wf = true ∧ (Lit.int .i64 z2).wf = true := by
      intro k hk
      obtain ⟨cs, y, n, hlen, hat, htr⟩ := he' k hk
      rw [hce] at hlen hat
      obtain ⟨xs, m, _, _, _, hxl, hel⟩ := DataW.trod_array he htr
      match cs, hlen with
      | [u1, u2], _ =>
        have t0 := hel 0 (by omega)
        have t1 := hel 1 (by omega)
        rw [hci] at t0 t1
        simp only [Nat.zero_mul, List.drop_zero, List.take_succ_cons, List.take_zero, Nat.one_mul, List.drop_succ_cons] at t0 t1
        have y0 : xs[0]? = some (xs[0]'(by omega)) := List.getElem?_eq_getElem (by omega)
        have y1 : xs[1]? = some (xs[1]'(by omega)) := List.getElem?_eq_getElem (by omega)
        obtain ⟨z1, e1, _, wf1⟩ := DataW.trod_int hi (t0.trans y0)
        obtain ⟨z2, e2, _, wf2⟩ := DataW.trod_int hi (t1.trans y1)
        simp at e1 e2
        subst e1 e2
        exact ⟨z1, z2, by simpa using hat 0 (by omega), by simpa using hat 1 (by omega), wf1, wf2⟩
    let g : Nat → Int := fun j => match w.cell? (x.add j) with | some (.int _ z) => z | _ => 0
    have hg : ∀ i, i < len → w.cell? (x.add (i * 2)) = some (.int .i64 (g (i * 2))) ∧ w.cell? (x.add (i * 2 + 1)) = some (.int .i64 (g (i * 2 + 1))) ∧ (Lit.int .i64 (g (i * 2))).wf = true ∧ (Lit.int .i64 (g (i * 2 + 1))).wf = true := by
      intro k hk
      obtain ⟨z1, z2, h1, h2, wf1, wf2⟩ := key k hk
      have e1 : g (k * 2) = z1 := by simp only [g, h1]
      have e2 : g (k * 2 + 1) = z2 := by simp only [g, h2]
      rw [e1, e2]
      exact ⟨h1, h2, wf1, wf2⟩
    have hlen : ((List.range len).map fun i => (g (i * 2), g (i * 2 + 1))).length = len := by simp
    refine ⟨(List.range len).map fun i => (g (i * 2), g (i * 2 + 1)), ⟨some x, cap, by rw [hlen], by rw [hlen]; omega, (fun h => by cases h), fun k hk => ?_⟩, by rw [hlen]; exact hsz, ?_⟩
    · rw [hlen] at hk
      obtain ⟨b, off, spot⟩ := x
      have hs : spot = none := by
        have := World.cell?_spot (hg 0 (by omega)).1
        simpa [Addr.add] using this
      subst hs
      have e1 : p1 ((List.range len).map fun i => (g (i * 2), g (i * 2 + 1))) k = g (k * 2) := by simp [p1, List.getD, hk]
      have e2 : p2 ((List.range len).map fun i => (g (i * 2), g (i * 2 + 1))) k = g (k * 2 + 1) := by simp [p2, List.getD, hk]
      refine ⟨b, off, rfl, ?_, ?_⟩
      · rw [e1, ← addr_add]
        exact (hg k hk).1
      · rw [e2, Nat.add_assoc, ← addr_add]
        exact (hg k hk).2.1
    · intro z hz
      obtain ⟨i, hi, rfl⟩ := List.mem_map.1 hz
      exact (hg i (List.mem_range.1 hi)).2.2
end

/-- The cells of pairs. -/
def pcells : List (Int × Int) → List Value
  | [] => []
  | p :: r => .int .i64 p.1 :: .int .i64 p.2 :: pcells r
theorem pcells_len : ∀ ps : List (Int × Int), (pcells ps).length = ps.length * 2
  | [] => rfl
  | p :: r => by simp [pcells, pcells_len r]; omega
theorem pcells_append : ∀ (ps qs : List (Int × Int)), pcells (ps ++ qs) = pcells ps ++ pcells qs
  | [], qs => rfl
  | p :: r, qs => by simp [pcells, pcells_append r qs]
theorem pcells_at : ∀ (ps : List (Int × Int)) (i : Nat), i < ps.length → (pcells ps)[i * 2]? = some (.int .i64 (p1 ps i)) ∧ (pcells ps)[i * 2 + 1]? = some (.int .i64 (p2 ps i))
  | [], i, h => by simp at h
  | p :: r, 0, _ => by simp [pcells, p1, p2]
  | p :: r, i + 1, h => by
    have := pcells_at r i (by simpa using h)
    simp only [show (i + 1) * 2 = i * 2 + 1 + 1 by omega, pcells, List.getElem?_cons_succ]
    simpa [p1, p2] using this
theorem pcells_one (ps : List (Int × Int)) : ∀ u ∈ pcells ps, u.oneCell' = true := by
  induction ps with
  | nil => intro u hu; cases hu
  | cons p r ih =>
    intro u hu
    simp only [pcells, List.mem_cons] at hu
    rcases hu with rfl | rfl | hu
    · rfl
    · rfl
    · exact ih u hu
theorem own_pair {w : World} {base : Nat} {e : TypeId} {g n c : Nat} {ps : List (Int × Int)} (h : w.ownsRow base e 2 (.slice (some ⟨g, 0, none⟩) n c) n (pcells ps)) (hn : ps.length = n) (i : Nat) (hi : i < n) :
    w.cell? ⟨g, i * 2, none⟩ = some (.int .i64 (p1 ps i)) ∧ w.cell? ⟨g, i * 2 + 1, none⟩ = some (.int .i64 (p2 ps i)) := by
  obtain ⟨h1, h2⟩ := pcells_at ps i (by omega)
  exact ⟨(h.cellAt _ (by omega)).trans h1, (h.cellAt _ (by omega)).trans h2⟩
theorem pairs_of_own {w : World} {base : Nat} {e : TypeId} {v : Value} {n : Nat} {ps : List (Int × Int)} (h : w.ownsRow base e 2 v n (pcells ps)) (hn : ps.length = n) (hm : n ≤ maxLen) : Pairs w v ps := by
  have h' := h
  rcases h.2 with ⟨rfl, h0⟩ | ⟨g, cap, cur, rfl, _⟩
  · subst h0
    exact ⟨none, 0, by rw [hn], by omega, fun _ => ⟨List.length_eq_zero_iff.1 hn, rfl⟩, fun i hi => by omega⟩
  · subst hn
    exact ⟨some ⟨g, 0, none⟩, cap, rfl, hm, (fun h => by cases h), fun i hi => ⟨g, 0, rfl, by simpa using (own_pair h' rfl i hi).1, by simpa using (own_pair h' rfl i hi).2⟩⟩
/-- Two rows of the call's own whose elements are of two types lie apart. -/
theorem own_ne {w : World} {B B' : Nat} {e e' : TypeId} {s s' : Nat} {v v' : Value} {n n' : Nat} {xs xs' : List Value} (h : w.ownsRow B e s v n xs) (h' : w.ownsRow B' e' s' v' n' xs') (hne : e ≠ e') : v.ownBlock = none ∨ v.ownBlock ≠ v'.ownBlock := by
  rcases h.2 with ⟨rfl, _⟩ | ⟨g, cap, cur, rfl, _, hg, _⟩
  · exact .inl rfl
  · rcases h'.2 with ⟨rfl, _⟩ | ⟨g', cap', cur', rfl, _, hg', _⟩
    · exact .inr (by simp [Value.ownBlock])
    · refine .inr fun hh => ?_
      simp only [Value.ownBlock, Option.some.injEq] at hh
      subst hh
      rw [hg] at hg'
      simp at hg'
      exact hne hg'.2
/-- A block that lay before the row's own. -/
theorem own_far {w : World} {B : Nat} {e : TypeId} {s : Nat} {v : Value} {n : Nat} {xs : List Value} (h : w.ownsRow B e s v n xs) {b : Nat} (hb : b < B) : some b ≠ v.ownBlock := by
  rcases h.2 with ⟨rfl, _⟩ | ⟨g, cap, cur, rfl, hg, _⟩
  · simp [Value.ownBlock]
  · intro hh
    simp only [Value.ownBlock, Option.some.injEq] at hh
    omega
theorem pcells_take (ps : List (Int × Int)) (k : Nat) (hk : k < ps.length) : pcells (ps.take k) ++ [.int .i64 (p1 ps k), .int .i64 (p2 ps k)] = pcells (ps.take (k + 1)) := by
  have h : ps.take (k + 1) = ps.take k ++ [(p1 ps k, p2 ps k)] := by
    rw [← pair_at ps k hk, List.take_add_one, List.getElem?_eq_getElem hk]
    rfl
  rw [h, pcells_append]
  rfl
/-- The front of a row of the call's own. -/
theorem pairs_of_pre {w : World} {B : Nat} {e : TypeId} {g N c : Nat} {ps : List (Int × Int)} {ex : List Value} (h : w.ownsRow B e 2 (.slice (some ⟨g, 0, none⟩) N c) N (pcells ps ++ ex)) (hn : ps.length ≤ N) (hm : N ≤ maxLen) (c' : Nat) : Pairs w (.slice (some ⟨g, 0, none⟩) ps.length c') ps := by
  refine ⟨some ⟨g, 0, none⟩, c', rfl, by omega, (fun h => by cases h), fun i hi => ⟨g, 0, rfl, ?_⟩⟩
  obtain ⟨h1, h2⟩ := pcells_at ps i hi
  have hl := pcells_len ps
  simp only [Nat.zero_add]
  exact ⟨by rw [h.cellAt _ (by omega), List.getElem?_append_left (by omega), h1], by rw [h.cellAt _ (by omega), List.getElem?_append_left (by omega), h2]⟩
theorem pre_cells {w : World} {B : Nat} {e : TypeId} {g N c : Nat} {ps : List (Int × Int)} {ex : List Value} (h : w.ownsRow B e 2 (.slice (some ⟨g, 0, none⟩) N c) N (pcells ps ++ ex)) (hn : ps.length ≤ N) (i : Nat) (hi : i < ps.length) :
    w.cell? ⟨g, i * 2, none⟩ = some (.int .i64 (p1 ps i)) ∧ w.cell? ⟨g, i * 2 + 1, none⟩ = some (.int .i64 (p2 ps i)) := by
  obtain ⟨h1, h2⟩ := pcells_at ps i hi
  have hl := pcells_len ps
  exact ⟨by rw [h.cellAt _ (by omega), List.getElem?_append_left (by omega), h1], by rw [h.cellAt _ (by omega), List.getElem?_append_left (by omega), h2]⟩
theorem own_cap {w : World} {B : Nat} {e : TypeId} {s g n c : Nat} {xs : List Value} (h : w.ownsRow B e s (.slice (some ⟨g, 0, none⟩) n c) n xs) : n ≤ c := by
  rcases h.2 with ⟨h', _⟩ | ⟨g', cap', cur, h', _, _, hnc, _⟩
  · simp at h'
  · simp only [Value.slice.injEq, Option.some.injEq, Addr.mk.injEq, and_true, true_and] at h'
    obtain ⟨rfl, rfl⟩ := h'
    exact hnc
theorem own_below {B : Nat} {e : TypeId} {k : Nat} {v : Value} {n : Nat} {xs : List Value} {w w' : World} (h : w.ownsRow B e k v n xs) (hb : Below w.heap.size w w') : w'.ownsRow B e k v n xs := by
  refine ⟨h.1, ?_⟩
  rcases h.2 with h2 | ⟨g, cap, cur, hv, hg, hh, r⟩
  · exact .inl h2
  · exact .inr ⟨g, cap, cur, hv, hg, (hb.block g (lt_of_block hh)).trans hh, r⟩
theorem own_slice {w : World} {B : Nat} {v : Value} {n s : Nat} {t : TypeId} {xs : List Value} (h : w.ownsRow B t s v n xs) : ∃ a c, v = .slice a n c := by
  rcases h.2 with ⟨rfl, h0⟩ | ⟨g, cap, cur, rfl, _⟩
  · exact ⟨none, 0, by rw [h0]⟩
  · exact ⟨_, _, rfl⟩
theorem own_mono {w : World} {B B' : Nat} {e : TypeId} {s : Nat} {v : Value} {n : Nat} {xs : List Value} (h : w.ownsRow B e s v n xs) (hb : B' ≤ B) : w.ownsRow B' e s v n xs :=
  ⟨h.1, h.2.imp id fun ⟨g, cap, cur, a, b, r⟩ => ⟨g, cap, cur, a, Nat.le_trans hb b, r⟩⟩
end Go.Proofs.Ytnkababhgloclaa
