/- Slices of tables (a factor and a slice of numbers each): one that came in. -/
import Derived.Test.YtnkababhgloclaaOpenLib
import Derived.Test.YtnkababhgloclaaPairLib
import Derived.Test.YtnkababhgloclaaCardV
import Derived.Deep.SlicePairs
namespace Go.Proofs.Ytnkababhgloclaa
open Go.RowKit Go.ChangeShapes Go.WideShapes Go.Deep
def rF (rs : List (Int × List Int)) (i : Nat) : Int := (rs.getD i (0, [])).1
def rO (rs : List (Int × List Int)) (i : Nat) : List Int := (rs.getD i (0, [])).2
theorem r_at {rs : List (Int × List Int)} {i : Nat} (h : i < rs.length) : rs[i] = (rF rs i, rO rs i) := by simp [rF, rO, List.getD, h]
/-- A slice value that reads as these tables. -/
def Tabs (w : World) (v : Value) (rs : List (Int × List Int)) : Prop :=
  ∃ a cap, v = .slice a rs.length cap ∧ rs.length ≤ maxLen ∧ (a = none → rs = [] ∧ cap = 0) ∧ ∀ i, i < rs.length → ∃ b off u, a = some ⟨b, off, none⟩ ∧ w.cell? ⟨b, off + i * 2, none⟩ = some (.int .i64 (rF rs i)) ∧ w.cell? ⟨b, off + i * 2 + 1, none⟩ = some u ∧ Ints .i64 w u (rO rs i)
theorem Ints.below {k : IntKind} {w w' : World} {v : Value} {zs : List Int} (h : Ints k w v zs) (hb : Below w.heap.size w w') : Ints k w' v zs := by
  obtain ⟨a, cap, he, g1, g2, g3⟩ := h
  refine ⟨a, cap, he, g1, g2, fun i hi => ?_⟩
  obtain ⟨b, off, h1, h2⟩ := g3 i hi
  exact ⟨b, off, h1, (hb.cell (p := ⟨b, off + i, none⟩) (World.block_lt_of_cell? w _ h2)).trans h2⟩
theorem Tabs.below {w w' : World} {v : Value} {rs : List (Int × List Int)} (h : Tabs w v rs) (hb : Below w.heap.size w w') : Tabs w' v rs := by
  obtain ⟨a, cap, he, g1, g2, g3⟩ := h
  refine ⟨a, cap, he, g1, g2, fun i hi => ?_⟩
  obtain ⟨b, off, u, h1, h2, h3, h4⟩ := g3 i hi
  exact ⟨b, off, u, h1, (hb.cell (p := ⟨b, off + i * 2, none⟩) (World.block_lt_of_cell? w _ h2)).trans h2, (hb.cell (p := ⟨b, off + i * 2 + 1, none⟩) (World.block_lt_of_cell? w _ h3)).trans h3, h4.below hb⟩
theorem list_of {α : Type} (p : Nat → α → Prop) : ∀ n, (∀ i, i < n → ∃ a, p i a) → ∃ l : List α, l.length = n ∧ ∀ i (h : i < l.length), p i l[i]
  | 0, _ => ⟨[], rfl, fun i h => by simp at h⟩
  | n + 1, h => by
    obtain ⟨l, h1, h2⟩ := list_of p n (fun i hi => h i (by omega))
    obtain ⟨a, ha⟩ := h n (by omega)
    refine ⟨l ++ [a], by simp [h1], fun i hi => ?_⟩
    by_cases c : i < l.length
    · rw [List.getElem_append_left c]; exact h2 i c
    · have e : i = n := by simp at hi; omega
      subst e
      rw [List.getElem_append_right (by omega)]
      simpa [h1] using ha
section
variable {H : Type} {enc : TypeId × Value → H} {P : Program} {w : World} {base : Nat} {spare : Nat → Bool} {held : Bool}
theorem mem_all (e : TypeId) : ∀ (l : List (DataW H)) (d : DataW H) (n : Nat), d ∈ l → n ∈ DataW.weights P e d → n ∈ DataW.weightsAll P e l
  | [], d, n, h, _ => by cases h
  | x :: l, d, n, h, h2 => by
    unfold DataW.weightsAll
    rcases List.mem_cons.1 h with rfl | h
    · exact List.mem_append_left _ h2
    · exact List.mem_append_right _ (mem_all e l d n h h2)
/-- A slice of integers that reads. -/
theorem ints_trod {t e : TypeId} {k : IntKind} {fuel : Nat} {v : Value} {x : DataW H × List MemPlace} {bytes : Nat} (ht : P.underlying t = some (.slice e)) (he : P.underlying e = some (.int k)) (hce : P.cellsOf e = 1) (hby : P.bytesOf e = bytes)
    (h : DataW.trod enc P w base spare held fuel t [v] = some x) (hw : ∀ n ∈ DataW.weights P t x.1, n ≤ reachBytes) :
    ∃ zs : List Int, Ints k w v zs ∧ zs.length * bytes ≤ reachBytes ∧ ∀ z ∈ zs, (Lit.int k z).wf = true := by
  have hform : ∃ a len cap, v = .slice a len cap := by
    rcases open_slice ht h with ⟨hcs, _⟩ | ⟨x, l, c, m, n, D, Pl, hcs, _⟩
    · exact ⟨none, 0, 0, by simpa using hcs⟩
    · exact ⟨some x, l, c, by simpa using hcs⟩
  obtain ⟨a, len, cap, rfl⟩ := hform
  have hT : DataW.Trod enc P w base spare held t (.slice a len cap) x.1 x.2 := ⟨fuel, by simpa [Value.cells] using h⟩
  exact ints_arg0 ht he hce hby hT hw
theorem tabs_arg {t e i s : TypeId} {f0 f1 : Field} {r : Reach} {b0 : Nat} {v : Value} {d : DataW H} {ps : List MemPlace} (ht : P.underlying t = some (.slice e)) (he : P.underlying e = some (.struct #[f0, f1]))
    (ce : P.cellsOf e = 2) (o0 : f0.offset = 0) (o1 : f1.offset = 1) (c0 : P.cellsOf f0.type = 1) (c1 : P.cellsOf f1.type = 1) (y0 : f0.type = i) (y1 : f1.type = s) (hi : P.underlying i = some (.int .i64)) (hs : P.underlying s = some (.slice i)) (hci : P.cellsOf i = 1) (hbi : P.bytesOf i = 8) (hbe : P.bytesOf e = 32)
    (hv : Value.okWide P w r b0 t v) (h : DataW.Trod enc P w base spare held t v d ps) (hw : ∀ n ∈ DataW.weights P t d, n ≤ reachBytes) :
    ∃ rs : List (Int × List Int), Tabs w v rs ∧ rs.length * 32 ≤ reachBytes ∧ ∀ k, k < rs.length → (Lit.int .i64 (rF rs k)).wf = true ∧ (rO rs k).length * 8 ≤ reachBytes ∧ ∀ z ∈ rO rs k, (Lit.int .i64 z).wf = true := by
  obtain ⟨a, len, cap, rfl⟩ := okWide_slice ht hv
  have hsz := slice_size ht h hw
  rw [hbe] at hsz
  obtain ⟨fuel, h⟩ := h
  rcases open_slice_pairs ht he ce o0 o1 c0 c1 h with ⟨hcs, _⟩ | ⟨x, l, c, m, n, V0, V1, D0, D1, P0, P1, hcs, _, hl, hm, hmm, hx, hh⟩
  · simp [Value.cells] at hcs
    obtain ⟨rfl, rfl, rfl⟩ := hcs
    exact ⟨[], ⟨none, 0, rfl, by simp, fun _ => ⟨rfl, rfl⟩, fun i hi => by simp at hi⟩, by simp, fun k hk => by simp at hk⟩
  · simp [Value.cells] at hcs
    obtain ⟨rfl, rfl, rfl⟩ := hcs
    have hlm : len ≤ m := by rw [hmm]; split <;> omega
    have hd : d = .slice ((List.range len).map fun i => .agg [D0 i, D1 i]) ((List.range (m - len)).map fun j => .agg [D0 (len + j), D1 (len + j)]) := congrArg Prod.fst hx
    have key : ∀ k, k < len → ∃ p : Int × List Int, w.cell? (x.add (k * 2)) = some (.int .i64 p.1) ∧ (Lit.int .i64 p.1).wf = true ∧ ∃ u, w.cell? (x.add (k * 2 + 1)) = some u ∧ Ints .i64 w u p.2 ∧ p.2.length * 8 ≤ reachBytes ∧ ∀ z ∈ p.2, (Lit.int .i64 z).wf = true := by
      intro k hk
      obtain ⟨g0, g1, t0, t1⟩ := hh k (by omega)
      rw [y0] at t0
      rw [y1] at t1
      obtain ⟨z, ez, _, wz⟩ := DataW.trod_int hi t0
      simp at ez
      obtain ⟨zs, q1, q2, q3⟩ := ints_trod hs hi hci hbi t1 (fun q hq => hw q (by
        rw [hd]
        simp only [DataW.weights, ht]
        refine List.mem_cons_of_mem _ (List.mem_append_left _ (mem_all e _ (.agg [D0 k, D1 k]) q (List.mem_map.2 ⟨k, List.mem_range.2 hk, rfl⟩) ?_))
        simp only [DataW.weights, he, List.map_cons, List.map_nil, DataW.weightsEach, y1]
        exact List.mem_append_right _ (List.mem_append_left _ hq)))
      exact ⟨(z, zs), by rw [g0, ez], wz, _, g1, q1, q2, q3⟩
    obtain ⟨rs, r1, r2⟩ := list_of _ len key
    subst r1
    refine ⟨rs, ⟨some x, cap, rfl, by omega, (fun h => by cases h), fun k hk => ?_⟩, hsz, fun k hk => ?_⟩
    · obtain ⟨g0, _, u, g1, g2, _⟩ := r2 k hk
      rw [r_at hk] at g0 g2
      obtain ⟨b, off, spot⟩ := x
      have hsp : spot = none := by
        obtain ⟨g00, _⟩ := r2 0 (by omega)
        have := World.cell?_spot g00
        simpa [Addr.add] using this
      subst hsp
      rw [addr_add] at g0 g1
      exact ⟨b, off, u, rfl, g0, by rw [Nat.add_assoc]; exact g1, g2⟩
    · obtain ⟨_, g0, u, _, _, g1, g2⟩ := r2 k hk
      rw [r_at hk] at g0 g1 g2
      exact ⟨g0, g1, g2⟩
end
end Go.Proofs.Ytnkababhgloclaa
