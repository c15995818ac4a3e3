/- Cards: what a slice of cards, and a card by value, that came in read as. -/
import Derived.Test.YtnkababhgloclaaTabsL
import Derived.Test.YtnkababhgloclaaNameC
namespace Go.Proofs.Ytnkababhgloclaa
open Go.RowKit Go.ChangeShapes Go.WideShapes Go.Deep
/-- A card. -/
structure Cd where
  name : ByteArray
  fam : ByteArray
  lvl : Int
  comp : List ByteArray
  score : Int
  quirk : ByteArray
  ent : Int
instance : Inhabited Cd := ⟨⟨.empty, .empty, 0, [], 0, .empty, 0⟩⟩
/-- Its cells; sl: the slice of its texts. -/
def Cd.cells (c : Cd) (sl : Value) : List Value := [.string c.name, .string c.fam, .int .u8 c.lvl, sl, .int .i8 c.score, .string c.quirk, .int .i16 c.ent]
def Cd.ok (c : Cd) : Prop := 0 ≤ c.lvl ∧ c.lvl ≤ 255 ∧ -128 ≤ c.score ∧ c.score ≤ 127 ∧ -32768 ≤ c.ent ∧ c.ent ≤ 32767
def nthS (ss : List ByteArray) (i : Nat) : ByteArray := ss.getD i .empty
theorem nthS_eq {ss : List ByteArray} {i : Nat} (h : i < ss.length) : nthS ss i = ss[i] := by simp [nthS, List.getD, h]
/-- A slice value that reads as these texts. -/
def Strs (w : World) (v : Value) (ss : List ByteArray) : Prop :=
  ∃ a cap, v = .slice a ss.length cap ∧ ss.length ≤ maxLen ∧ ss.length ≤ cap ∧ (a = none → ss = [] ∧ cap = 0) ∧ ∀ i, i < ss.length → ∃ b off, a = some ⟨b, off, none⟩ ∧ w.cell? ⟨b, off + i, none⟩ = some (.string (nthS ss i))
theorem Strs.below {w w' : World} {v : Value} {ss : List ByteArray} (h : Strs w v ss) (hb : Below w.heap.size w w') : Strs w' v ss := by
  obtain ⟨a, cap, he, g1, g0, g2, g3⟩ := h
  refine ⟨a, cap, he, g1, g0, g2, fun i hi => ?_⟩
  obtain ⟨b, off, h1, h2⟩ := g3 i hi
  exact ⟨b, off, h1, (hb.cell (p := ⟨b, off + i, none⟩) (World.block_lt_of_cell? w _ h2)).trans h2⟩
/-- A slice value that reads as these cards. -/
def CardsAt (w : World) (v : Value) (cs : List Cd) : Prop :=
  ∃ a cap, v = .slice a cs.length cap ∧ (cs.length ≤ maxLen ∧ cs.length ≤ cap) ∧ (a = none → cs = [] ∧ cap = 0) ∧ ∀ i (hi : i < cs.length), ∃ b off sl, a = some ⟨b, off, none⟩ ∧ (∀ j u, (cs[i].cells sl)[j]? = some u → w.cell? ⟨b, off + i * 7 + j, none⟩ = some u) ∧ Strs w sl cs[i].comp
theorem cells_some (c : Cd) (sl : Value) (j : Nat) (hj : j < 7) : ∃ u, (c.cells sl)[j]? = some u := ⟨_, List.getElem?_eq_getElem (by simpa [Cd.cells] using hj)⟩
theorem CardsAt.below {w w' : World} {v : Value} {cs : List Cd} (h : CardsAt w v cs) (hb : Below w.heap.size w w') : CardsAt w' v cs := by
  obtain ⟨a, cap, he, g1, g2, g3⟩ := h
  refine ⟨a, cap, he, g1, g2, fun i hi => ?_⟩
  obtain ⟨b, off, sl, h1, h2, h3⟩ := g3 i hi
  exact ⟨b, off, sl, h1, fun j u hu => (hb.cell (p := ⟨b, off + i * 7 + j, none⟩) (World.block_lt_of_cell? w _ (h2 j u hu))).trans (h2 j u hu), h3.below hb⟩
theorem c_str : Try.prog.cellsOf 9 = 1 := by kernel_rfl
theorem c_u8 : Try.prog.cellsOf 5 = 1 := by kernel_rfl
theorem c_i8 : Try.prog.cellsOf 47 = 1 := by kernel_rfl
theorem c_i16 : Try.prog.cellsOf 48 = 1 := by kernel_rfl
theorem c_strs : Try.prog.cellsOf 37 = 1 := by kernel_rfl
theorem c_card : Try.prog.cellsOf 50 = 7 := by kernel_rfl
theorem b_str : Try.prog.bytesOf 9 = 16 := by kernel_rfl
theorem b_card : Try.prog.bytesOf 50 = 96 := by kernel_rfl
section
variable {H : Type} {enc : TypeId × Value → H} {w : World} {base : Nat} {spare : Nat → Bool} {held : Bool}
/-- A slice of texts that reads. -/
theorem strs_trod {fuel : Nat} {v : Value} {x : DataW H × List MemPlace} (h : DataW.trod enc Try.prog w base spare held fuel 37 [v] = some x) (hw : ∀ n ∈ DataW.weights Try.prog 37 x.1, n ≤ reachBytes) :
    ∃ ss : List ByteArray, Strs w v ss ∧ ss.length * 16 ≤ reachBytes := by
  rcases open_slice Try.underlying37 h with ⟨hcs, _⟩ | ⟨a, len, cap, m, n, D, Pl, hcs, _, hl, hm, hmm, hx, hi⟩
  · simp at hcs
    exact ⟨[], ⟨none, 0, by simpa using hcs, by simp, by simp, fun _ => ⟨rfl, rfl⟩, fun i hi => by simp at hi⟩, by simp⟩
  · simp at hcs
    subst hcs
    have hlm : len ≤ m := by rw [hmm]; split <;> omega
    have key : ∀ i, i < len → ∃ s : ByteArray, w.cell? (a.add i) = some (.string s) := by
      intro i hil
      obtain ⟨cs, hcells, htr⟩ := hi i (by omega)
      rw [c_str] at hcells
      obtain ⟨_, _, hat⟩ := World.cells?_some hcells
      obtain ⟨s, rfl, _, _⟩ := DataW.trod_string Try.underlying9 htr
      have := hat 0 (by omega)
      have e0 : (a.add (i * 1)).add 0 = a.add i := by rw [add_add]; simp
      rw [e0] at this
      exact ⟨s, by simpa using this⟩
    obtain ⟨ss, r1, r2⟩ := list_of _ len key
    subst r1
    have hsz : ss.length * 16 ≤ reachBytes := by
      have := hw ((ss.length + (m - ss.length)) * Try.prog.bytesOf 9) (by rw [hx]; simp [DataW.weights, Try.underlying37])
      rw [b_str] at this
      exact Nat.le_trans (Nat.mul_le_mul_right _ (by omega)) this
    refine ⟨ss, ⟨some a, cap, rfl, by omega, hl, (fun h => by cases h), fun i hi' => ?_⟩, hsz⟩
    have h1 := r2 i hi'
    obtain ⟨b, off, spot⟩ := a
    have hs : spot = none := by
      have := World.cell?_spot (r2 0 (by omega))
      simpa [Addr.add] using this
    subst hs
    rw [addr_add, ← nthS_eq hi'] at h1
    exact ⟨b, off, rfl, h1⟩
theorem seven {α : Type} (l : List α) (h : l.length = 7) : ∃ a0 a1 a2 a3 a4 a5 a6, l = [a0, a1, a2, a3, a4, a5, a6] := by
  match l, h with
  | [a0, a1, a2, a3, a4, a5, a6], _ => exact ⟨_, _, _, _, _, _, _, rfl⟩
set_option maxRecDepth 100000 in
/-- A card that reads. -/
theorem card_trod {fuel : Nat} {cs : List Value} {x : DataW H × List MemPlace} (h : DataW.trod enc Try.prog w base spare held fuel 50 cs = some x) (hw : ∀ n ∈ DataW.weights Try.prog 50 x.1, n ≤ reachBytes) :
    ∃ (c : Cd) (sl : Value), cs = c.cells sl ∧ Strs w sl c.comp ∧ c.comp.length * 16 ≤ reachBytes ∧ c.ok ∧ c.name.size ≤ reachBytes := by
  obtain ⟨xs, n, _, hx, hlen, hxl, hfs⟩ := DataW.trod_struct Try.underlying50 h
  rw [c_card] at hlen
  obtain ⟨a0, a1, a2, a3, a4, a5, a6, rfl⟩ : ∃ a0 a1 a2 a3 a4 a5 a6, cs = [a0, a1, a2, a3, a4, a5, a6] := seven cs hlen
  obtain ⟨x0, x1, x2, x3, x4, x5, x6, rfl⟩ : ∃ x0 x1 x2 x3 x4 x5 x6, xs = [x0, x1, x2, x3, x4, x5, x6] := seven xs hxl
  have h0 : DataW.trod enc Try.prog w base spare held n 9 (([a0, a1, a2, a3, a4, a5, a6].drop 0).take (Try.prog.cellsOf 9)) = some x0 := hfs 0 _ rfl
  have h1 : DataW.trod enc Try.prog w base spare held n 9 (([a0, a1, a2, a3, a4, a5, a6].drop 1).take (Try.prog.cellsOf 9)) = some x1 := hfs 1 _ rfl
  have h2 : DataW.trod enc Try.prog w base spare held n 5 (([a0, a1, a2, a3, a4, a5, a6].drop 2).take (Try.prog.cellsOf 5)) = some x2 := hfs 2 _ rfl
  have h3 : DataW.trod enc Try.prog w base spare held n 37 (([a0, a1, a2, a3, a4, a5, a6].drop 3).take (Try.prog.cellsOf 37)) = some x3 := hfs 3 _ rfl
  have h4 : DataW.trod enc Try.prog w base spare held n 47 (([a0, a1, a2, a3, a4, a5, a6].drop 4).take (Try.prog.cellsOf 47)) = some x4 := hfs 4 _ rfl
  have h5 : DataW.trod enc Try.prog w base spare held n 9 (([a0, a1, a2, a3, a4, a5, a6].drop 5).take (Try.prog.cellsOf 9)) = some x5 := hfs 5 _ rfl
  have h6 : DataW.trod enc Try.prog w base spare held n 48 (([a0, a1, a2, a3, a4, a5, a6].drop 6).take (Try.prog.cellsOf 48)) = some x6 := hfs 6 _ rfl
  rw [c_str] at h0 h1 h5
  rw [c_u8] at h2
  rw [c_strs] at h3
  rw [c_i8] at h4
  rw [c_i16] at h6
  obtain ⟨s0, e0, r0, _⟩ := DataW.trod_string Try.underlying9 h0
  obtain ⟨s1, e1, _, _⟩ := DataW.trod_string Try.underlying9 h1
  obtain ⟨z2, e2, _, w2⟩ := DataW.trod_int Try.underlying5 h2
  obtain ⟨z4, e4, _, w4⟩ := DataW.trod_int Try.underlying47 h4
  obtain ⟨s5, e5, _, _⟩ := DataW.trod_string Try.underlying9 h5
  obtain ⟨z6, e6, _, w6⟩ := DataW.trod_int Try.underlying48 h6
  obtain ⟨ss, hss, hsz⟩ := strs_trod (v := a3) h3 (fun q hq => hw q (by
    rw [hx]
    simp only [DataW.weights, Try.underlying50, List.map_cons, List.map_nil, DataW.weightsEach]
    simp only [List.mem_append]
    exact .inr (.inr (.inr (.inl hq)))))
  have hn0 : s0.size ≤ reachBytes := hw s0.size (by
    rw [hx]
    simp only [DataW.weights, Try.underlying50, List.map_cons, List.map_nil, DataW.weightsEach]
    simp only [List.mem_append]
    left
    rw [r0]
    simp [DataW.weights])
  simp at e0 e1 e2 e4 e5 e6
  subst e0 e1 e2 e4 e5 e6
  simp [Lit.wf] at w2 w4 w6
  refine ⟨⟨s0, s1, z2, ss, z4, s5, z6⟩, a3, rfl, hss, hsz, ?_, hn0⟩
  have m1 : IntKind.u8.min = 0 ∧ IntKind.u8.max = 255 ∧ IntKind.i8.min = -128 ∧ IntKind.i8.max = 127 ∧ IntKind.i16.min = -32768 ∧ IntKind.i16.max = 32767 := ⟨rfl, rfl, rfl, rfl, rfl, rfl⟩
  unfold Cd.ok
  simp only
  omega
set_option maxRecDepth 100000 in
/-- A slice of cards that came in. -/
theorem cards_arg {r : Reach} {b0 : Nat} {v : Value} {d : DataW H} {ps : List MemPlace} (hv : Value.okWide Try.prog w r b0 105 v) (h : DataW.Trod enc Try.prog w base spare held 105 v d ps) (hw : ∀ n ∈ DataW.weights Try.prog 105 d, n ≤ reachBytes) :
    ∃ cs : List Cd, CardsAt w v cs ∧ cs.length * 96 ≤ reachBytes ∧ ∀ i (hi : i < cs.length), cs[i].comp.length * 16 ≤ reachBytes ∧ cs[i].ok ∧ cs[i].name.size ≤ reachBytes := by
  obtain ⟨a, len, cap, rfl⟩ := okWide_slice Try.underlying105 hv
  have hsz := slice_size Try.underlying105 h hw
  rw [b_card] at hsz
  obtain ⟨fuel, h⟩ := h
  rcases open_slice Try.underlying105 h with ⟨hcs, _⟩ | ⟨x, l, c, m, n, D, Pl, hcs, _, hl, hm, hmm, hx, hi⟩
  · simp [Value.cells] at hcs
    obtain ⟨rfl, rfl, rfl⟩ := hcs
    exact ⟨[], ⟨none, 0, rfl, ⟨by simp, by simp⟩, fun _ => ⟨rfl, rfl⟩, fun i hi => by simp at hi⟩, by simp, fun k hk => by simp at hk⟩
  · simp [Value.cells] at hcs
    obtain ⟨rfl, rfl, rfl⟩ := hcs
    have hlm : len ≤ m := by rw [hmm]; split <;> omega
    have hd : d = .slice ((List.range len).map D) ((List.range (m - len)).map fun j => D (len + j)) := congrArg Prod.fst hx
    have key : ∀ k, k < len → ∃ c : Cd, (∃ sl, (∀ j u, (c.cells sl)[j]? = some u → w.cell? (x.add (k * 7 + j)) = some u) ∧ Strs w sl c.comp) ∧ c.comp.length * 16 ≤ reachBytes ∧ c.ok ∧ c.name.size ≤ reachBytes := by
      intro k hk
      obtain ⟨cs, hcells, htr⟩ := hi k (by omega)
      rw [c_card] at hcells
      obtain ⟨_, hlen, hat⟩ := World.cells?_some hcells
      obtain ⟨c, sl, rfl, h1, h2, h3⟩ := card_trod htr (fun q hq => hw q (by
        rw [hd]
        simp only [DataW.weights, Try.underlying105]
        exact List.mem_cons_of_mem _ (List.mem_append_left _ (mem_all _ _ (D k) q (List.mem_map.2 ⟨k, List.mem_range.2 hk, rfl⟩) hq))))
      refine ⟨c, ⟨sl, fun j u hu => ?_, h1⟩, h2, h3⟩
      have hj : j < 7 := by
        have := (List.getElem?_eq_some_iff.1 hu).1
        simpa [Cd.cells] using this
      rw [← add_add, hat j hj, hu]
    obtain ⟨cs, r1, r2⟩ := list_of _ len key
    subst r1
    refine ⟨cs, ⟨some x, cap, rfl, ⟨by omega, hl⟩, (fun h => by cases h), fun k hk => ?_⟩, hsz, fun k hk => (r2 k hk).2⟩
    obtain ⟨sl, h1, h2⟩ := (r2 k hk).1
    obtain ⟨b, off, spot⟩ := x
    have hsp : spot = none := by
      obtain ⟨sl0, h10, _⟩ := (r2 0 (by omega)).1
      have := World.cell?_spot (h10 0 _ rfl)
      simpa [Addr.add] using this
    subst hsp
    exact ⟨b, off, sl, rfl, fun j u hu => by have := h1 j u hu; rwa [addr_add, ← Nat.add_assoc] at this, h2⟩
/-- A card by value that came in. -/
theorem card_arg {r : Reach} {b0 : Nat} {v : Value} {d : DataW H} {ps : List MemPlace} (_ : Value.okWide Try.prog w r b0 50 v) (h : DataW.Trod enc Try.prog w base spare held 50 v d ps) (hw : ∀ n ∈ DataW.weights Try.prog 50 d, n ≤ reachBytes) :
    ∃ (c : Cd) (sl : Value), v.cells.toList = c.cells sl ∧ Strs w sl c.comp ∧ c.comp.length * 16 ≤ reachBytes ∧ c.ok ∧ c.name.size ≤ reachBytes := by
  obtain ⟨fuel, h⟩ := h
  exact card_trod h hw
end
end Go.Proofs.Ytnkababhgloclaa
