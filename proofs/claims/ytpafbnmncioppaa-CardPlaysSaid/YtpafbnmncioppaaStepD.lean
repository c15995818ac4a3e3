/- A script of steps that came in: what it reads as. -/
import Derived.Test.YtpafbnmncioppaaCardD
namespace Go.Proofs.Ytpafbnmncioppaa
open Go.RowKit Go.ChangeShapes Go.WideShapes Go.Deep
/-- A step. -/
structure Sp where
  who : Int
  kind : Int
  card : Cd
  pack : ByteArray
  init : Int
  sum : Int
def Sp.cells (t : Sp) (sl : Value) : List Value := [.int .i64 t.who, .int .i64 t.kind, .string t.card.name, .string t.card.fam, .int .u8 t.card.lvl, sl, .int .i8 t.card.score, .string t.card.quirk, .int .i16 t.card.ent, .string t.pack, .int .i64 t.init, .int .i64 t.sum]
def Sp.ok (t : Sp) : Prop := -9223372036854775808 ≤ t.who ∧ t.who ≤ 9223372036854775807
theorem c_int : Try.prog.cellsOf 3 = 1 := by kernel_rfl
theorem c_i64 : Try.prog.cellsOf 2 = 1 := by kernel_rfl
theorem c_step : Try.prog.cellsOf 61 = 12 := by kernel_rfl
theorem b_step : Try.prog.bytesOf 61 = 144 := by kernel_rfl
theorem twelve {α : Type} (l : List α) (h : l.length = 12) : ∃ a0 a1 a2 a3 a4 a5 a6 a7 a8 a9 a10 a11, l = [a0, a1, a2, a3, a4, a5, a6, a7, a8, a9, a10, a11] := by
  match l, h with
  | [a0, a1, a2, a3, a4, a5, a6, a7, a8, a9, a10, a11], _ => exact ⟨_, _, _, _, _, _, _, _, _, _, _, _, rfl⟩
theorem six {α : Type} (l : List α) (h : l.length = 6) : ∃ a0 a1 a2 a3 a4 a5, l = [a0, a1, a2, a3, a4, a5] := by
  match l, h with
  | [a0, a1, a2, a3, a4, a5], _ => exact ⟨_, _, _, _, _, _, rfl⟩
section
variable {H : Type} {enc : TypeId × Value → H} {w : World} {base : Nat} {spare : Nat → Bool} {held : Bool}
set_option maxRecDepth 100000 in
/-- A step that reads. -/
theorem step_trod {fuel : Nat} {cs : List Value} {x : DataW H × List MemPlace} (h : DataW.trod enc Try.prog w base spare held fuel 61 cs = some x) (hw : ∀ n ∈ DataW.weights Try.prog 61 x.1, n ≤ reachBytes) :
    ∃ (t : Sp) (sl : Value), cs = t.cells sl ∧ Strs w sl t.card.comp ∧ t.card.comp.length * 16 ≤ reachBytes ∧ t.card.ok ∧ t.ok := by
  obtain ⟨xs, n, _, hx, hlen, hxl, hfs⟩ := DataW.trod_struct Try.underlying61 h
  rw [c_step] at hlen
  obtain ⟨a0, a1, a2, a3, a4, a5, a6, a7, a8, a9, a10, a11, rfl⟩ := twelve cs hlen
  obtain ⟨x0, x1, x2, x3, x4, x5, rfl⟩ : ∃ x0 x1 x2 x3 x4 x5, xs = [x0, x1, x2, x3, x4, x5] := six xs hxl
  have h0 : DataW.trod enc Try.prog w base spare held n 3 (([a0, a1, a2, a3, a4, a5, a6, a7, a8, a9, a10, a11].drop 0).take (Try.prog.cellsOf 3)) = some x0 := hfs 0 _ rfl
  have h1 : DataW.trod enc Try.prog w base spare held n 3 (([a0, a1, a2, a3, a4, a5, a6, a7, a8, a9, a10, a11].drop 1).take (Try.prog.cellsOf 3)) = some x1 := hfs 1 _ rfl
  have h2 : DataW.trod enc Try.prog w base spare held n 38 (([a0, a1, a2, a3, a4, a5, a6, a7, a8, a9, a10, a11].drop 2).take (Try.prog.cellsOf 38)) = some x2 := hfs 2 _ rfl
  have h3 : DataW.trod enc Try.prog w base spare held n 9 (([a0, a1, a2, a3, a4, a5, a6, a7, a8, a9, a10, a11].drop 9).take (Try.prog.cellsOf 9)) = some x3 := hfs 3 _ rfl
  have h4 : DataW.trod enc Try.prog w base spare held n 3 (([a0, a1, a2, a3, a4, a5, a6, a7, a8, a9, a10, a11].drop 10).take (Try.prog.cellsOf 3)) = some x4 := hfs 4 _ rfl
  have h5 : DataW.trod enc Try.prog w base spare held n 2 (([a0, a1, a2, a3, a4, a5, a6, a7, a8, a9, a10, a11].drop 11).take (Try.prog.cellsOf 2)) = some x5 := hfs 5 _ rfl
  rw [c_int] at h0 h1 h4
  rw [c_card] at h2
  rw [c_str] at h3
  rw [c_i64] at h5
  obtain ⟨z0, e0, _, w0⟩ := DataW.trod_int Try.underlying3 h0
  obtain ⟨z1, e1, _, _⟩ := DataW.trod_int Try.underlying3 h1
  obtain ⟨s3, e3, _, _⟩ := DataW.trod_string Try.underlying9 h3
  obtain ⟨z4, e4, _, _⟩ := DataW.trod_int Try.underlying3 h4
  obtain ⟨z5, e5, _, _⟩ := DataW.trod_int Try.underlying2 h5
  obtain ⟨c, sl, e2, g1, g2, g3, _⟩ := card_trod h2 (fun q hq => hw q (by
    rw [hx]
    simp only [DataW.weights, Try.underlying61, List.map_cons, List.map_nil, DataW.weightsEach]
    simp only [List.mem_append]
    exact .inr (.inr (.inl hq))))
  simp at e0 e1 e3 e4 e5
  simp [Cd.cells] at e2
  obtain ⟨f0, f1, f2, f3, f4, f5, f6⟩ := e2
  subst e0 e1 e3 e4 e5 f0 f1 f2 f3 f4 f5 f6
  simp [Lit.wf] at w0
  refine ⟨⟨z0, z1, c, s3, z4, z5⟩, _, rfl, g1, g2, g3, ?_⟩
  have m1 : IntKind.i64.min = -9223372036854775808 ∧ IntKind.i64.max = 9223372036854775807 := ⟨rfl, rfl⟩
  unfold Sp.ok
  simp only
  omega
/-- A slice value that reads as these steps. -/
def StepsAt (w : World) (v : Value) (ts : List Sp) : Prop :=
  ∃ a cap, v = .slice a ts.length cap ∧ ts.length ≤ cap ∧ ∀ i (hi : i < ts.length), ∃ b off sl, a = some ⟨b, off, none⟩ ∧ (∀ j u, (ts[i].cells sl)[j]? = some u → w.cell? ⟨b, off + i * 12 + j, none⟩ = some u) ∧ Strs w sl ts[i].card.comp
theorem StepsAt.below {w w' : World} {v : Value} {ts : List Sp} (h : StepsAt w v ts) (hb : Below w.heap.size w w') : StepsAt w' v ts := by
  obtain ⟨a, cap, he, g1, g3⟩ := h
  refine ⟨a, cap, he, g1, fun i hi => ?_⟩
  obtain ⟨b, off, sl, h1, h2, h3⟩ := g3 i hi
  exact ⟨b, off, sl, h1, fun j u hu => (hb.cell (p := ⟨b, off + i * 12 + j, none⟩) (World.block_lt_of_cell? w _ (h2 j u hu))).trans (h2 j u hu), h3.below hb⟩
set_option maxRecDepth 100000 in
/-- A slice of steps that came in. -/
theorem steps_arg {r : Reach} {b0 : Nat} {v : Value} {d : DataW H} {ps : List MemPlace} (hv : Value.okWide Try.prog w r b0 51 v) (h : DataW.Trod enc Try.prog w base spare held 51 v d ps) (hw : ∀ n ∈ DataW.weights Try.prog 51 d, n ≤ reachBytes) :
    ∃ ts : List Sp, StepsAt w v ts ∧ ts.length * 144 ≤ reachBytes ∧ ∀ i (hi : i < ts.length), ts[i].card.comp.length * 16 ≤ reachBytes ∧ ts[i].card.ok ∧ ts[i].ok := by
  obtain ⟨a, len, cap, rfl⟩ := okWide_slice Try.underlying51 hv
  have hsz := slice_size Try.underlying51 h hw
  rw [b_step] at hsz
  obtain ⟨fuel, h⟩ := h
  rcases open_slice Try.underlying51 h with ⟨hcs, _⟩ | ⟨x, l, c, m, n, D, Pl, hcs, _, hl, hm, hmm, hx, hi⟩
  · simp [Value.cells] at hcs
    obtain ⟨rfl, rfl, rfl⟩ := hcs
    exact ⟨[], ⟨none, 0, rfl, by simp, fun i hi => by simp at hi⟩, by simp, fun k hk => by simp at hk⟩
  · simp [Value.cells] at hcs
    obtain ⟨rfl, rfl, rfl⟩ := hcs
    have hlm : len ≤ m := by rw [hmm]; split <;> omega
    have hd : d = .slice ((List.range len).map D) ((List.range (m - len)).map fun j => D (len + j)) := congrArg Prod.fst hx
    have key : ∀ k, k < len → ∃ t : Sp, (∃ sl, (∀ j u, (t.cells sl)[j]? = some u → w.cell? (x.add (k * 12 + j)) = some u) ∧ Strs w sl t.card.comp) ∧ t.card.comp.length * 16 ≤ reachBytes ∧ t.card.ok ∧ t.ok := by
      intro k hk
      obtain ⟨cs, hcells, htr⟩ := hi k (by omega)
      rw [c_step] at hcells
      obtain ⟨_, hlen, hat⟩ := World.cells?_some hcells
      obtain ⟨t, sl, rfl, h1, h2, h3⟩ := step_trod htr (fun q hq => hw q (by
        rw [hd]
        simp only [DataW.weights, Try.underlying51]
        exact List.mem_cons_of_mem _ (List.mem_append_left _ (mem_all _ _ (D k) q (List.mem_map.2 ⟨k, List.mem_range.2 hk, rfl⟩) hq))))
      refine ⟨t, ⟨sl, fun j u hu => ?_, h1⟩, h2, h3⟩
      have hj : j < 12 := by
        have := (List.getElem?_eq_some_iff.1 hu).1
        simpa [Sp.cells] using this
      rw [← add_add, hat j hj, hu]
    obtain ⟨ts, r1, r2⟩ := list_of _ len key
    subst r1
    refine ⟨ts, ⟨some x, cap, rfl, hl, fun k hk => ?_⟩, hsz, fun k hk => (r2 k hk).2⟩
    obtain ⟨sl, h1, h2⟩ := (r2 k hk).1
    obtain ⟨b, off, spot⟩ := x
    have hsp : spot = none := by
      obtain ⟨sl0, h10, _⟩ := (r2 0 (by omega)).1
      have := World.cell?_spot (h10 0 _ rfl)
      simpa [Addr.add] using this
    subst hsp
    exact ⟨b, off, sl, rfl, fun j u hu => by have := h1 j u hu; rwa [addr_add, ← Nat.add_assoc] at this, h2⟩
end
end Go.Proofs.Ytpafbnmncioppaa
