/- A script of steps with a bag that came in: what it reads as. -/
import Derived.Test.YtnkababhgloclaaCardD
namespace Go.Proofs.Ytnkababhgloclaa
open Go.RowKit Go.ChangeShapes Go.WideShapes Go.Deep
/-- A step. -/
structure St where
  kind : Int
  name : ByteArray
  code : Int
  pan : Int
  word : ByteArray
  id : Int
def St.cells (t : St) : List Value := [.int .i64 t.kind, .string t.name, .int .i64 t.code, .int .i64 t.pan, .string t.word, .int .i64 t.id]
def St.ok (t : St) : Prop := -9223372036854775808 ≤ t.id ∧ t.id ≤ 9223372036854775807
theorem c22_int : Try.prog.cellsOf 3 = 1 := by kernel_rfl
theorem c22_errno : Try.prog.cellsOf 34 = 1 := by kernel_rfl
theorem c22_step : Try.prog.cellsOf 36 = 6 := by kernel_rfl
theorem b22_step : Try.prog.bytesOf 36 = 64 := by kernel_rfl
theorem six22 {α : Type} (l : List α) (h : l.length = 6) : ∃ a0 a1 a2 a3 a4 a5, l = [a0, a1, a2, a3, a4, a5] := by
  match l, h with
  | [a0, a1, a2, a3, a4, a5], _ => exact ⟨_, _, _, _, _, _, rfl⟩
section
variable {H : Type} {enc : TypeId × Value → H} {w : World} {base : Nat} {spare : Nat → Bool} {held : Bool}
set_option maxRecDepth 100000 in
/-- A step that reads. -/
theorem st_trod {fuel : Nat} {cs : List Value} {x : DataW H × List MemPlace} (h : DataW.trod enc Try.prog w base spare held fuel 36 cs = some x) :
    ∃ (t : St), cs = t.cells ∧ t.ok := by
  obtain ⟨xs, n, _, hx, hlen, hxl, hfs⟩ := DataW.trod_struct Try.underlying36 h
  rw [c22_step] at hlen
  obtain ⟨a0, a1, a2, a3, a4, a5, rfl⟩ := six22 cs hlen
  obtain ⟨x0, x1, x2, x3, x4, x5, rfl⟩ : ∃ x0 x1 x2 x3 x4 x5, xs = [x0, x1, x2, x3, x4, x5] := six22 xs hxl
  have h0 : DataW.trod enc Try.prog w base spare held n 3 (([a0, a1, a2, a3, a4, a5].drop 0).take (Try.prog.cellsOf 3)) = some x0 := hfs 0 _ rfl
  have h1 : DataW.trod enc Try.prog w base spare held n 9 (([a0, a1, a2, a3, a4, a5].drop 1).take (Try.prog.cellsOf 9)) = some x1 := hfs 1 _ rfl
  have h2 : DataW.trod enc Try.prog w base spare held n 34 (([a0, a1, a2, a3, a4, a5].drop 2).take (Try.prog.cellsOf 34)) = some x2 := hfs 2 _ rfl
  have h3 : DataW.trod enc Try.prog w base spare held n 3 (([a0, a1, a2, a3, a4, a5].drop 3).take (Try.prog.cellsOf 3)) = some x3 := hfs 3 _ rfl
  have h4 : DataW.trod enc Try.prog w base spare held n 9 (([a0, a1, a2, a3, a4, a5].drop 4).take (Try.prog.cellsOf 9)) = some x4 := hfs 4 _ rfl
  have h5 : DataW.trod enc Try.prog w base spare held n 3 (([a0, a1, a2, a3, a4, a5].drop 5).take (Try.prog.cellsOf 3)) = some x5 := hfs 5 _ rfl
  rw [c22_int] at h0 h3 h5
  rw [c22_errno] at h2
  rw [c_str] at h1 h4
  obtain ⟨z0, e0, _, _⟩ := DataW.trod_int Try.underlying3 h0
  obtain ⟨s1, e1, _, _⟩ := DataW.trod_string Try.underlying9 h1
  obtain ⟨z2, e2, _, _⟩ := DataW.trod_int Try.underlying34 h2
  obtain ⟨z3, e3, _, _⟩ := DataW.trod_int Try.underlying3 h3
  obtain ⟨s4, e4, _, _⟩ := DataW.trod_string Try.underlying9 h4
  obtain ⟨z5, e5, _, w5⟩ := DataW.trod_int Try.underlying3 h5
  simp at e0 e1 e2 e3 e4 e5
  subst e0 e1 e2 e3 e4 e5
  simp [Lit.wf] at w5
  refine ⟨⟨z0, s1, z2, z3, s4, z5⟩, rfl, ?_⟩
  have m1 : IntKind.i64.min = -9223372036854775808 ∧ IntKind.i64.max = 9223372036854775807 := ⟨rfl, rfl⟩
  unfold St.ok
  simp only
  omega
/-- A slice value that reads as these steps. -/
def StsAt (w : World) (v : Value) (ts : List St) : Prop :=
  ∃ a cap, v = .slice a ts.length cap ∧ ts.length ≤ cap ∧ ∀ i (hi : i < ts.length), ∃ b off, a = some ⟨b, off, none⟩ ∧ ∀ j u, (ts[i].cells)[j]? = some u → w.cell? ⟨b, off + i * 6 + j, none⟩ = some u
theorem StsAt.below {w w' : World} {v : Value} {ts : List St} (h : StsAt w v ts) (hb : Below w.heap.size w w') : StsAt w' v ts := by
  obtain ⟨a, cap, he, g1, g3⟩ := h
  refine ⟨a, cap, he, g1, fun i hi => ?_⟩
  obtain ⟨b, off, h1, h2⟩ := g3 i hi
  exact ⟨b, off, h1, fun j u hu => (hb.cell (p := ⟨b, off + i * 6 + j, none⟩) (World.block_lt_of_cell? w _ (h2 j u hu))).trans (h2 j u hu)⟩
set_option maxRecDepth 100000 in
/-- A slice of steps that came in. -/
theorem sts_arg {r : Reach} {b0 : Nat} {v : Value} {d : DataW H} {ps : List MemPlace} (hv : Value.okWide Try.prog w r b0 22 v) (h : DataW.Trod enc Try.prog w base spare held 22 v d ps) (hw : ∀ n ∈ DataW.weights Try.prog 22 d, n ≤ reachBytes) :
    ∃ ts : List St, StsAt w v ts ∧ ts.length * 64 ≤ reachBytes ∧ ∀ i (hi : i < ts.length), ts[i].ok := by
  obtain ⟨a, len, cap, rfl⟩ := okWide_slice Try.underlying22 hv
  have hsz := slice_size Try.underlying22 h hw
  rw [b22_step] at hsz
  obtain ⟨fuel, h⟩ := h
  rcases open_slice Try.underlying22 h with ⟨hcs, _⟩ | ⟨x, l, c, m, n, D, Pl, hcs, _, hl, hm, hmm, hx, hi⟩
  · simp [Value.cells] at hcs
    obtain ⟨rfl, rfl, rfl⟩ := hcs
    exact ⟨[], ⟨none, 0, rfl, by simp, fun i hi => by simp at hi⟩, by simp, fun k hk => by simp at hk⟩
  · simp [Value.cells] at hcs
    obtain ⟨rfl, rfl, rfl⟩ := hcs
    have hlm : len ≤ m := by rw [hmm]; split <;> omega
    have key : ∀ k, k < len → ∃ t : St, (∀ j u, (t.cells)[j]? = some u → w.cell? (x.add (k * 6 + j)) = some u) ∧ t.ok := by
      intro k hk
      obtain ⟨cs, hcells, htr⟩ := hi k (by omega)
      rw [c22_step] at hcells
      obtain ⟨_, hlen, hat⟩ := World.cells?_some hcells
      obtain ⟨t, rfl, h1⟩ := st_trod htr
      refine ⟨t, fun j u hu => ?_, h1⟩
      have hj : j < 6 := by
        have := (List.getElem?_eq_some_iff.1 hu).1
        simpa [St.cells] using this
      rw [← add_add, hat j hj, hu]
    obtain ⟨ts, r1, r2⟩ := list_of _ len key
    subst r1
    refine ⟨ts, ⟨some x, cap, rfl, hl, fun k hk => ?_⟩, hsz, fun k hk => (r2 k hk).2⟩
    have h1 := (r2 k hk).1
    obtain ⟨b, off, spot⟩ := x
    have hsp : spot = none := by
      have h10 := (r2 0 (by omega)).1
      have := World.cell?_spot (h10 0 _ rfl)
      simpa [Addr.add] using this
    subst hsp
    exact ⟨b, off, rfl, fun j u hu => by have := h1 j u hu; rwa [addr_add, ← Nat.add_assoc] at this⟩
end
end Go.Proofs.Ytnkababhgloclaa
