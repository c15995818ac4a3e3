/- What a slice of structs that came in reads as, cell by cell. -/
import Derived.Test.YtnkababhgloclaaRows
import Derived.Test.YtnkababhgloclaaBase
import Derived.SizedLaws
import Derived.WalkKit
import Derived.ProofKit
import Derived.Deep.Slices
import Derived.Deep.Fields
import Derived.ChangeSame
namespace Go.Proofs.Ytnkababhgloclaa
open Go.RowKit Go.ChangeShapes Go.WideShapes Go.Deep
section
variable {H : Type} {enc : TypeId × Value → H} {P : Program} {w : World} {base : Nat} {spare : Nat → Bool} {held : Bool}

/-- Each element of a slice of structs of one-cell fields: each field's cell, and that it reads. -/
theorem slice_structs {t e : TypeId} {fs : Array Field} {a : Option Addr} {len cap : Nat} {d : DataW H} {ps : List MemPlace} (ht : P.underlying t = some (.slice e)) (he : P.underlying e = some (.struct fs))
    (hone : oneCellFields P fs = true) (hC : P.cellsOf e = fs.size) (h : DataW.Trod enc P w base spare held t (.slice a len cap) d ps) :
    (a = none ∧ len = 0 ∧ cap = 0) ∨ ∃ x, a = some x ∧ len ≤ cap ∧ cap ≤ maxLen ∧ ∀ i, i < len → ∀ (j : Nat) (f : Field), fs[j]? = some f →
      ∃ (u : Value) (y : DataW H × List MemPlace) (n : Nat), w.cell? (x.add (i * fs.size + j)) = some u ∧ DataW.trod enc P w base spare held n f.type [u] = some y := by
  obtain ⟨fuel, h⟩ := h
  rcases open_slice ht h with ⟨hcs, _⟩ | ⟨x, l, c, m, n, D, Pl, hcs, _, hl, hm, hmm, _, hi⟩
  · simp [Value.cells] at hcs
    exact .inl hcs
  · simp [Value.cells] at hcs
    obtain ⟨rfl, rfl, rfl⟩ := hcs
    refine .inr ⟨x, rfl, hl, hm, fun i hil j f hf => ?_⟩
    obtain ⟨cs, hcells, htr⟩ := hi i (by rw [hmm]; split <;> omega)
    rw [hC] at hcells
    obtain ⟨_, hlen, hat⟩ := World.cells?_some hcells
    obtain ⟨xs, n', _, _, _, hxl, hfs⟩ := DataW.trod_struct he htr
    obtain ⟨h1, h2⟩ := hone_of hone j f hf
    have hj : j < fs.size := (Array.getElem?_eq_some_iff.1 hf).1
    have hr := hfs j f hf
    rw [h1, h2] at hr
    have hcut : (cs.drop j).take 1 = [cs[j]'(by omega)] := by
      rw [List.drop_eq_getElem_cons (show j < cs.length by omega)]
      rfl
    rw [hcut] at hr
    have hy : xs[j]? = some (xs[j]'(by omega)) := List.getElem?_eq_getElem (by omega)
    refine ⟨cs[j]'(by omega), xs[j]'(by omega), n', ?_, hr.trans hy⟩
    rw [← add_add, hat j hj, List.getElem?_eq_getElem (show j < cs.length by omega)]

/-- A slice value that reads as these numbers. -/
def Ints (k : IntKind) (w : World) (v : Value) (zs : List Int) : Prop :=
  ∃ a cap, v = .slice a zs.length cap ∧ zs.length ≤ maxLen ∧ (a = none → zs = [] ∧ cap = 0) ∧ ∀ i, i < zs.length → ∃ b off, a = some ⟨b, off, none⟩ ∧ w.cell? ⟨b, off + i, none⟩ = some (.int k (nth zs i))
theorem Ints.mk {k : IntKind} {w : World} {b off cap : Nat} {zs : List Int} {n : Nat} (hn : zs.length = n) (hm : n ≤ maxLen) (hc : ∀ i, i < zs.length → w.cell? ⟨b, off + i, none⟩ = some (.int k (nth zs i))) :
    Ints k w (.slice (some ⟨b, off, none⟩) n cap) zs := by
  subst hn
  exact ⟨_, cap, rfl, hm, (fun h => by cases h), fun i hi => ⟨b, off, rfl, hc i hi⟩⟩
theorem addr_add (b off n : Nat) : (⟨b, off, none⟩ : Addr).add n = ⟨b, off + n, none⟩ := by
  unfold Addr.add
  split
  · rename_i h; simp [h]
  · rfl
/-- A slice of integers that reads: its numbers, each in its kind's range, and that it is no longer than the reach allows. -/
theorem ints_arg0 {t e : TypeId} {k : IntKind} {a : Option Addr} {len cap : Nat} {d : DataW H} {ps : List MemPlace} {bytes : Nat} (ht : P.underlying t = some (.slice e)) (he : P.underlying e = some (.int k)) (hce : P.cellsOf e = 1) (hby : P.bytesOf e = bytes)
    (h : DataW.Trod enc P w base spare held t (.slice a len cap) d ps) (hw : ∀ n ∈ DataW.weights P t d, n ≤ reachBytes) :
    ∃ zs : List Int, Ints k w (.slice a len cap) zs ∧ zs.length * bytes ≤ reachBytes ∧ ∀ z ∈ zs, (Lit.int k z).wf = true := by
  obtain ⟨fuel, h⟩ := h
  rcases open_slice ht h with ⟨hcs, hx⟩ | ⟨x, l, c, m, n, D, Pl, hcs, _, hl, hm, hmm, hx, hi⟩
  · simp [Value.cells] at hcs
    obtain ⟨rfl, rfl, rfl⟩ := hcs
    exact ⟨[], ⟨none, 0, rfl, by simp, fun _ => ⟨rfl, rfl⟩, fun i hi => by simp at hi⟩, by simp, by simp⟩
  · simp [Value.cells] at hcs
    obtain ⟨rfl, rfl, rfl⟩ := hcs
    have hlm : len ≤ m := by rw [hmm]; split <;> omega
    have key : ∀ i, i < len → ∃ z, w.cell? (x.add i) = some (.int k z) ∧ (Lit.int k z).wf = true := by
      intro i hil
      obtain ⟨cs, hcells, htr⟩ := hi i (by omega)
      rw [hce] at hcells
      obtain ⟨_, _, hat⟩ := World.cells?_some hcells
      obtain ⟨z, rfl, _, wz⟩ := DataW.trod_int he htr
      have := hat 0 (by omega)
      refine ⟨z, ?_, wz⟩
      have e0 : (x.add (i * 1)).add 0 = x.add i := by rw [add_add]; simp
      rw [e0] at this
      simpa using this
    have hd : len * bytes ≤ reachBytes := by
      have hd' : d = .slice ((List.range len).map D) ((List.range (m - len)).map fun j => D (len + j)) := congrArg Prod.fst hx
      have := hw ((len + (m - len)) * P.bytesOf e) (by rw [hd']; simp [DataW.weights, ht])
      rw [hby] at this
      exact Nat.le_trans (Nat.mul_le_mul_right _ (by omega)) this
    let f : Nat → Int := fun i => match w.cell? (x.add i) with | some (.int _ z) => z | _ => 0
    have hf : ∀ i, i < len → w.cell? (x.add i) = some (.int k (f i)) ∧ (Lit.int k (f i)).wf = true := by
      intro i hil
      obtain ⟨z, hz, wz⟩ := key i hil
      have : f i = z := by simp only [f, hz]
      rw [this]
      exact ⟨hz, wz⟩
    have hlen : ((List.range len).map f).length = len := by simp
    refine ⟨(List.range len).map f, ?_, by rw [hlen]; exact hd, ?_⟩
    · refine ⟨some x, cap, by rw [hlen], by rw [hlen]; omega, (fun h => by cases h), fun i hil => ?_⟩
      rw [hlen] at hil
      obtain ⟨b, off, spot⟩ := x
      have hs : spot = none := by
        have := World.cell?_spot (hf 0 (by omega)).1
        simpa [Addr.add] using this
      subst hs
      have e : nth ((List.range len).map f) i = f i := by simp [nth, List.getD, hil]
      refine ⟨b, off, rfl, ?_⟩
      rw [e, ← addr_add]
      exact (hf i hil).1
    · intro z hz
      obtain ⟨i, hi, rfl⟩ := List.mem_map.1 hz
      exact (hf i (List.mem_range.1 hi)).2

/-- A slice of integers that came in: its numbers, each in its kind's range, and that it is no longer than the reach allows. -/
theorem ints_arg {t e : TypeId} {k : IntKind} {r : Reach} {b0 : Nat} {v : Value} {d : DataW H} {ps : List MemPlace} {bytes : Nat} (ht : P.underlying t = some (.slice e)) (he : P.underlying e = some (.int k)) (hce : P.cellsOf e = 1) (hby : P.bytesOf e = bytes)
    (hv : Value.okWide P w r b0 t v) (h : DataW.Trod enc P w base spare held t v d ps) (hw : ∀ n ∈ DataW.weights P t d, n ≤ reachBytes) :
    ∃ zs : List Int, Ints k w v zs ∧ zs.length * bytes ≤ reachBytes ∧ ∀ z ∈ zs, (Lit.int k z).wf = true := by
  obtain ⟨a, len, cap, rfl⟩ := okWide_slice ht hv
  exact ints_arg0 ht he hce hby h hw

/-- Each element of a slice that came in: its cells, and that they read. -/
theorem slice_elems {t e : TypeId} {a : Option Addr} {len cap : Nat} {d : DataW H} {ps : List MemPlace} (ht : P.underlying t = some (.slice e)) (h : DataW.Trod enc P w base spare held t (.slice a len cap) d ps) :
    (a = none ∧ len = 0 ∧ cap = 0) ∨ ∃ x, a = some x ∧ len ≤ cap ∧ cap ≤ maxLen ∧ ∀ i, i < len →
      ∃ (cs : List Value) (y : DataW H × List MemPlace) (n : Nat), cs.length = P.cellsOf e ∧ (∀ j, j < P.cellsOf e → w.cell? (x.add (i * P.cellsOf e + j)) = cs[j]?) ∧ DataW.trod enc P w base spare held n e cs = some y := by
  obtain ⟨fuel, h⟩ := h
  rcases open_slice ht h with ⟨hcs, _⟩ | ⟨x, l, c, m, n, D, Pl, hcs, _, hl, hm, hmm, _, hi⟩
  · simp [Value.cells] at hcs
    exact .inl hcs
  · simp [Value.cells] at hcs
    obtain ⟨rfl, rfl, rfl⟩ := hcs
    refine .inr ⟨x, rfl, hl, hm, fun i hil => ?_⟩
    obtain ⟨cs, hcells, htr⟩ := hi i (by rw [hmm]; split <;> omega)
    obtain ⟨_, hlen, hat⟩ := World.cells?_some hcells
    exact ⟨cs, _, n, hlen, fun j hj => by rw [← add_add]; exact hat j hj, htr⟩
/-- The reach: a slice that came in takes so many bytes at most. -/
theorem slice_size {t e : TypeId} {a : Option Addr} {len cap : Nat} {d : DataW H} {ps : List MemPlace} (ht : P.underlying t = some (.slice e)) (h : DataW.Trod enc P w base spare held t (.slice a len cap) d ps) (hw : ∀ n ∈ DataW.weights P t d, n ≤ reachBytes) :
    len * P.bytesOf e ≤ reachBytes := by
  obtain ⟨fuel, h⟩ := h
  rcases open_slice ht h with ⟨hcs, _⟩ | ⟨x, l, c, m, n, D, Pl, hcs, _, hl, hm, hmm, hx, hi⟩
  · simp [Value.cells] at hcs
    obtain ⟨rfl, rfl, rfl⟩ := hcs
    simp
  · simp [Value.cells] at hcs
    obtain ⟨rfl, rfl, rfl⟩ := hcs
    have hd' : d = .slice ((List.range len).map D) ((List.range (m - len)).map fun j => D (len + j)) := congrArg Prod.fst hx
    have := hw ((len + (m - len)) * P.bytesOf e) (by rw [hd']; simp [DataW.weights, ht])
    exact Nat.le_trans (Nat.mul_le_mul_right _ (by omega)) this

/-- A struct of integers of one kind, three fields: each element's three numbers. -/
def Ints3 (k : IntKind) (w : World) (v : Value) : Prop :=
  ∃ a len cap, v = .slice a len cap ∧ len ≤ maxLen ∧ ∀ i, i < len → ∃ b off, a = some ⟨b, off, none⟩ ∧ ∃ z0 z1 z2 : Int,
    (Lit.int k z0).wf = true ∧ (Lit.int k z1).wf = true ∧ (Lit.int k z2).wf = true ∧
    w.cell? ⟨b, off + i * 3, none⟩ = some (.int k z0) ∧ w.cell? ⟨b, off + (i * 3 + 1), none⟩ = some (.int k z1) ∧ w.cell? ⟨b, off + (i * 3 + 2), none⟩ = some (.int k z2)
theorem ints3 {t e : TypeId} {f0 f1 f2 : Field} {k : IntKind} {r : Reach} {b0 : Nat} {v : Value} {d : DataW H} {ps : List MemPlace} (ht : P.underlying t = some (.slice e)) (he : P.underlying e = some (.struct #[f0, f1, f2]))
    (hone : oneCellFields P #[f0, f1, f2] = true) (hC : P.cellsOf e = 3) (h0 : P.underlying f0.type = some (.int k)) (h1 : P.underlying f1.type = some (.int k)) (h2 : P.underlying f2.type = some (.int k))
    (hv : Value.okWide P w r b0 t v) (h : DataW.Trod enc P w base spare held t v d ps) : Ints3 k w v := by
  obtain ⟨a, len, cap, rfl⟩ := okWide_slice ht hv
  rcases slice_structs ht he hone hC h with ⟨rfl, rfl, rfl⟩ | ⟨x, rfl, hl, hm, hi⟩
  · exact ⟨none, 0, 0, rfl, by unfold maxLen; omega, fun i hi => absurd hi (by omega)⟩
  · refine ⟨some x, len, cap, rfl, by omega, fun i hil => ?_⟩
    obtain ⟨u0, y0, n0, c0, t0⟩ := hi i hil 0 f0 rfl
    obtain ⟨u1, y1, n1, c1, t1⟩ := hi i hil 1 f1 rfl
    obtain ⟨u2, y2, n2, c2, t2⟩ := hi i hil 2 f2 rfl
    obtain ⟨z0, e0, _, w0⟩ := DataW.trod_int h0 t0
    obtain ⟨z1, e1, _, w1⟩ := DataW.trod_int h1 t1
    obtain ⟨z2, e2, _, w2⟩ := DataW.trod_int h2 t2
    simp at e0 e1 e2
    subst e0 e1 e2
    obtain ⟨b, off, spot⟩ := x
    have hs : spot = none := by
      obtain ⟨u, _, _, c, _⟩ := hi 0 (by omega) 0 f0 rfl
      have := World.cell?_spot c
      simpa [Addr.add] using this
    subst hs
    rw [addr_add] at c0 c1 c2
    exact ⟨b, off, rfl, z0, z1, z2, w0, w1, w2, c0, c1, c2⟩
end
end Go.Proofs.Ytnkababhgloclaa
