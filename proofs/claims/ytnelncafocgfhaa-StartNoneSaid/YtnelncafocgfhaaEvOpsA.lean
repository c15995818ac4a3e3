/- Operations, one by one: what the model does where the runner answers. First: types, values, memory. -/
import Derived.Test.YtnelncafocgfhaaEvMem
import Derived.Laws.Tables
namespace Go.Proofs.Ytnelncafocgfhaa
open Go.RowKit
namespace Ev
set_option linter.unusedSectionVars false
variable [Env]
theorem ti_spec {P : Program} {t : TypeId} {i : TI} (h : ti P t = some i) : ∃ info z a, P.info? t = some info ∧ P.underlying t = some i.d ∧ info.size = i.size ∧ info.bytes = i.bytes ∧ info.zero = some z ∧ ofV z = some a ∧ i.zero = a.cells ∧ i.zv = a := by
  unfold ti at h
  split at h
  · rename_i info hinfo
    split at h
    · rename_i d hd
      split at h
      · rename_i zs hz
        cases h
        unfold zeroOf at hz
        split at hz
        · rename_i v hv
          exact ⟨info, v, zs, hinfo, hd, rfl, rfl, hv, hz, rfl, rfl⟩
        · cases hz
      · cases h
    · cases h
  · cases h
section
variable {P : Program} {t : TypeId} {i : TI} (h : ti P t = some i) (w : World)
include h
theorem run_under : (underlying t).run P w = .ok i.d w := by
  obtain ⟨info, z, a, h1, h2, _⟩ := ti_spec h
  simp [underlying, h2]
theorem run_size : (sizeOf t).run P w = .ok i.size w := by
  obtain ⟨info, z, a, h1, h2, h3, _⟩ := ti_spec h
  simp [sizeOf, typeInfo, h1, h3]
theorem run_aggq : (isAgg t).run P w = .ok i.isAgg w := by
  unfold isAgg TI.isAgg
  rw [Sem.run_bind, run_under h]
  cases i.d <;> rfl
theorem run_zero : ∃ z : Value, ∀ w : World, (zeroValue t).run P w = .ok z w ∧ ∀ β, Reps β i.zero z.cells.toList := by
  obtain ⟨info, z, a, h1, h2, h3, h4, h5, h6, h7, _⟩ := ti_spec h
  refine ⟨z, fun w => ⟨by simp [zeroValue, typeInfo, h1, h5], fun β => ?_⟩⟩
  rw [h7]
  exact cells_rep (ofV_rep h6)
theorem run_zv : ∃ z : Value, ∀ w : World, (zeroValue t).run P w = .ok z w ∧ ∀ β, Rep β i.zv z := by
  obtain ⟨info, z, a, h1, h2, h3, h4, h5, h6, h7, h8⟩ := ti_spec h
  refine ⟨z, fun w => ⟨by simp [zeroValue, typeInfo, h1, h5], fun β => ?_⟩⟩
  rw [h8]
  exact ofV_rep h6
end
/-- A value's making: what the runner says comes of it. -/
def SG (P : Program) (x : Sem Value) (lo : Nat) (β : Beta) (s : St) (w : World) (v : AV) (s' : St) : Prop :=
  ∃ u w' β', x.run P w = .ok u w' ∧ Ext lo β s w β' s' w' ∧ Rep β' v u
/-- A value that is made without a look at the memory, or with a look alone. -/
def VG (P : Program) (x : Sem Value) (β : Beta) (w : World) (v : AV) : Prop := ∃ u, x.run P w = .ok u w ∧ Rep β v u
def SU (P : Program) (x : Sem Unit) (lo : Nat) (β : Beta) (s : St) (w : World) (s' : St) : Prop :=
  ∃ w' β', x.run P w = .ok () w' ∧ Ext lo β s w β' s' w'
section
variable {P : Program} {lo : Nat} {β : Beta} {s : St} {w : World}
theorem SG.stay (hs : Sit β s w) {x : Sem Value} {v : AV} {u : Value} (h : x.run P w = .ok u w) (hr : Rep β v u) : SG P x lo β s w v s := ⟨u, w, β, h, Ext.refl hs, hr⟩
theorem alloc_ok (hs : Sit β s w) {T : TypeId} {i : TI} (hi : ti P T = some i) : SG P (Instr.alloc T true (.tuple #[])) lo β s w (.ptr s.n 0) (s.new (zeroRow T i.zero.length i.zero)) := by
  obtain ⟨z, hz⟩ := run_zero hi
  have hz0 := (hz w).2
  have hlen := Reps.length (hz0 β)
  refine ⟨.pointer (some ⟨w.heap.size, 0, none⟩), w.alloc (.cells z.cells T), upd β s.n (w.heap.size, i.zero.length), ?_, ext_new hs ?_, ⟨_, _, upd_at _ _ _, rfl⟩⟩
  · simp only [Instr.alloc, Sem.run_bind, (hz w).1, Result.andThen_ok, newVar, newRow, run_newObj, Sem.run_pure]
    rfl
  · refine brep_zero (hz0 _) T _ _ (by simpa using hlen) ?_
    intro k hk
    rw [Nat.mod_eq_of_lt (by omega)]
    simp
theorem box_ok (hs : Sit β s w) {T : TypeId} {v : AV} {u : Value} (hv : Rep β v u) : SG P (Instr.box T u) lo β s w (.ptr s.n 0) (s.new (rowOf T v.cells false)) := by
  have hc := cells_rep hv
  refine ⟨.pointer (some ⟨w.heap.size, 0, none⟩), w.alloc (.cells u.cells T), upd β s.n (w.heap.size, u.cells.toList.length + ([] : List Value).length), ?_, ext_new hs ?_, ⟨_, _, upd_at _ _ _, rfl⟩⟩
  · simp only [Instr.box, newVar, newRow, Sem.run_bind, run_newObj, Result.andThen_ok, Sem.run_pure]
    rfl
  · have := brep_row (hc.mono (hs.upd_le (w.heap.size, u.cells.toList.length + ([] : List Value).length))) T false [] (fun _ => rfl)
    simpa using this
theorem load_ok (hs : Sit β s w) {T : TypeId} {i : TI} (hi : ti P T = some i) {b off : Nat} {v : AV} {u : Value} (hu : Rep β (.ptr b off) u) (h : loadAt s i b off = some v) : VG P (Instr.loadAt T u) β w v := by
  obtain ⟨nb, t, hb, rfl⟩ := hu
  unfold loadAt at h
  split at h
  · rename_i T0 n zs tr opn rw' hblk
    obtain ⟨p, hp, cs, T', fr, hw, hsz, hn, _, _, hc⟩ := hs.blk b _ hblk
    rw [hb] at hp
    cases hp
    cases hagg : i.isAgg with
    | true =>
      rw [hagg] at h
      simp only [cond_true] at h
      cases hl : loadN n zs tr off i.size with
      | none => rw [hl] at h; cases h
      | some l =>
        rw [hl] at h
        cases h
        obtain ⟨vs, h1', h2⟩ := run_loads0 (P := P) (nb := nb) (T := T') (fr := fr) hc hl
        have h1 := h1' w hw
        refine ⟨.agg vs.toArray, ?_, ⟨_, rfl, h2⟩⟩
        simp only [Instr.loadAt, Instr.sureAddr, loadVar, Sem.run_bind, Sem.run_pure, Result.andThen_ok, run_aggq hi, hagg, run_size hi, h1, if_true]
    | false =>
      rw [hagg] at h
      simp only [cond_false] at h
      obtain ⟨x, hx, hr⟩ := hc _ _ h
      refine ⟨x, ?_, hr⟩
      have hcell : w.cell? ⟨nb, off, none⟩ = some x := by rw [cell_of_row w nb off cs T' fr hw]; exact hx
      simp only [Instr.loadAt, Instr.sureAddr, loadVar, Sem.run_bind, Sem.run_pure, Result.andThen_ok, run_aggq hi, hagg, Bool.false_eq_true, if_false, run_load, hcell]
  · cases h
theorem store_ok (hs : Sit β s w) {T : TypeId} {i : TI} (hi : ti P T = some i) {b off : Nat} {v : AV} {u x : Value} {s' : St} (hu : Rep β (.ptr b off) u) (hv : Rep β v x) (hsz : (v.cells.length == i.size) = true) (h : storeAt s lo b off v.cells = some s') :
    SU P (Instr.storeAt T u x) lo β s w s' := by
  obtain ⟨nb, t, hb, rfl⟩ := hu
  have hc := cells_rep hv
  obtain ⟨w', h1, h2⟩ := storeAt_ok (P := P) hs h hb hc
  refine ⟨w', β, ?_, h2⟩
  have hz : x.cells.size = i.size := by
    have := Reps.length hc
    have h3 := eq_of_beq hsz
    rw [Array.length_toList] at this
    omega
  simp only [Instr.storeAt, Instr.sureAddr, storeVar, Sem.run_bind, Sem.run_pure, Result.andThen_ok, run_size hi, hz, ne_eq, not_true_eq_false, if_false, h1]
theorem part_ok {i : TI} {e : TypeId} (hi : ti P e = some i) {cs : List AV} {vs : Array Value} (hv : Reps β cs vs.toList) {off : Nat} {a : AV} (h : partAV i cs off = some a) : ∃ u, (∀ w : World, (part e vs off).run P w = .ok u w) ∧ Rep β a u := by
  unfold partAV at h
  cases hagg : i.isAgg with
  | true =>
    rw [hagg] at h
    simp only [cond_true] at h
    cases hc : Nat.ble (off + i.size) cs.length with
    | false => rw [hc] at h; cases h
    | true =>
      rw [hc] at h
      cases h
      refine ⟨.agg (vs.extract off (off + i.size)), fun w => ?_, _, rfl, ?_⟩
      · simp only [part, Sem.run_bind, run_aggq hi, hagg, Result.andThen_ok, if_true, run_size hi, Sem.run_pure]
      · have := (hv.drop off).take i.size
        rw [Array.toList_extract]
        simpa [List.extract_eq_take_drop] using this
  | false =>
    rw [hagg] at h
    simp only [cond_false] at h
    obtain ⟨u, hu, hr⟩ := hv.nth h
    refine ⟨u, fun w => ?_, hr⟩
    have : vs[off]? = some u := by simpa using hu
    simp only [part, Sem.run_bind, run_aggq hi, hagg, Result.andThen_ok, Bool.false_eq_true, if_false, this, Sem.run_pure]
/-! Structs, arrays and slices written out. -/
theorem foldl_wr (off : Nat) : ∀ (l : List Value) (k : Nat) (cs : Array Value), (l.zipIdx k).foldl (fun cs (x : Value × Nat) => cs.setIfInBounds (off + x.2) x.1) cs = wr cs (off + k) l
  | [], _, _ => rfl
  | v :: l, k, cs => by
    rw [List.zipIdx_cons, List.foldl_cons, foldl_wr off l (k + 1)]
    rfl
theorem wr_list (cs : Array Value) (off : Nat) (l : List Value) (h : off + l.length ≤ cs.size) : (wr cs off l).toList = cs.toList.take off ++ l ++ cs.toList.drop (off + l.length) := by
  apply List.ext_getElem?
  intro i
  rw [Array.getElem?_toList]
  have ht : (cs.toList.take off).length = off := by rw [List.length_take, Array.length_toList]; omega
  by_cases h1 : i < off
  · rw [wr_out _ _ _ _ (.inl h1), List.append_assoc, List.getElem?_append_left (by omega), List.getElem?_take_of_lt h1, Array.getElem?_toList]
  · by_cases h2 : i < off + l.length
    · obtain ⟨k, rfl⟩ : ∃ k, i = off + k := ⟨i - off, by omega⟩
      rw [wr_in _ _ _ _ h (by omega), List.append_assoc, List.getElem?_append_right (by omega), List.getElem?_append_left (by omega), ht, show off + k - off = k by omega]
    · rw [wr_out _ _ _ _ (.inr (by omega)), List.getElem?_append_right (by rw [List.length_append]; omega), List.length_append, ht, List.getElem?_drop, Array.getElem?_toList, show off + l.length + (i - (off + l.length)) = i by omega]
def PartsRep (β : Beta) : List (Nat × AV) → List (Nat × Value) → Prop
  | [], l => l = []
  | (i, v) :: r, l => ∃ u m, l = (i, u) :: m ∧ Rep β v u ∧ PartsRep β r m
theorem fill_ok {place : Nat → Option (Nat × Nat)} : ∀ (ps : List (Nat × AV)) (qs : List (Nat × Value)) (l l' : List AV) (vs : Array Value), PartsRep β ps qs → Reps β l vs.toList → putParts place l ps = some l' →
    ∃ us, Instr.fill place vs qs = some us ∧ Reps β l' us.toList
  | [], _, l, l', vs, e, hl, h => by cases h; rw [e]; exact ⟨vs, rfl, hl⟩
  | (i, v) :: r, _, l, l', vs, ⟨u, m, e, hv, hr⟩, hl, h => by
    rw [e]
    simp only [putParts] at h
    split at h
    · cases h
    · rename_i off size hp
      have hc := cells_rep hv
      have hlen := Reps.length hc
      rw [Array.length_toList] at hlen
      have hll := Reps.length hl
      rw [Array.length_toList] at hll
      cases hcond : (v.cells.length == size && Nat.ble (off + size) l.length) with
      | false => rw [hcond] at h; cases h
      | true =>
        rw [hcond] at h
        simp only [Bool.and_eq_true, beq_iff_eq, Nat.ble_eq] at hcond
        have hb : off + u.cells.toList.length ≤ vs.size := by rw [Array.length_toList]; omega
        have hw := wr_list vs off u.cells.toList hb
        obtain ⟨us, h1, h2⟩ := fill_ok (place := place) r m _ l' (wr vs off u.cells.toList) hr (by
          rw [hw, Array.length_toList, show u.cells.size = size by omega]
          exact ((hl.take off).append hc).append (hl.drop (off + size))) h
        refine ⟨us, ?_, h2⟩
        have hz := foldl_wr off u.cells.toList 0 vs
        rw [Nat.add_zero] at hz
        have hf : u.cells.zipIdx.foldl (fun cs (x : Value × Nat) => cs.setIfInBounds (off + x.2) x.1) vs = wr vs off u.cells.toList := by
          rw [← hz, ← Array.foldl_toList]; simp
        simp only [Instr.fill, hp]
        rw [if_neg (by simp; omega)]
        exact (congrArg (fun z => Instr.fill place z m) hf).trans h1
theorem places_ok : ∀ (fs : List Field) (pl : List (Nat × Nat)), sizesOf P fs = some pl → fs.mapM (fun f => (P.info? f.type).map fun i => (f.offset, i.size)) = some pl
  | [], _, h => by cases h; rfl
  | f :: l, pl, h => by
    simp only [sizesOf] at h
    split at h
    · rename_i i hi
      split at h
      · rename_i r hr
        cases h
        obtain ⟨info, z, a, h1, h2, h3, _⟩ := ti_spec hi
        simp [List.mapM_cons, h1, h3, places_ok l r hr]
      · cases h
    · cases h
theorem build_struct_ok (hs : Sit β s w) {t : TypeId} {i : TI} (hi : ti P t = some i) {fs : Array Field} (hd : i.d = .struct fs) {pl : List (Nat × Nat)} (hp : sizesOf P fs.toList = some pl) {ps : List (Nat × AV)} {qs : Array (Nat × Value)} (hq : PartsRep β ps qs.toList) {l : List AV}
    (h : putParts (fun k => pl[k]?) i.zero ps = some l) : SG P (Instr.build t qs) lo β s w (.agg l) s := by
  obtain ⟨z, hz⟩ := run_zero hi
  obtain ⟨us, h1, h2⟩ := fill_ok (place := fun k => pl[k]?) ps qs.toList i.zero l z.cells hq ((hz w).2 β) h
  refine .stay hs (u := .agg us) ?_ ⟨us, rfl, h2⟩
  have hpl := run_places (P := P) w fs.toList pl (places_ok _ _ hp)
  have hu := run_under hi w
  rw [hd] at hu
  simp only [Instr.build, Sem.run_bind, (hz w).1, Result.andThen_ok, hu]
  have e : (fs.mapM fun f => do pure (f.offset, ← sizeOf f.type) : Sem (Array (Nat × Nat))).run P w = .ok pl.toArray w := by
    rw [Array.mapM_eq_mapM_toList]
    have e2 : (fun f : Field => (do pure (f.offset, ← sizeOf f.type) : Sem (Nat × Nat))) = fun f => Prod.mk f.offset <$> sizeOf f.type := rfl
    rw [e2]
    simp [hpl]
  rw [e]
  simp only [Result.andThen_ok]
  have e3 : (fun x : Nat => pl.toArray[x]?) = fun k : Nat => pl[k]? := by funext k; simp
  rw [e3, h1]
  rfl
theorem build_array_ok (hs : Sit β s w) {t e : TypeId} {n : Nat} {i j : TI} (hi : ti P t = some i) (hd : i.d = .array n e) (hj : ti P e = some j) {ps : List (Nat × AV)} {qs : Array (Nat × Value)} (hq : PartsRep β ps qs.toList) {l : List AV}
    (h : putParts (fun k => some (k * j.size, j.size)) i.zero ps = some l) : SG P (Instr.build t qs) lo β s w (.agg l) s := by
  obtain ⟨z, hz⟩ := run_zero hi
  obtain ⟨us, h1, h2⟩ := fill_ok (place := fun k => some (k * j.size, j.size)) ps qs.toList i.zero l z.cells hq ((hz w).2 β) h
  refine .stay hs (u := .agg us) ?_ ⟨us, rfl, h2⟩
  have hu := run_under hi w
  rw [hd] at hu
  simp only [Instr.build, Sem.run_bind, (hz w).1, Result.andThen_ok, hu, run_size hj, h1]
  rfl
theorem rep_length (zs : List AV) : ∀ n, (rep zs n).length = n * zs.length
  | 0 => by simp [rep]
  | n + 1 => by rw [rep, List.length_append, rep_length zs n, Nat.succ_mul]; omega
theorem rep_at (zs : List AV) : ∀ (n i : Nat), i < n * zs.length → (rep zs n)[i]? = zs[i % zs.length]?
  | 0, i, h => by omega
  | n + 1, i, h => by
    rw [rep]
    by_cases hi : i < zs.length
    · rw [List.getElem?_append_left hi, Nat.mod_eq_of_lt hi]
    · rw [List.getElem?_append_right (by omega), rep_at zs n (i - zs.length) (by rw [Nat.succ_mul] at h; omega)]
      congr 1
      conv => rhs; rw [show i = (i - zs.length) + zs.length by omega, Nat.add_mod_right]
theorem cycle_reps {zs : List AV} {vs : Array Value} (h : Reps β zs vs.toList) (n : Nat) : Reps β (rep zs n) ((Array.range (n * zs.length)).map (vs[· % vs.size]!)).toList := by
  have hl := Reps.length h
  rw [Array.length_toList] at hl
  refine Reps.of_at (by simp [rep_length]) ?_
  intro i a u ha hu
  have hi : i < n * zs.length := by
    have := (List.getElem?_eq_some_iff.1 ha).1
    rwa [rep_length] at this
  rw [rep_at zs n i hi] at ha
  obtain ⟨x, hx, hr⟩ := h.at _ a ha
  have hpos : 0 < zs.length := by
    rcases Nat.eq_zero_or_pos zs.length with e | e
    · rw [e] at hi; omega
    · exact e
  have hlt : i % vs.size < vs.size := Nat.mod_lt _ (by omega)
  have : u = x := by
    simp only [Array.toList_map, List.getElem?_map, Array.toList_range, List.getElem?_range hi, Option.map_some, Option.some.injEq] at hu
    rw [← hu, getElem!_pos vs (i % vs.size) hlt]
    have hx' : vs[i % vs.size]? = some x := by rw [hl]; simpa using hx
    rw [Array.getElem?_eq_getElem hlt] at hx'
    exact Option.some.inj hx'
  rw [this]; exact hr
theorem buildSlice_ok (hs : Sit β s w) {t e : TypeId} {n : Nat} {i j : TI} (hi : ti P t = some i) (hd : i.d = .slice e) (hj : ti P e = some j) (hn : Nat.ble (n * j.size) 1048576 = true) (hz : (j.zero.length == j.size) = true) {ps : List (Nat × AV)} {qs : Array (Nat × Value)} (hq : PartsRep β ps qs.toList) {l : List AV}
    (h : putParts (fun k => some (k * j.size, j.size)) (rep j.zero n) ps = some l) : SG P (Instr.buildSlice t n qs) lo β s w (.slc s.n 0 n (.fix n)) (s.new (rowOf e l false)) := by
  obtain ⟨z, hz0⟩ := run_zero hj
  have hz1 := eq_of_beq hz
  rw [Nat.ble_eq] at hn
  have hzl := Reps.length ((hz0 w).2 β)
  rw [Array.length_toList] at hzl
  have hcyc := cycle_reps ((hz0 w).2 β) n
  rw [hz1] at hcyc
  obtain ⟨us, h1, h2⟩ := fill_ok (place := fun k => some (k * j.size, j.size)) ps qs.toList (rep j.zero n) l ((Array.range (n * j.size)).map (z.cells[· % z.cells.size]!)) hq hcyc h
  refine ⟨.slice (some ⟨w.heap.size, 0, none⟩) n n, w.alloc (.cells us e), upd β s.n (w.heap.size, us.toList.length + ([] : List Value).length), ?_, ext_new hs ?_, ⟨_, _, n, upd_at _ _ _, rfl, Nat.le_refl _, rfl⟩⟩
  · have hu := run_under hi w
    rw [hd] at hu
    have hlim : ¬ (n * j.size > 2 ^ 24) := by omega
    simp only [Instr.buildSlice, Sem.run_bind, Result.andThen_ok, hu, run_size hj, hlim, if_false]
    by_cases e0 : n * j.size = 0
    · have : ((Array.range (n * j.size)).map (z.cells[· % z.cells.size]!)) = #[] := by rw [e0]; simp
      rw [this] at h1
      have e4 : Array.map (fun _ : Nat => (default : Value)) (Array.range 0) = #[] := by simp
      simp [e0]
      rw [e4, h1]
      rfl
    · simp only [e0, if_false, Sem.run_bind, (hz0 w).1, Result.andThen_ok, Sem.run_pure, h1]
      rfl
  · have := brep_row (h2.mono (hs.upd_le (w.heap.size, us.toList.length + ([] : List Value).length))) e false [] (fun _ => rfl)
    simpa using this
end
end Ev
end Go.Proofs.Ytnelncafocgfhaa
