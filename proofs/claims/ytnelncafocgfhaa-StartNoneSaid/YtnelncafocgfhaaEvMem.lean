/- Steps of the abstract memory: a new block, a block put anew, loads, stores. -/
import Derived.Test.YtnelncafocgfhaaEvRep
namespace Go.Proofs.Ytnelncafocgfhaa
open Go.RowKit
namespace Ev
set_option linter.unusedSectionVars false
variable [Env]
theorem addr_add (b o i : Nat) : (Addr.add ⟨b, o, none⟩ i) = ⟨b, o + i, none⟩ := by
  unfold Addr.add
  by_cases h : i = 0
  · simp [h]
  · simp [h]
def upd (β : Beta) (n : Nat) (p : Nat × Nat) : Beta := fun i => if i = n then some p else β i
theorem upd_at (β : Beta) (n : Nat) (p : Nat × Nat) : upd β n p n = some p := if_pos rfl
theorem upd_ne (β : Beta) {n i : Nat} (p : Nat × Nat) (h : i ≠ n) : upd β n p i = β i := if_neg h
theorem Sit.fresh {β : Beta} {s : St} {w : World} (h : Sit β s w) : β s.n = none := by
  cases e : β s.n with
  | none => rfl
  | some p => exact absurd (h.low _ _ e).1 (by omega)
theorem Sit.dead {β : Beta} {s : St} {w : World} (h : Sit β s w) : ¬ Live s.h s.n := fun ⟨b, e⟩ => by
  obtain ⟨p, hp, _⟩ := h.blk _ _ e
  rw [h.fresh] at hp
  cases hp
theorem Sit.upd_le {β : Beta} {s : St} {w : World} (h : Sit β s w) (p : Nat × Nat) : β.le (upd β s.n p) := fun i q e => by
  rw [upd_ne β p (fun e' => by rw [e', h.fresh] at e; cases e)]; exact e
theorem live_set {h : Tr Blk} {i j : Nat} {b : Blk} : Live (h.set (some b) (path i)) j ↔ j = i ∨ Live h j := by
  unfold Live
  rw [get_put]
  by_cases e : j = i
  · simp [e]
  · simp [e]
theorem live_clear {h : Tr Blk} {i j : Nat} : Live (h.set none (path i)) j ↔ j ≠ i ∧ Live h j := by
  unfold Live
  rw [get_put]
  by_cases e : j = i
  · simp [e]
  · simp [e]
/-- A new block. -/
theorem ext_new {lo : Nat} {β : Beta} {s : St} {w : World} (hs : Sit β s w) {b : Blk} {o : Obj} {t : Nat} (hb : BRep (upd β s.n (w.heap.size, t)) b (some o) t) :
    Ext lo β s w (upd β s.n (w.heap.size, t)) (s.new b) (w.alloc o) := by
  have hold : ∀ k, k < w.heap.size → (w.alloc o).heap[k]? = w.heap[k]? := fun k hk => Below.heap_alloc w o k hk
  refine ⟨⟨?_, ?_, ?_⟩, rfl, rfl, rfl, by rw [World.size_alloc]; omega, ?_, Nat.le_succ _, fun k hk _ => hold k hk, ?_, ?_⟩
  · intro i c hc
    simp only [St.new, get_put] at hc
    by_cases e : i = s.n
    · rw [if_pos e] at hc
      cases hc
      subst e
      refine ⟨_, upd_at _ _ _, ?_⟩
      have : (w.alloc o).heap[w.heap.size]? = some o := heap_alloc_new w o
      rw [this]; exact hb
    · rw [if_neg e] at hc
      obtain ⟨p, hp, hr⟩ := hs.blk i c hc
      refine ⟨p, by rw [upd_ne β _ e]; exact hp, ?_⟩
      rw [hold p.1 (hs.low i p hp).2]
      exact hr.mono (hs.upd_le _)
  · intro i j p q hi hj hp hq hpq
    simp only [St.new, live_set] at hi hj
    by_cases ei : i = s.n
    · by_cases ej : j = s.n
      · rw [ei, ej]
      · rw [ei, upd_at] at hp
        rw [upd_ne β _ ej] at hq
        cases hp
        have := (hs.low j q hq).2
        simp only at hpq
        omega
    · by_cases ej : j = s.n
      · rw [ej, upd_at] at hq
        rw [upd_ne β _ ei] at hp
        cases hq
        have := (hs.low i p hp).2
        simp only at hpq
        omega
      · rw [upd_ne β _ ei] at hp
        rw [upd_ne β _ ej] at hq
        exact hs.inj i j p q (hi.resolve_left ei) (hj.resolve_left ej) hp hq hpq
  · intro i p hp
    by_cases e : i = s.n
    · rw [e, upd_at] at hp
      cases hp
      exact ⟨by rw [e]; simp [St.new], by rw [World.size_alloc]; omega⟩
    · rw [upd_ne β _ e] at hp
      have := hs.low i p hp
      exact ⟨Nat.lt_succ_of_lt this.1, by rw [World.size_alloc]; omega⟩
  · intro i hi
    exact upd_ne β _ (by omega)
  · intro i p hi hp
    by_cases e : i = s.n
    · rw [e, upd_at] at hp; cases hp; exact .inl (Nat.le_refl _)
    · rw [upd_ne β _ e] at hp
      exact absurd (hs.low i p hp).1 (by omega)
  · intro i hi hl
    simp only [St.new, live_set] at hl
    exact hl.resolve_left (by omega)
/-- A block of ours, put anew in its place. -/
theorem ext_put {lo : Nat} {β : Beta} {s : St} {w w' : World} (hs : Sit β s w) {i : Nat} {p : Nat × Nat} (hl : Live s.h i) (hi : lo ≤ i) (hp : β i = some p) {b : Blk} {o : Obj} (hb : BRep β b (some o) p.2)
    (hh : w'.heap = w.heap.setIfInBounds p.1 o) (ho : w'.os = w.os) (ht : w'.tape = w.tape) (hu : w'.output = w.output) :
    Ext lo β s w β ⟨s.h.set (some b) (path i), s.n⟩ w' := by
  have hlt := (hs.low i p hp).2
  have hsz : w'.heap.size = w.heap.size := by rw [hh]; simp
  have hold : ∀ k, k ≠ p.1 → w'.heap[k]? = w.heap[k]? := fun k hk => by
    rw [hh, Array.getElem?_setIfInBounds, if_neg (fun e => hk e.symm)]
  have hnew : w'.heap[p.1]? = some o := by
    rw [hh, Array.getElem?_setIfInBounds, if_pos rfl, if_pos hlt]
  refine ⟨⟨?_, ?_, ?_⟩, ho, ht, hu, by omega, fun _ _ => rfl, Nat.le_refl _, ?_, fun j q hj hq => absurd (hs.low j q hq).1 (by omega), ?_⟩
  · intro j c hc
    simp only [get_put] at hc
    by_cases e : j = i
    · rw [if_pos e] at hc
      cases hc
      subst e
      exact ⟨p, hp, by rw [hnew]; exact hb⟩
    · rw [if_neg e] at hc
      obtain ⟨q, hq, hr⟩ := hs.blk j c hc
      refine ⟨q, hq, ?_⟩
      rw [hold q.1 (fun e' => e (hs.inj j i q p ⟨c, hc⟩ hl hq hp e'))]
      exact hr
  · intro j k q r hj hk
    rw [live_set] at hj hk
    exact hs.inj j k q r (hj.elim (fun e => e ▸ hl) id) (hk.elim (fun e => e ▸ hl) id)
  · intro j q hq
    have := hs.low j q hq
    exact ⟨this.1, by omega⟩
  · intro k hk hn
    exact hold k (fun e => hn i p hi hl hp e.symm)
  · intro j _ hj
    rw [live_set] at hj
    exact hj.elim (fun e => e ▸ hl) id
/-- A row that an append has taken on: its old name goes, a new one comes, in the same place or in a new one. -/
theorem ext_move {lo : Nat} {β : Beta} {s : St} {w w' : World} (hs : Sit β s w) {i : Nat} {p : Nat × Nat} (hl : Live s.h i) (hi : lo ≤ i) (hp : β i = some p) {b : Blk} {g t : Nat}
    (hb : BRep (upd β s.n (g, t)) b w'.heap[g]? t) (hg : g < w'.heap.size) (hgg : g = p.1 ∨ w.heap.size ≤ g) (hgr : w.grownBy w' (some p.1)) :
    Ext lo β s w (upd β s.n (g, t)) ⟨(s.h.set none (path i)).set (some b) (path s.n), s.n + 1⟩ w' := by
  have hlt := (hs.low i p hp).2
  have hold : ∀ k, k < w.heap.size → k ≠ p.1 → w'.heap[k]? = w.heap[k]? := fun k hk hne => hgr.block k hk (fun e => hne (by cases e; rfl))
  have hin : i ≠ s.n := fun e => by have := (hs.low i p hp).1; omega
  refine ⟨⟨?_, ?_, ?_⟩, hgr.os, hgr.tape, hgr.output, hgr.size, fun j hj => upd_ne β _ (by omega), Nat.le_succ _, ?_, ?_, ?_⟩
  · intro j c hc
    simp only [get_put] at hc
    by_cases e : j = s.n
    · rw [if_pos e] at hc
      cases hc
      subst e
      exact ⟨_, upd_at _ _ _, hb⟩
    · rw [if_neg e] at hc
      by_cases e2 : j = i
      · rw [if_pos e2] at hc; cases hc
      · rw [if_neg e2] at hc
        obtain ⟨q, hq, hr⟩ := hs.blk j c hc
        refine ⟨q, by rw [upd_ne β _ e]; exact hq, ?_⟩
        rw [hold q.1 (hs.low j q hq).2 (fun e' => e2 (hs.inj j i q p ⟨c, hc⟩ hl hq hp e'))]
        exact hr.mono (hs.upd_le _)
  · intro j k q r hj hk hq hr hqr
    simp only [live_set, live_clear] at hj hk
    have aux : ∀ x y, x ≠ s.n → x ≠ i → Live s.h x → β x = some y → y.1 ≠ g := fun x y hx hxi hlx hy e => by
      rcases hgg with h | h
      · exact hxi (hs.inj x i y p hlx hl hy hp (e.trans h))
      · have := (hs.low x y hy).2; omega
    by_cases ej : j = s.n
    · by_cases ek : k = s.n
      · rw [ej, ek]
      · rw [ej, upd_at] at hq
        cases hq
        rw [upd_ne β _ ek] at hr
        have h2 := hk.resolve_left ek
        exact absurd hqr.symm (aux k r ek h2.1 h2.2 hr)
    · have h1 := hj.resolve_left ej
      rw [upd_ne β _ ej] at hq
      by_cases ek : k = s.n
      · rw [ek, upd_at] at hr
        cases hr
        exact absurd hqr (aux j q ej h1.1 h1.2 hq)
      · rw [upd_ne β _ ek] at hr
        have h2 := hk.resolve_left ek
        exact hs.inj j k q r h1.2 h2.2 hq hr hqr
  · intro j q hq
    by_cases e : j = s.n
    · rw [e, upd_at] at hq; cases hq; exact ⟨by simp [e], hg⟩
    · rw [upd_ne β _ e] at hq
      have := hs.low j q hq
      have := hgr.size
      exact ⟨by simp; omega, by omega⟩
  · intro k hk hn
    exact hold k hk (fun e => hn i p hi hl hp e.symm)
  · intro j q hj hq
    by_cases e : j = s.n
    · rw [e, upd_at] at hq
      cases hq
      rcases hgg with h | h
      · exact .inr ⟨i, p, hi, hl, hp, h.symm⟩
      · exact .inl h
    · rw [upd_ne β _ e] at hq
      exact absurd (hs.low j q hq).1 (by omega)
  · intro j hj hlj
    simp only [live_set, live_clear] at hlj
    exact (hlj.resolve_left (by omega)).2
/-! Loads. -/
theorem run_loads {P : Program} {β : Beta} {nb T n : Nat} {cs : Array Value} {fr : Nat × Nat} {zs : List AV} {t : Tr AV}
    (hc : ∀ i v, cellAt n zs t i = some v → ∃ u, cs[i]? = some u ∧ Rep β v u) (off : Nat) : ∀ (k i : Nat) (l : List AV), loadN n zs t (off + i) k = some l →
    ∃ vs : List Value, (∀ (w : World) (acc : Array Value), w.heap[nb]? = some (.cells cs T fr) → (loadCellsFrom ⟨nb, off, none⟩ i k acc).run P w = .ok (acc ++ vs.toArray) w) ∧ Reps β l vs
  | 0, i, l, h => by
    cases h
    exact ⟨[], fun w acc _ => by simp [loadCellsFrom], rfl⟩
  | k + 1, i, l, h => by
    simp only [loadN] at h
    split at h
    · rename_i v hv
      split at h
      · rename_i l' hl'
        cases h
        obtain ⟨u, hu, hr⟩ := hc _ _ hv
        obtain ⟨vs, h1, h2⟩ := run_loads (P := P) (T := T) (fr := fr) (nb := nb) hc off k (i + 1) l' (by rw [← Nat.add_assoc]; exact hl')
        refine ⟨u :: vs, fun w acc hw => ?_, u, vs, rfl, hr, h2⟩
        have hcell : w.cell? ⟨nb, off + i, none⟩ = some u := by rw [cell_of_row w nb (off + i) cs T fr hw]; exact hu
        simp only [loadCellsFrom, addr_add, Sem.run_bind, run_load, hcell, Result.andThen_ok, h1 w (acc.push u) hw]
        simp
      · cases h
    · cases h
theorem run_loads0 {P : Program} {β : Beta} {nb T n : Nat} {cs : Array Value} {fr : Nat × Nat} {zs : List AV} {t : Tr AV}
    (hc : ∀ i v, cellAt n zs t i = some v → ∃ u, cs[i]? = some u ∧ Rep β v u) {off k : Nat} {l : List AV} (h : loadN n zs t off k = some l) :
    ∃ vs : List Value, (∀ w : World, w.heap[nb]? = some (.cells cs T fr) → (loadCells ⟨nb, off, none⟩ k).run P w = .ok vs.toArray w) ∧ Reps β l vs := by
  obtain ⟨vs, h1, h2⟩ := run_loads (P := P) (T := T) (fr := fr) (nb := nb) hc off k 0 l (by simpa using h)
  exact ⟨vs, fun w hw => by unfold loadCells; rw [h1 w #[] hw]; simp, h2⟩
/-! Stores. -/
def wr (cs : Array Value) (o : Nat) : List Value → Array Value
  | [] => cs
  | v :: r => wr (cs.setIfInBounds o v) (o + 1) r
theorem wr_size : ∀ (vs : List Value) (cs : Array Value) (o : Nat), (wr cs o vs).size = cs.size
  | [], _, _ => rfl
  | v :: r, cs, o => by rw [wr, wr_size r]; simp
theorem wr_out : ∀ (vs : List Value) (cs : Array Value) (o i : Nat), (i < o ∨ o + vs.length ≤ i) → (wr cs o vs)[i]? = cs[i]?
  | [], _, _, _, _ => rfl
  | v :: r, cs, o, i, h => by
    rw [wr, wr_out r _ _ _ (by simp at h; omega), Array.getElem?_setIfInBounds, if_neg (by simp at h; omega)]
theorem wr_in : ∀ (vs : List Value) (cs : Array Value) (o i : Nat), o + vs.length ≤ cs.size → i < vs.length → (wr cs o vs)[o + i]? = vs[i]?
  | [], _, _, _, _, h => absurd h (by simp)
  | v :: r, cs, o, 0, h, _ => by
    rw [wr, wr_out r _ _ _ (by omega), Nat.add_zero, Array.getElem?_setIfInBounds, if_pos rfl, if_pos (by simp at h; omega)]
    rfl
  | v :: r, cs, o, i + 1, h, hi => by
    rw [wr, show o + (i + 1) = o + 1 + i by omega, wr_in r _ _ _ (by simp at h ⊢; omega) (by simpa using hi)]
    rfl
theorem run_stores {P : Program} {nb T off : Nat} : ∀ (vs : List Value) (i : Nat) (w : World) (cs : Array Value), w.heap[nb]? = some (.cells cs T (0, 0)) → off + i + vs.length ≤ cs.size → (∀ u ∈ vs, u.oneCell' = true) →
    ∃ w', (storeCells ⟨nb, off, none⟩ vs i).run P w = .ok () w' ∧ w'.heap = w.heap.setIfInBounds nb (.cells (wr cs (off + i) vs) T (0, 0)) ∧ w'.os = w.os ∧ w'.tape = w.tape ∧ w'.output = w.output
  | [], i, w, cs, hw, _, _ => by
    refine ⟨w, rfl, ?_, rfl, rfl, rfl⟩
    apply Array.ext_getElem?
    intro k
    rw [Array.getElem?_setIfInBounds]
    by_cases e : nb = k
    · subst e
      have hlt : nb < w.heap.size := (Array.getElem?_eq_some_iff.1 hw).1
      rw [if_pos rfl, if_pos hlt, hw, wr]
    · rw [if_neg e]
  | v :: r, i, w, cs, hw, hlen, h1 => by
    have hv : v.oneCell' = true := h1 v (by simp)
    have hin : off + i < cs.size := by simp at hlen; omega
    have hcell : w.cell? ⟨nb, off + i, none⟩ = some cs[off + i] := by rw [cell_of_row w nb (off + i) cs T _ hw]; simp [hin]
    have hfro : w.frozen? ⟨nb, off + i, none⟩ = false := frozen_of_row w nb (off + i) cs T hw
    have hheap := heap_setCell_same w nb (off + i) cs T v hw
    obtain ⟨w', a, b, c, d, e⟩ := run_stores (P := P) (nb := nb) (T := T) (off := off) r (i + 1) (w.setCell ⟨nb, off + i, none⟩ v) (cs.setIfInBounds (off + i) v) hheap (by simp at hlen ⊢; omega) (fun u hu => h1 u (by simp [hu]))
    refine ⟨w', ?_, ?_, c, d, e⟩
    · simp only [storeCells, addr_add, Sem.run_bind]
      rw [run_store P w _ v .plain hv]
      simp only [hcell, hfro, Bool.false_eq_true, if_false, Result.andThen_ok, a]
    · rw [b, wr, show off + i + 1 = off + (i + 1) by omega]
      apply Array.ext_getElem?
      intro k
      rw [Array.getElem?_setIfInBounds, Array.getElem?_setIfInBounds]
      by_cases e : nb = k
      · simp only [if_pos e, World.setCell, Array.size_modify]
      · rw [if_neg e, if_neg e]
        exact heap_setCell_other w ⟨nb, off + i, none⟩ k v (fun e' => e e'.symm)
theorem get_storeL : ∀ (l : List AV) (t : Tr AV) (o i : Nat), (storeL t o l).get (path i) = if o ≤ i ∧ i < o + l.length then l[i - o]? else t.get (path i)
  | [], t, o, i => by rw [if_neg (by simp only [List.length_nil]; omega)]; rfl
  | v :: l, t, o, i => by
    rw [storeL, get_storeL l, get_put]
    by_cases e : i = o
    · subst e
      rw [if_neg (by omega), if_pos rfl, if_pos (by simp)]
      simp
    · by_cases h : o + 1 ≤ i ∧ i < o + 1 + l.length
      · rw [if_pos h, if_pos (by simp; omega), show i - o = i - (o + 1) + 1 by omega]
        rfl
      · rw [if_neg h, if_neg e, if_neg (by simp; omega)]
theorem cellAt_lt {n : Nat} {zs : List AV} {t : Tr AV} {i : Nat} {v : AV} (h : cellAt n zs t i = some v) : i < n := by
  unfold cellAt at h
  cases e : Nat.blt i n with
  | true => have : i + 1 ≤ n := by simpa [Nat.blt, Nat.ble_eq] using e
            omega
  | false => rw [e] at h; cases h
theorem blt_of {a b : Nat} (h : a < b) : Nat.blt a b = true := by simp [Nat.blt, Nat.ble_eq]; omega
theorem cellAt_storeL {n : Nat} {zs : List AV} {t : Tr AV} {o : Nat} {l : List AV} {i : Nat} {v : AV} (h : cellAt n zs (storeL t o l) i = some v) :
    (o ≤ i ∧ i < o + l.length ∧ l[i - o]? = some v) ∨ (¬ (o ≤ i ∧ i < o + l.length) ∧ cellAt n zs t i = some v) := by
  have hi := cellAt_lt h
  unfold cellAt at h ⊢
  rw [blt_of hi] at h ⊢
  simp only [cond_true] at h ⊢
  rw [get_storeL] at h
  by_cases hc : o ≤ i ∧ i < o + l.length
  · rw [if_pos hc] at h
    left
    refine ⟨hc.1, hc.2, ?_⟩
    have : i - o < l.length := by omega
    rw [List.getElem?_eq_getElem this] at h ⊢
    exact h
  · rw [if_neg hc] at h
    exact .inr ⟨hc, h⟩
theorem allScalar_all : ∀ {l : List AV}, allScalar l = true → ∀ a ∈ l, a.scalar = true
  | [], _, _, h => by cases h
  | b :: l, e, a, h => by
    simp only [allScalar, Bool.and_eq_true] at e
    cases h with
    | head => exact e.1
    | tail _ h => exact allScalar_all e.2 a h
theorem oneCells {β : Beta} : ∀ {l : List AV} {vs : List Value}, allScalar l = true → Reps β l vs → ∀ u ∈ vs, u.oneCell' = true
  | [], _, _, e, u, hu => by rw [e] at hu; cases hu
  | a :: l, _, h, ⟨v, r, e, ha, hl⟩, u, hu => by
    simp only [allScalar, Bool.and_eq_true] at h
    rw [e] at hu
    cases hu with
    | head => exact oneCell_of h.1 ha
    | tail _ hu => exact oneCells h.2 hl u hu
theorem storeAt_ok {P : Program} {lo : Nat} {β : Beta} {s s' : St} {w : World} (hs : Sit β s w) {b off : Nat} {l : List AV} (h : storeAt s lo b off l = some s') {p : Nat × Nat} (hp : β b = some p) {vs : List Value} (hv : Reps β l vs) :
    ∃ w', (storeCells ⟨p.1, off, none⟩ vs 0).run P w = .ok () w' ∧ Ext lo β s w β s' w' := by
  unfold storeAt at h
  split at h
  · rename_i T n zs t o hb
    obtain ⟨q, hq, cs, T', fr, hw, hsz, hn, hopn, hrw, hc⟩ := hs.blk b _ hb
    rw [hp] at hq
    cases hq
    obtain ⟨rfl, rfl⟩ := hrw rfl
    cases hcond : (Nat.ble lo b && Nat.ble (off + l.length) n && allScalar l) with
    | false => rw [hcond] at h; cases h
    | true =>
      rw [hcond] at h
      cases h
      simp only [Bool.and_eq_true, Nat.ble_eq] at hcond
      obtain ⟨⟨h1, h2⟩, h3⟩ := hcond
      have hlen := Reps.length hv
      obtain ⟨w', a, b', c, d, e⟩ := run_stores (P := P) (nb := p.1) (T := T') (off := off) vs 0 w cs hw (by omega) (oneCells h3 hv)
      refine ⟨w', a, ext_put hs ⟨_, hb⟩ h1 hp (o := .cells (wr cs (off + 0) vs) T' (0, 0)) ?_ b' c d e⟩
      refine ⟨_, _, _, rfl, by rw [wr_size]; exact hsz, hn, hopn, fun _ => ⟨rfl, rfl⟩, ?_⟩
      intro i v hi
      have hin := cellAt_lt hi
      rcases cellAt_storeL hi with ⟨g1, g2, g3⟩ | ⟨g1, g2⟩
      · obtain ⟨u, hu, hr⟩ := hv.at (i - off) v g3
        refine ⟨u, ?_, hr⟩
        have := wr_in vs cs (off + 0) (i - off) (by omega) (by omega)
        rw [show off + 0 + (i - off) = i by omega] at this
        rw [this]; exact hu
      · obtain ⟨u, hu, hr⟩ := hc i v g2
        refine ⟨u, ?_, hr⟩
        rw [wr_out vs cs (off + 0) i (by omega)]; exact hu
  · cases h
theorem cellAt_rowOf {l : List AV} {i : Nat} {v : AV} (h : cellAt l.length [] (storeL .lf 0 l) i = some v) : l[i]? = some v := by
  rcases cellAt_storeL h with ⟨_, _, g⟩ | ⟨g, k⟩
  · simpa using g
  · have := cellAt_lt k
    omega
/-- A row whose cells are written out. -/
theorem brep_row {β : Beta} {l : List AV} {vs : List Value} (h : Reps β l vs) (T : TypeId) (opn : Bool) (more : List Value) (hm : opn = false → more = []) : BRep β (rowOf T l opn) (some (.cells (vs ++ more).toArray T (0, 0))) (vs.length + more.length) := by
  refine ⟨_, _, _, rfl, by simp, by rw [Reps.length h]; omega, fun e => by rw [hm e, Reps.length h]; rfl, fun _ => ⟨rfl, rfl⟩, ?_⟩
  intro i v hi
  obtain ⟨u, hu, hr⟩ := h.at i v (cellAt_rowOf hi)
  refine ⟨u, ?_, hr⟩
  rw [List.getElem?_toArray, List.getElem?_append_left (List.getElem?_eq_some_iff.1 hu).1]
  exact hu
/-- A row of zeros, in whose turns the zero value's cells come. -/
theorem brep_zero {β : Beta} {zs : List AV} {vs : List Value} (h : Reps β zs vs) (T n : Nat) (cs : Array Value) (hsz : cs.size = n) (hcs : ∀ i, i < n → cs[i]? = vs[i % vs.length]?) : BRep β (zeroRow T n zs) (some (.cells cs T (0, 0))) n := by
  refine ⟨_, _, _, rfl, hsz, Nat.le_refl _, fun _ => rfl, fun _ => ⟨rfl, rfl⟩, ?_⟩
  intro i v hi
  have hin := cellAt_lt hi
  unfold cellAt at hi
  rw [blt_of hin] at hi
  simp only [cond_true, get_lf] at hi
  obtain ⟨u, hu, hr⟩ := h.nth hi
  exact ⟨u, by rw [hcs i hin, Reps.length h]; exact hu, hr⟩
end Ev
end Go.Proofs.Ytnelncafocgfhaa
