/- The document's registry in memory; its Freeze. -/
import Derived.Test.YtpafbnmncioppaaPNotesC
namespace Go.Proofs.Ytpafbnmncioppaa
open Go.RowKit Go.ChangeShapes
/-- All but some blocks is as it was. -/
structure Kept (X : Nat → Prop) (w w' : World) : Prop where
  os : w'.os = w.os
  tape : w'.tape = w.tape
  output : w'.output = w.output
  size : w.heap.size ≤ w'.heap.size
  block : ∀ k, k < w.heap.size → ¬ X k → w'.heap[k]? = w.heap[k]?
theorem Kept.refl (X : Nat → Prop) (w : World) : Kept X w w := ⟨rfl, rfl, rfl, Nat.le_refl _, fun _ _ _ => rfl⟩
theorem Kept.trans {X : Nat → Prop} {w w1 w2 : World} (h : Kept X w w1) (k : Kept X w1 w2) : Kept X w w2 :=
  ⟨k.os.trans h.os, k.tape.trans h.tape, k.output.trans h.output, Nat.le_trans h.size k.size, fun j hj hx => (k.block j (Nat.lt_of_lt_of_le hj h.size) hx).trans (h.block j hj hx)⟩
theorem Kept.mono {X Y : Nat → Prop} {w w' : World} (h : Kept X w w') (hxy : ∀ k, k < w.heap.size → X k → Y k) : Kept Y w w' :=
  ⟨h.os, h.tape, h.output, h.size, fun j hj hy => h.block j hj (fun hx => hy (hxy j hj hx))⟩
theorem Kept.below {X : Nat → Prop} {w w' : World} (h : Below w.heap.size w w') : Kept X w w' := ⟨h.os, h.tape, h.output, h.size, fun j hj _ => h.block j hj⟩
theorem Kept.grown {X : Nat → Prop} {w w' : World} {b : Nat} (h : w.grownBy w' (some b)) (hb : X b) : Kept X w w' := ⟨h.os, h.tape, h.output, h.size, fun j hj hx => h.block j hj (by
  intro e
  cases e
  exact hx hb)⟩
theorem Kept.out {X : Nat → Prop} {B : Nat} {w0 w w' : World} (h : Kept X w w') (hx : ∀ k, X k → B ≤ k) (h0 : Below B w0 w) (hB : B ≤ w.heap.size) : Below B w0 w' :=
  h0.trans ⟨h.os, h.tape, h.output, h.size, fun k hk => h.block k (by omega) (fun e => by have := hx k e; omega)⟩
theorem own_same {w w' : World} {B e z n : Nat} {v : Value} {xs : List Value} (h : w.ownsRow B e z v n xs) (hb : ∀ g, v.ownBlock = some g → w'.heap[g]? = w.heap[g]?) : w'.ownsRow B e z v n xs := by
  obtain ⟨h1, h2⟩ := h
  refine ⟨h1, ?_⟩
  rcases h2 with h2 | ⟨g, cap, cur, hv, hg, hh, r⟩
  · exact .inl h2
  · subst hv
    exact .inr ⟨g, cap, cur, rfl, hg, (hb g rfl).trans hh, r⟩
theorem own_block_lt {w : World} {B e z n : Nat} {v : Value} {xs : List Value} (h : w.ownsRow B e z v n xs) {g : Nat} (hg : v.ownBlock = some g) : g < w.heap.size := (h.lt g hg).2
/-- The row's block, if it has one, is of the territory. -/
def InT (T : Nat → Prop) (v : Value) : Prop := ∀ g, v.ownBlock = some g → T g
/-- A row of cards and their texts, all in the territory. -/
def CRow (T : Nat → Prop) (w : World) (B : Nat) (v : Value) (cs : List Cd) : Prop :=
  ∃ l : List (Cd × Value), l.map (·.1) = cs ∧ w.ownsRow B 38 7 v l.length (ccells l) ∧ RowsOf w B l ∧ InT T v ∧ ∀ r ∈ l, InT T r.2
theorem CRow.kept {T X : Nat → Prop} {w w' : World} {B : Nat} {v : Value} {cs : List Cd} (h : CRow T w B v cs) (hk : Kept X w w') (hx : ∀ k, T k → ¬ X k) : CRow T w' B v cs := by
  obtain ⟨l, h1, h2, h3, h4, h5⟩ := h
  refine ⟨l, h1, own_same h2 fun g hg => hk.block g (own_block_lt h2 hg) (hx g (h4 g hg)), fun r hr => own_same (h3 r hr) fun g hg => hk.block g (own_block_lt (h3 r hr) hg) (hx g (h5 r hr g hg)), h4, h5⟩
theorem CRow.mono {T T' : Nat → Prop} {w : World} {B : Nat} {v : Value} {cs : List Cd} (h : CRow T w B v cs) (ht : ∀ k, T k → T' k) : CRow T' w B v cs := by
  obtain ⟨l, h1, h2, h3, h4, h5⟩ := h
  exact ⟨l, h1, h2, h3, fun g hg => ht g (h4 g hg), fun r hr g hg => ht g (h5 r hr g hg)⟩
theorem CRow.below {T : Nat → Prop} {w w' : World} {B : Nat} {v : Value} {cs : List Cd} (h : CRow T w B v cs) (hb : Below w.heap.size w w') : CRow T w' B v cs := h.kept (X := fun _ => False) (Kept.below hb) (fun _ _ h => h)
theorem CRow.slice {T : Nat → Prop} {w : World} {B : Nat} {v : Value} {cs : List Cd} (h : CRow T w B v cs) : ∃ a c, v = .slice a cs.length c := by
  obtain ⟨l, h1, h2, _⟩ := h
  obtain ⟨a, c, e⟩ := own_slice h2
  exact ⟨a, c, by rw [e, ← h1, List.length_map]⟩
theorem CRow.cards {T : Nat → Prop} {w : World} {B : Nat} {v : Value} {cs : List Cd} (h : CRow T w B v cs) (hn : cs.length ≤ 64) (hml : ∀ c ∈ cs, c.comp.length ≤ 8796093022208) : CardsAt w v cs := by
  obtain ⟨l, h1, h2, h3, _⟩ := h
  have := cards_rows h2 h3 (by rw [← List.length_map (f := (·.1)), h1]; unfold maxLen; omega) (fun r hr => by
    have := hml r.1 (by rw [← h1]; exact List.mem_map.2 ⟨r, hr, rfl⟩)
    unfold maxLen
    omega)
  rwa [h1] at this
/-- The document's registry. -/
def RReg (T : Nat → Prop) (w : World) (B m : Nat) (cs rs : List Cd) (ns : List Nt) (fz : Bool) : Prop :=
  (T m ∧ B ≤ m) ∧ ∃ vc vr vn, w.heap[m]? = some (.cells #[vc, vr, vn, .bool fz] 58 (0, 0)) ∧ CRow T w B vc cs ∧ CRow T w B vr rs ∧ (w.ownsRow B 80 4 vn ns.length (nc ns) ∧ InT T vn) ∧ ∀ g, vc.ownBlock = some g → vr.ownBlock ≠ some g
theorem RReg.lt {T : Nat → Prop} {w : World} {B m : Nat} {cs rs : List Cd} {ns : List Nt} {fz : Bool} (h : RReg T w B m cs rs ns fz) : m < w.heap.size := by
  obtain ⟨_, vc, vr, vn, h1, _⟩ := h
  exact (Array.getElem?_eq_some_iff.1 h1).1
theorem RReg.kept {T X : Nat → Prop} {w w' : World} {B m : Nat} {cs rs : List Cd} {ns : List Nt} {fz : Bool} (h : RReg T w B m cs rs ns fz) (hk : Kept X w w') (hx : ∀ k, T k → ¬ X k) : RReg T w' B m cs rs ns fz := by
  have hl := h.lt
  obtain ⟨h0, vc, vr, vn, h1, h2, h3, ⟨h4, h5⟩, h6⟩ := h
  exact ⟨h0, vc, vr, vn, (hk.block m hl (hx m h0.1)).trans h1, h2.kept hk hx, h3.kept hk hx, ⟨own_same h4 fun g hg => hk.block g (own_block_lt h4 hg) (hx g (h5 g hg)), h5⟩, h6⟩
theorem RReg.below {T : Nat → Prop} {w w' : World} {B m : Nat} {cs rs : List Cd} {ns : List Nt} {fz : Bool} (h : RReg T w B m cs rs ns fz) (hb : Below w.heap.size w w') : RReg T w' B m cs rs ns fz := h.kept (X := fun _ => False) (Kept.below hb) (fun _ _ h => h)
theorem RReg.mono {T T' : Nat → Prop} {w : World} {B m : Nat} {cs rs : List Cd} {ns : List Nt} {fz : Bool} (h : RReg T w B m cs rs ns fz) (ht : ∀ k, T k → T' k) : RReg T' w B m cs rs ns fz := by
  obtain ⟨h0, vc, vr, vn, h1, h2, h3, ⟨h4, h5⟩, h6⟩ := h
  exact ⟨⟨ht m h0.1, h0.2⟩, vc, vr, vn, h1, h2.mono ht, h3.mono ht, ⟨h4, fun g hg => ht g (h5 g hg)⟩, h6⟩
/-- What the document's own steps write: its block, its rows. -/
def Own3 (T : Nat → Prop) (w : World) (k : Nat) : Prop := T k ∧ ∃ C t z, w.heap[k]? = some (.cells C t z) ∧ (t = 38 ∨ t = 58 ∨ t = 80)
/-- The territory, and what is new. -/
def TN (T : Nat → Prop) (w w' : World) (k : Nat) : Prop := T k ∨ (w.heap.size ≤ k ∧ k < w'.heap.size)
/-- A document's step: its answer, what it has then. -/
def Doc (T : Nat → Prop) (w : World) (B m : Nat) (x : Int) (cs rs : List Cd) (ns : List Nt) (fz : Bool) (e : Ending) (w' : World) : Prop := e = .returned (.int .i64 x) ∧ RReg (TN T w w') w' B m cs rs ns fz ∧ Kept (Own3 T w) w w'
theorem reg_at {T : Nat → Prop} {w : World} {B m : Nat} {cs rs : List Cd} {ns : List Nt} {fz : Bool} (h : RReg T w B m cs rs ns fz) : Own3 T w m := by
  obtain ⟨h0, vc, vr, vn, h1, _⟩ := h
  exact ⟨h0.1, _, _, _, h1, .inr (.inl rfl)⟩
theorem kept_setCell (X : Nat → Prop) (w : World) (m p : Nat) (u : Value) (h : X m) : Kept X w (w.setCell ⟨m, p, none⟩ u) := ⟨rfl, rfl, rfl, by simp, fun k hk hx => Below.heap_setCell w _ _ k (fun e => hx (by
  have : k = m := by simpa using e
  rw [this]
  exact h))⟩
/-- A row stays where a cell of a registry's block is written. -/
theorem own_setReg {w : World} {B e z n m p : Nat} {v : Value} {xs : List Value} {C : Array Value} (h : w.ownsRow B e z v n xs) (he : e ≠ 58) (hm : w.heap[m]? = some (.cells C 58 (0, 0))) (u : Value) : (w.setCell ⟨m, p, none⟩ u).ownsRow B e z v n xs := by
  refine ownsRow_setCell_other h (a := ⟨m, p, none⟩) (fun hb => ?_) u
  rcases h.2 with ⟨rfl, _⟩ | ⟨g, cap, cur, rfl, _, hc, _⟩
  · cases hb
  · simp only [Value.ownBlock, Option.some.injEq] at hb
    subst hb
    rw [hm] at hc
    injection hc with hc
    injection hc with _ h2 _
    exact he h2.symm
theorem CRow.setReg {T : Nat → Prop} {w : World} {B m p : Nat} {v : Value} {cs : List Cd} {C : Array Value} (h : CRow T w B v cs) (hm : w.heap[m]? = some (.cells C 58 (0, 0))) (u : Value) : CRow T (w.setCell ⟨m, p, none⟩ u) B v cs := by
  obtain ⟨l, h1, h2, h3, h4, h5⟩ := h
  exact ⟨l, h1, own_setReg h2 (by decide) hm u, fun r hr => own_setReg (h3 r hr) (by decide) hm u, h4, h5⟩
set_option maxHeartbeats 1000000 in
set_option maxRecDepth 100000 in
theorem rfreeze_any (T : Nat → Prop) (B m : Nat) (cs rs : List Cd) (ns : List Nt) (fz : Bool) (w : World) (h : RReg T w B m cs rs ns fz) : Calls Try.prog 41 #[.pointer (some ⟨m, 0, none⟩)] w (Doc T w B m (if fz then 5 else 0) cs rs ns true) := by
  have HR := Lib.hid h
  have h' := h
  obtain ⟨h0, vc, vr, vn, h1, h2, h3, ⟨h4, h5⟩, h6⟩ := h'
  have c3 : w.cell? ⟨m, 3, none⟩ = some (.bool fz) := (cell_of_row w m 3 _ _ _ h1).trans rfl
  have f3 := frozen_of_row w m 3 _ _ h1
  have HN : Hid (RReg (TN T w (w.setCell ⟨m, 3, none⟩ (.bool true))) (w.setCell ⟨m, 3, none⟩ (.bool true)) B m cs rs ns true) := Lib.hid (RReg.mono (T := T)
    ⟨h0, vc, vr, vn, heap_setCell_same w m 3 _ _ _ h1, h2.setReg h1 _, h3.setReg h1 _, ⟨own_setReg h4 (by decide) h1 _, h5⟩, h6⟩ (fun k hk => .inl hk))
  have HG : Hid (Kept (Own3 T w) w (w.setCell ⟨m, 3, none⟩ (.bool true))) := Lib.hid (kept_setCell _ _ _ _ _ (reg_at h))
  cases fz with
  | true =>
    have HM : Hid (RReg (TN T w w) w B m cs rs ns true) := Lib.hid (h.mono (fun k hk => .inl hk))
    clear h h0 h1 h2 h3 h4 h5 h6 HN HG
    go_enter Try.func41, Try.ntmps41
    go_wp2_with fail
    go_ret
    exact ⟨rfl, HM.out, Kept.refl _ _⟩
  | false =>
    clear h h0 h1 h2 h3 h4 h5 h6
    go_enter Try.func41, Try.ntmps41
    go_wp2_with fail
    go_ret
    exact ⟨rfl, HN.out, HG.out⟩
end Go.Proofs.Ytpafbnmncioppaa
