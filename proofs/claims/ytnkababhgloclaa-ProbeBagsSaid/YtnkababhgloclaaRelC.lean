/- What a part of the program may write: all but some blocks is as it was. Plain law of memory, no program in sight. -/
import Derived.Test.YtnkababhgloclaaPairLib
namespace Go.Proofs.Ytnkababhgloclaa
open Go.RowKit Go.ChangeShapes
/-- All but some blocks is as it was. -/
structure Kept (X : Nat → Prop) (w w' : World) : Prop where
  os : w'.os = w.os
  tape : w'.tape = w.tape
  output : w'.output = w.output
  size : w.heap.size ≤ w'.heap.size
  block : ∀ k, k < w.heap.size → ¬ X k → w'.heap[k]? = w.heap[k]?
theorem Kept.refl (X : Nat → Prop) (w : World) : Kept X w w := ⟨rfl, rfl, rfl, Nat.le_refl _, fun _ _ _ => rfl⟩
theorem Kept.trans {X : Nat → Prop} {w w1 w2 : World} (h : Kept X w w1) (k : Kept X w1 w2) : Kept X w w2 :=
  ⟨k.os.trans h.os, k.tape.trans h.tape, k.output.trans h.output, Nat.le_trans h.size k.size, fun j hj hx => (k.block j (Nat.lt_of_lt_of_le hj h.size) hx).trans (h.block j hj hx)⟩
theorem Kept.mono {X Y : Nat → Prop} {w w' : World} (h : Kept X w w') (hxy : ∀ k, k < w.heap.size → X k → Y k) : Kept Y w w' :=
  ⟨h.os, h.tape, h.output, h.size, fun j hj hy => h.block j hj (fun hx => hy (hxy j hj hx))⟩
theorem Kept.below {X : Nat → Prop} {w w' : World} (h : Below w.heap.size w w') : Kept X w w' := ⟨h.os, h.tape, h.output, h.size, fun j hj _ => h.block j hj⟩
/-- The blocks from B on whose number and content are of a sort. -/
def Xo (B : Nat) (S : Nat → Obj → Prop) (w : World) (k : Nat) : Prop := B ≤ k ∧ ∃ o, w.heap[k]? = some o ∧ S k o
/-- Only blocks of a sort, from B on, were written. -/
def Rel (B : Nat) (S : Nat → Obj → Prop) (w w' : World) : Prop := Kept (Xo B S w) w w'
theorem Rel.refl (B : Nat) (S : Nat → Obj → Prop) (w : World) : Rel B S w w := Kept.refl _ _
theorem Rel.size {B : Nat} {S : Nat → Obj → Prop} {w w' : World} (h : Rel B S w w') : w.heap.size ≤ w'.heap.size := Kept.size h
theorem Rel.trans {B : Nat} {S : Nat → Obj → Prop} {w w1 w2 : World} (h : Rel B S w w1) (k : Rel B S w1 w2) : Rel B S w w2 :=
  ⟨(Kept.os k).trans (Kept.os h), (Kept.tape k).trans (Kept.tape h), (Kept.output k).trans (Kept.output h), Nat.le_trans h.size k.size, fun j hj hx => by
    have e := Kept.block h j hj hx
    refine (Kept.block k j (Nat.lt_of_lt_of_le hj h.size) fun hx' => hx ?_).trans e
    obtain ⟨h1, o, h2, h3⟩ := hx'
    exact ⟨h1, o, e.symm.trans h2, h3⟩⟩
theorem Rel.mono {B B' : Nat} {S S' : Nat → Obj → Prop} {w w' : World} (h : Rel B S w w') (hs : ∀ k o, S k o → S' k o) (hB : B' ≤ B := by omega) : Rel B' S' w w' :=
  Kept.mono h fun k _ ⟨h1, o, h2, h3⟩ => ⟨by omega, o, h2, hs k o h3⟩
theorem Rel.below {B : Nat} {S : Nat → Obj → Prop} {w w' : World} (h : Below w.heap.size w w') : Rel B S w w' := Kept.below h
theorem Rel.block {B : Nat} {S : Nat → Obj → Prop} {w w' : World} (h : Rel B S w w') {k : Nat} {o : Obj} (hk : w.heap[k]? = some o) (hs : B ≤ k → ¬ S k o) : w'.heap[k]? = some o :=
  (Kept.block h k (Array.getElem?_eq_some_iff.1 hk).1 fun ⟨h1, o', h2, h3⟩ => by
    rw [hk] at h2
    cases h2
    exact hs h1 h3).trans hk
theorem Rel.out {B : Nat} {S : Nat → Obj → Prop} {W w w' : World} (h : Rel B S w w') (h0 : Below B W w) (hB : B ≤ w.heap.size) : Below B W w' :=
  h0.trans ⟨Kept.os h, Kept.tape h, Kept.output h, h.size, fun k hk => Kept.block h k (by omega) (fun e => by have := e.1; omega)⟩
theorem Rel.grown {B : Nat} {S : Nat → Obj → Prop} {w w' : World} {b : Nat} {o : Obj} (h : w.grownBy w' (some b)) (hB : B ≤ b) (hb : w.heap[b]? = some o) (hs : S b o) : Rel B S w w' := ⟨h.os, h.tape, h.output, h.size, fun j hj hx => h.block j hj (by
  intro e
  cases e
  exact hx ⟨hB, o, hb, hs⟩)⟩
/-- An append to a row, or a new row. -/
theorem Rel.row {B : Nat} {S : Nat → Obj → Prop} {w w' : World} {B' e z n : Nat} {v : Value} {xs : List Value} (h : w.ownsRow B' e z v n xs) (hB : B ≤ B') (hg : w.grownBy w' v.ownBlock) (hs : ∀ k C z, S k (.cells C e z)) : Rel B S w w' := ⟨hg.os, hg.tape, hg.output, hg.size, fun j hj hx => hg.block j hj (by
  intro e
  rcases h.2 with ⟨rfl, _⟩ | ⟨g, cap, cur, rfl, hb, hc, _⟩
  · cases e
  · simp only [Value.ownBlock, Option.some.injEq] at e
    subst e
    exact hx ⟨by omega, _, hc, hs _ _ _⟩)⟩
theorem Rel.set {B : Nat} {S : Nat → Obj → Prop} {w : World} {a : Addr} {o : Obj} (hB : B ≤ a.block) (ha : w.heap[a.block]? = some o) (hs : S a.block o) (v : Value) : Rel B S w (w.setCell a v) :=
  ⟨rfl, rfl, rfl, by simp, fun k _ hx => Below.heap_setCell w _ _ k (fun e => hx (by rw [e]; exact ⟨hB, o, ha, hs⟩))⟩
theorem Rel.alloc {B : Nat} {S : Nat → Obj → Prop} (w : World) (o : Obj) : Rel B S w (w.alloc o) := Rel.below ((Below.refl _ w).alloc (Nat.le_refl _) _)
theorem Rel.drew {B : Nat} {S : Nat → Obj → Prop} {w w' : World} (h : Rel B S w w') : Rel B S w w'.drew := h.trans (Rel.below ((Below.refl _ w').drew))
theorem own_same {w w' : World} {B e z n : Nat} {v : Value} {xs : List Value} (h : w.ownsRow B e z v n xs) (hb : ∀ g, v.ownBlock = some g → w'.heap[g]? = w.heap[g]?) : w'.ownsRow B e z v n xs := by
  obtain ⟨h1, h2⟩ := h
  refine ⟨h1, ?_⟩
  rcases h2 with h2 | ⟨g, cap, cur, hv, hg, hh, r⟩
  · exact .inl h2
  · subst hv
    exact .inr ⟨g, cap, cur, rfl, hg, (hb g rfl).trans hh, r⟩
theorem own_type {w : World} {B e z n : Nat} {v : Value} {xs : List Value} (h : w.ownsRow B e z v n xs) {g : Nat} (hg : v.ownBlock = some g) : ∃ C, w.heap[g]? = some (.cells C e (0, 0)) := by
  rcases h.2 with ⟨rfl, _⟩ | ⟨g', cap, cur, rfl, _, hc, _⟩
  · cases hg
  · simp only [Value.ownBlock, Option.some.injEq] at hg
    subst hg
    exact ⟨_, hc⟩
/-- A row stays where nothing of its sort is written. -/
theorem own_rel {w w' : World} {B B' e z n : Nat} {S : Nat → Obj → Prop} {v : Value} {xs : List Value} (h : w.ownsRow B' e z v n xs) (hr : Rel B S w w') (hs : ∀ k C, B ≤ k → v.ownBlock = some k → ¬ S k (.cells C e (0, 0))) : w'.ownsRow B' e z v n xs :=
  own_same h fun g hg => by
    obtain ⟨C, hC⟩ := own_type h hg
    exact (hr.block hC fun hB => hs g C hB hg).trans hC.symm
/-- A row that is cut short. -/
theorem own_take {w : World} {B e z n n' c : Nat} {g : Nat} {xs : List Value} (h : w.ownsRow B e z (.slice (some ⟨g, 0, none⟩) n c) n xs) (hn : n' ≤ n) : w.ownsRow B e z (.slice (some ⟨g, 0, none⟩) n' c) n' (xs.take (n' * z)) := by
  obtain ⟨h1, h2⟩ := h
  rcases h2 with ⟨e, _⟩ | ⟨g', cap, cur, hv, hg, hh, r1, r2, r3, r4⟩
  · cases e
  · injection hv with e1 _ e3
    cases e1
    subst e3
    have hle : n' * z ≤ n * z := Nat.mul_le_mul_right _ hn
    refine ⟨by rw [List.length_take, h1, Nat.min_eq_left hle], .inr ⟨g, c, cur, rfl, hg, hh, by omega, r2, r3, ?_⟩⟩
    rw [← r4, List.take_take, Nat.min_eq_left hle]
end Go.Proofs.Ytnkababhgloclaa
