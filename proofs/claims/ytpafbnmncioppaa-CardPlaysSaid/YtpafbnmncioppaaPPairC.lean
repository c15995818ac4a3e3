/- Two registries side by side, the program's and the document's, with a territory of their own; kept where others are written. Plain law (step, CardPlays). -/
import Derived.Test.YtpafbnmncioppaaPNilC
namespace Go.Proofs.Ytpafbnmncioppaa
open Go.RowKit Go.ChangeShapes
theorem own_type {w : World} {B e z n : Nat} {v : Value} {xs : List Value} (h : w.ownsRow B e z v n xs) {g : Nat} (hg : v.ownBlock = some g) : ∃ C, w.heap[g]? = some (.cells C e (0, 0)) := by
  rcases h.2 with ⟨rfl, _⟩ | ⟨g', cap, cur, rfl, _, hc, _⟩
  · cases hg
  · simp only [Value.ownBlock, Option.some.injEq] at hg
    subst hg
    exact ⟨_, hc⟩
theorem own_still {w w' : World} {B e z n : Nat} {v : Value} {xs : List Value} (h : w.ownsRow B e z v n xs) (hk : ∀ g C, v.ownBlock = some g → w.heap[g]? = some (.cells C e (0, 0)) → w'.heap[g]? = w.heap[g]?) : w'.ownsRow B e z v n xs :=
  own_same h fun g hg => by
    obtain ⟨C, hC⟩ := own_type h hg
    exact hk g C hg hC
theorem CRow.still {T : Nat → Prop} {w w' : World} {B : Nat} {v : Value} {cs : List Cd} (h : CRow T w B v cs) (hk : ∀ k C t, w.heap[k]? = some (.cells C t (0, 0)) → T k → (t = 38 ∨ t = 9) → w'.heap[k]? = w.heap[k]?) : CRow T w' B v cs := by
  obtain ⟨l, h1, h2, h3, h4, h5⟩ := h
  exact ⟨l, h1, own_still h2 fun g C hg hC => hk g C _ hC (h4 g hg) (.inl rfl), fun r hr => own_still (h3 r hr) fun g C hg hC => hk g C _ hC (h5 r hr g hg) (.inr rfl), h4, h5⟩
theorem RReg.still {T : Nat → Prop} {w w' : World} {B m : Nat} {cs rs : List Cd} {ns : List Nt} {fz : Bool} (h : RReg T w B m cs rs ns fz) (hk : ∀ k C t, w.heap[k]? = some (.cells C t (0, 0)) → T k → (t = 58 ∨ t = 38 ∨ t = 9 ∨ t = 80) → w'.heap[k]? = w.heap[k]?) : RReg T w' B m cs rs ns fz := by
  obtain ⟨h0, vc, vr, vn, h1, h2, h3, ⟨h4, h5⟩, h6⟩ := h
  have hc : ∀ k C t, w.heap[k]? = some (.cells C t (0, 0)) → T k → (t = 38 ∨ t = 9) → w'.heap[k]? = w.heap[k]? := fun k C t a b c => hk k C t a b (by rcases c with c | c <;> simp [c])
  exact ⟨h0, vc, vr, vn, (hk m _ _ h1 h0.1 (.inl rfl)).trans h1, h2.still hc, h3.still hc, ⟨own_still h4 fun g C hg hC => hk g C _ hC (h5 g hg) (.inr (.inr (.inr rfl))), h5⟩, h6⟩
theorem slots_still {ns : List Nt} {T : Nat → Prop} {w w' : World} {B o : Nat} {cs : List Cd} {C : Array Value} (h : @Slots (NE ns T) C o w B cs) (hk : ∀ k C t, w.heap[k]? = some (.cells C t (0, 0)) → T k → t = 9 → w'.heap[k]? = w.heap[k]?) : @Slots (NE ns T) C o w' B cs := fun i hi => by
  obtain ⟨a, c, h1, h2, h3⟩ := h i hi
  refine ⟨a, c, h1, own_still h2 fun g C hg hC => ?_, h3⟩
  cases a with
  | none => cases hg
  | some a =>
    obtain ⟨hform, _⟩ | ⟨g', cap', cur, hform, _⟩ := h2.2
    · injection hform with e1 _ _
      cases e1
    · injection hform with e1 _ _
      cases e1
      simp only [Value.ownBlock, Option.some.injEq] at hg
      subst hg
      exact hk _ C _ hC (h3 _ rfl) rfl
theorem RegN.still {T : Nat → Prop} {w w' : World} {B b : Nat} {cs rs : List Cd} {ns : List Nt} {fz : Bool} (h : RegN T w B b cs rs ns fz) (hk : ∀ k C t, w.heap[k]? = some (.cells C t (0, 0)) → (k = b ∧ t = 84 ∨ T k ∧ t = 9) → w'.heap[k]? = w.heap[k]?) : RegN T w' B b cs rs ns fz := by
  letI : RE := NE ns T
  obtain ⟨C, m, h1, h2, h3, h4, h5, h6, h7, h8, h9, h10⟩ := h
  have hs : ∀ k C t, w.heap[k]? = some (.cells C t (0, 0)) → T k → t = 9 → w'.heap[k]? = w.heap[k]? := fun k C t a b c => hk k C t a (.inr ⟨b, c⟩)
  exact ⟨C, m, (hk b _ _ h1 (.inl ⟨rfl, rfl⟩)).trans h1, h2, h3, h4, h5, h6, h7, h8, slots_still h9 hs, slots_still h10 hs⟩
theorem slots_mono {ns : List Nt} {T T' : Nat → Prop} {w : World} {B o : Nat} {cs : List Cd} {C : Array Value} (h : @Slots (NE ns T) C o w B cs) (ht : ∀ k, k < w.heap.size → T k → T' k) : @Slots (NE ns T') C o w B cs := fun i hi => by
  obtain ⟨a, c, h1, h2, h3⟩ := h i hi
  refine ⟨a, c, h1, h2, fun g hg => ht _ ?_ (h3 g hg)⟩
  subst hg
  obtain ⟨e, _⟩ | ⟨g', cap', cur, hform, _⟩ := h2.2
  · injection e with e1 _ _
    cases e1
  · injection hform with e1 _ _
    cases e1
    exact own_block_lt h2 rfl
theorem RegN.mono {T T' : Nat → Prop} {w : World} {B b : Nat} {cs rs : List Cd} {ns : List Nt} {fz : Bool} (h : RegN T w B b cs rs ns fz) (ht : ∀ k, k < w.heap.size → T k → T' k) : RegN T' w B b cs rs ns fz := by
  obtain ⟨C, m, h1, h2, h3, h4, h5, h6, h7, h8, h9, h10⟩ := h
  exact ⟨C, m, h1, h2, h3, h4, h5, h6, h7, h8, slots_mono h9 ht, slots_mono h10 ht⟩
theorem RegN.at {T : Nat → Prop} {w : World} {B b : Nat} {cs rs : List Cd} {ns : List Nt} {fz : Bool} (h : RegN T w B b cs rs ns fz) : (∃ C, w.heap[b]? = some (.cells C 84 (0, 0))) ∧ cs.length ≤ 64 ∧ rs.length ≤ 64 ∧ ns.length ≤ 256 := by
  obtain ⟨C, m, h1, h2, h3, h4, h5, h6, ⟨h7, _⟩, _⟩ := h
  exact ⟨⟨C, h1⟩, h3, h4, h7⟩
/-- Few texts a card. -/
def FewC (cs : List Cd) : Prop := ∀ c ∈ cs, c.comp.length ≤ 8796093022208
theorem few_entC {cs rs : List Cd} {fz : Bool} {c : Cd} (h : FewC cs) (hc : c.comp.length ≤ 8796093022208) : FewC (entC cs rs fz c) := by
  unfold entC
  split
  · intro d hd
    rcases List.mem_append.1 hd with hd | hd
    · exact h d hd
    · rw [List.mem_singleton.1 hd]; exact hc
  · exact h
theorem few_entR {cs rs : List Cd} {fz : Bool} {c : Cd} (h : FewC rs) (hc : c.comp.length ≤ 8796093022208) : FewC (entR cs rs fz c) := by
  unfold entR
  split
  · intro d hd
    rcases List.mem_append.1 hd with hd | hd
    · exact h d hd
    · rw [List.mem_singleton.1 hd]; exact hc
  · exact h
/-- A pair of registries that say the same, in a territory of their own. -/
structure PairS (T : Nat → Prop) (w : World) (B b m : Nat) (cs rs : List Cd) (ns : List Nt) (fz : Bool) : Prop where
  reg : RegN T w B b cs rs ns fz
  ref : RReg T w B m cs rs ns fz
  tb : T b
  tm : T m
  lt : ∀ k, T k → B ≤ k ∧ k < w.heap.size
  mc : FewC cs
  mr : FewC rs
theorem PairS.kept {T X : Nat → Prop} {w w' : World} {B b m : Nat} {cs rs : List Cd} {ns : List Nt} {fz : Bool} (h : PairS T w B b m cs rs ns fz) (hk : Kept X w w') (hx : ∀ k, T k → ¬ X k) : PairS T w' B b m cs rs ns fz :=
  ⟨h.reg.still fun k C t _ d => hk.block k (h.lt k (by rcases d with ⟨rfl, _⟩ | ⟨d, _⟩; exact h.tb; exact d)).2 (hx k (by rcases d with ⟨rfl, _⟩ | ⟨d, _⟩; exact h.tb; exact d)), h.ref.kept hk hx, h.tb, h.tm, fun k hk' => ⟨(h.lt k hk').1, Nat.lt_of_lt_of_le (h.lt k hk').2 hk.size⟩, h.mc, h.mr⟩
theorem PairS.below {T : Nat → Prop} {w w' : World} {B b m : Nat} {cs rs : List Cd} {ns : List Nt} {fz : Bool} (h : PairS T w B b m cs rs ns fz) (hb : Below w.heap.size w w') : PairS T w' B b m cs rs ns fz := h.kept (X := fun _ => False) (Kept.below hb) (fun _ _ h => h)
/-- The same step was done in both. -/
def Stepped (T : Nat → Prop) (w : World) (B b m : Nat) (e : Ending) (w' : World) : Prop := e = .returned (.bool true) ∧ ∃ T' cs rs ns fz, PairS T' w' B b m cs rs ns fz ∧ (∀ k, T' k → T k ∨ w.heap.size ≤ k) ∧ Kept T w w'
theorem Kept.types {T X : Nat → Prop} {w w' : World} {k t : Nat} {C : Array Value} (h : Kept (Own3 X w) w w') (hk : w.heap[k]? = some (.cells C t (0, 0))) (ht : t ≠ 38 ∧ t ≠ 58 ∧ t ≠ 80) : w'.heap[k]? = w.heap[k]? :=
  h.block k (Array.getElem?_eq_some_iff.1 hk).1 (by
    rintro ⟨_, C', t', z', h1, h2⟩
    rw [hk] at h1
    cases h1
    rcases h2 with h2 | h2 | h2
    · exact ht.1 h2
    · exact ht.2.1 h2
    · exact ht.2.2 h2)
/-- The program's registry has done its step, then the document's. -/
theorem PairS.step {T T1 : Nat → Prop} {w w1 w2 : World} {B b m : Nat} {cs0 rs0 cs rs : List Cd} {ns0 ns : List Nt} {fz0 fz : Bool} {x : Int} {e : Ending} (hp : PairS T w B b m cs0 rs0 ns0 fz0) (hB : B ≤ w.heap.size) (hk : Kept T w w1)
    (h1 : RegN T1 w1 B b cs rs ns fz) (hT : ∀ k, T k → T1 k) (hT1 : ∀ k, T1 k → T k ∨ w.heap.size ≤ k) (h2 : Doc T w1 B m x cs rs ns fz e w2) (hmc : FewC cs) (hmr : FewC rs) :
    ∃ T' cs rs ns fz, PairS T' w2 B b m cs rs ns fz ∧ (∀ k, T' k → T k ∨ w.heap.size ≤ k) ∧ Kept T w w2 := by
  obtain ⟨_, hr, hk2⟩ := h2
  have hz : w.heap.size ≤ w2.heap.size := Nat.le_trans hk.size hk2.size
  have g1 : RegN T1 w2 B b cs rs ns fz := h1.still fun k C t hC d => hk2.types (T := T) hC (by rcases d with ⟨_, rfl⟩ | ⟨_, rfl⟩ <;> decide)
  refine ⟨TN T w w2, cs, rs, ns, fz, ⟨g1.mono fun k hlt d => ?_, hr.mono fun k d => ?_, .inl hp.tb, .inl hp.tm, fun k d => ?_, hmc, hmr⟩, fun k d => ?_, hk.trans (hk2.mono fun k _ d => d.1)⟩
  · rcases hT1 k d with d | d
    · exact .inl d
    · exact .inr ⟨d, hlt⟩
  · rcases d with d | ⟨d, hlt⟩
    · exact .inl d
    · exact .inr ⟨Nat.le_trans hk.size d, hlt⟩
  · rcases d with d | ⟨d, hlt⟩
    · exact ⟨(hp.lt k d).1, Nat.lt_of_lt_of_le (hp.lt k d).2 hz⟩
    · exact ⟨Nat.le_trans hB d, hlt⟩
  · rcases d with d | ⟨d, _⟩
    · exact .inl d
    · exact .inr d
end Go.Proofs.Ytpafbnmncioppaa
