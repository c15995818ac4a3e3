/- A region whose order is open: what holds on the way, and at the end. -/
import Derived.Test.YtnelncafocgfhaaEvDraw2
namespace Go.Proofs.Ytnelncafocgfhaa
open Go.RowKit
namespace Ev
set_option linter.unusedSectionVars false
variable [Env]
section
variable {P : Program} {lo nt : Nat} {ih : Nat → Job → Option Out} {ops : Array Oper} {s0 : St} {fr0 : Tr AV} {D : Nat → DSt} {V : Nat → AV} {R : Nat → Rec}
/-- A name that stands for a block, at hand. -/
def LiveAt (C : Core) (R : Nat → Rec) (L : Nat → Bool) (i : Nat) : Prop := Live C.h i ∨ ∃ j b, L j = true ∧ Nat.testBit C.held j = false ∧ (i, b) ∈ (R j).news
def valRep (ops : Array Oper) (D : Nat → DSt) (V : Nat → AV) (fr0 : Tr AV) (n0 : Nat) (β : Beta) (t : Tmp) (u : Value) : Option Nat → Prop
  | some j => Rep (res β (D (j + 1)).n) (V j) u
  | none => Rep (res β n0) (slotV (fr0.get (path t))) u
structure Inv (lo nt : Nat) (ops : Array Oper) (s0 : St) (fr0 : Tr AV) (D : Nat → DSt) (V : Nat → AV) (R : Nat → Rec) (β0 : Beta) (w0 : World) (C : Core) (n : Nat) (L : Nat → Bool) (a : Act) (w : World) (β : Beta) : Prop where
  down : Down R L
  lt : ∀ i, L i = true → i < ops.size
  size : a.tmps.size = nt
  defers : a.defers = []
  vals : ∀ t, valRep ops D V fr0 s0.n β t (a.tmps.getD t undef) (writer ops L t ops.size)
  core : Sit (res β n) ⟨C.h, n⟩ w
  held : ∀ j, Nat.testBit C.held j = true → L j = true
  prov : ∀ i, Live C.h i → i < s0.n ∨ ∃ j, Nat.testBit C.held j = true ∧ (D j).n ≤ i ∧ i < (D (j + 1)).n
  news : ∀ j, L j = true → Nat.testBit C.held j = false → ∀ i b, (i, b) ∈ (R j).news → (D j).n ≤ i ∧ i < (D (j + 1)).n ∧ ∃ p, β i = some p ∧ BRep (res β (D (j + 1)).n) b w.heap[p.1]? p.2
  inj : ∀ i j p q, LiveAt C R L i → LiveAt C R L j → β i = some p → β j = some q → p.1 = q.1 → i = j
  low : ∀ i p, β i = some p → p.1 < w.heap.size ∧ (i < s0.n ∨ ∃ j, L j = true ∧ (D j).n ≤ i ∧ i < (D (j + 1)).n)
  same : ∀ i, i < s0.n → β i = β0 i
  os : w.os = w0.os
  tape : w.tape = w0.tape
  output : w.output = w0.output
  hsize : w0.heap.size ≤ w.heap.size
  keep : ∀ b, b < w0.heap.size → (∀ i p, lo ≤ i → Live s0.h i → β0 i = some p → p.1 ≠ b) → w.heap[b]? = w0.heap[b]?
  fresh : ∀ i p, s0.n ≤ i → β i = some p → w0.heap.size ≤ p.1 ∨ ∃ j q, lo ≤ j ∧ Live s0.h j ∧ β0 j = some q ∧ q.1 = p.1
  old : ∀ i, i < s0.n → Live C.h i → Live s0.h i
/-- the numbers of two operations do not meet. -/
theorem Plan.one (h : Plan P lo nt ih ops s0 fr0 D V R) {i j x : Nat} (hi : i < ops.size) (hj : j < ops.size) (h1 : (D i).n ≤ x) (h2 : x < (D (i + 1)).n) (h3 : (D j).n ≤ x) (h4 : x < (D (j + 1)).n) : i = j := by
  rcases Nat.lt_trichotomy i j with g | g | g
  · have := h.nle (j := i + 1) (k := j) (by omega) (by omega); omega
  · exact g
  · have := h.nle (j := j + 1) (k := i) (by omega) (by omega); omega
theorem Plan.ahead (h : Plan P lo nt ih ops s0 fr0 D V R) {i : Nat} (hi : i ≤ ops.size) : s0.n ≤ (D i).n := by rw [← h.n0]; exact h.nle (Nat.zero_le _) hi
variable {β0 β : Beta} {w0 w : World} {C : Core} {n : Nat} {L : Nat → Bool} {a : Act}
/-- A memory of the core and of what some operations made: it stands for what is there. -/
theorem Inv.sub (h : Plan P lo nt ih ops s0 fr0 D V R) (I : Inv lo nt ops s0 fr0 D V R β0 w0 C n L a w β) {mask m N : Nat} (hm : ∀ j, Nat.testBit mask j = true → L j = true ∧ (D (j + 1)).n ≤ N) (hn : n ≤ N) :
    Sit (res β N) ⟨memOf C.h C.held mask ((List.range m).map R) 0, N⟩ w ∧ ∀ i, Live (memOf C.h C.held mask ((List.range m).map R) 0) i → LiveAt C R L i ∧ (Live C.h i ∨ ∃ j, Nat.testBit mask j = true ∧ Nat.testBit C.held j = false ∧ (D j).n ≤ i ∧ i < (D (j + 1)).n) := by
  have key : ∀ i b, (memOf C.h C.held mask ((List.range m).map R) 0).get (path i) = some b → C.h.get (path i) = some b ∨ ∃ j, Nat.testBit mask j = true ∧ Nat.testBit C.held j = false ∧ (i, b) ∈ (R j).news := by
    intro i b e
    rcases memOf_get e with g | ⟨j, r, h1, h2, h3, h4⟩
    · exact .inl g
    · rw [Nat.zero_add] at h2 h3
      have : r = R j := by
        simp only [List.getElem?_map] at h1
        by_cases hj : j < m
        · rw [List.getElem?_range hj] at h1; simpa using h1.symm
        · rw [List.getElem?_eq_none (by simpa using hj)] at h1; cases h1
      rw [this] at h4
      exact .inr ⟨j, h2, h3, h4⟩
  have live : ∀ i, Live (memOf C.h C.held mask ((List.range m).map R) 0) i → LiveAt C R L i ∧ (Live C.h i ∨ ∃ j, Nat.testBit mask j = true ∧ Nat.testBit C.held j = false ∧ (D j).n ≤ i ∧ i < (D (j + 1)).n) := by
    rintro i ⟨b, e⟩
    rcases key i b e with g | ⟨j, h1, h2, h3⟩
    · exact ⟨.inl ⟨b, g⟩, .inl ⟨b, g⟩⟩
    · have := I.news j (hm j h1).1 h2 i b h3
      exact ⟨.inr ⟨j, b, (hm j h1).1, h2, h3⟩, .inr ⟨j, h1, h2, this.1, this.2.1⟩⟩
  refine ⟨⟨?_, ?_, ?_⟩, live⟩
  · intro i b e
    rcases key i b e with g | ⟨j, h1, h2, h3⟩
    · obtain ⟨p, hp, hr⟩ := I.core.blk i b g
      exact ⟨p, res_of (by have := (res_some hp).1; omega) (res_some hp).2, hr.mono (res_mono (Beta.le_refl β) hn)⟩
    · obtain ⟨g1, g2, p, g3, g4⟩ := I.news j (hm j h1).1 h2 i b h3
      have := (hm j h1).2
      exact ⟨p, res_of (by omega) g3, g4.mono (res_mono (Beta.le_refl β) this)⟩
  · intro i j p q hi hj hp hq hpq
    exact I.inj i j p q (live i hi).1 (live j hj).1 (res_some hp).2 (res_some hq).2 hpq
  · intro i p hp
    exact ⟨(res_some hp).1, (I.low i p (res_some hp).2).1⟩
/-- What an operation at hand looks at. -/
theorem Inv.sees (h : Plan P lo nt ih ops s0 fr0 D V R) (I : Inv lo nt ops s0 fr0 D V R β0 w0 C n L a w β) {i : Nat} (hi : i < ops.size) (hn : L i = false) (hm : ∀ j, Nat.testBit (R i).mask j = true → L j = true) :
    ∀ t ∈ ops[i].looksAt ops, Rep (res β (D i).n) (slotV ((D i).fr.get (path t))) (a.tmps.getD t undef) := by
  intro t ht
  have hv := I.vals t
  rw [h.sees I.down hi hn hm ht] at hv
  rw [h.frame t i (by omega)]
  cases hw : writer ops (fun _ => true) t i with
  | none =>
    rw [hw] at hv
    exact Rep.mono' hv (res_mono (Beta.le_refl β) (h.ahead (by omega)))
  | some j =>
    rw [hw] at hv
    have := writer_lt hw
    exact Rep.mono' hv (res_mono (Beta.le_refl β) (h.nle (by omega) (by omega)))
theorem Inv.opsRep (h : Plan P lo nt ih ops s0 fr0 D V R) (I : Inv lo nt ops s0 fr0 D V R β0 w0 C n L a w β) (hg : Globs P β0) (hg0 : ∀ g, g < P.globals.size → g < s0.n) {i : Nat} (hi : i < ops.size) (hn : L i = false) (hm : ∀ j, Nat.testBit (R i).mask j = true → L j = true) :
    OpsRep P (res β (D i).n) (D i).fr a.eval ops[i].op.operands.toList := by
  intro x hx v hv
  cases x with
  | tmp t =>
    cases hv
    refine I.sees h hi hn hm t ?_
    simp only [Oper.looksAt, List.mem_append, List.mem_filterMap]
    exact .inl ⟨.tmp t, hx, rfl⟩
  | const c => exact ofV_rep hv
  | global g =>
    simp only [opnd] at hv
    rw [Bool.cond_eq_ite] at hv
    split at hv
    case isFalse => cases hv
    case isTrue c =>
    cases hv
    have hc : g + 1 ≤ P.globals.size := by simpa [Nat.blt, Nat.ble_eq] using c
    obtain ⟨t, e⟩ := hg g hc
    have := hg0 g hc
    have := h.ahead (i := i) (by omega)
    exact ⟨g, t, res_of (by omega) (by rw [I.same g (by omega)]; exact e), rfl⟩
  | func f => cases hv; exact ⟨#[], rfl, rfl⟩
/-- The names' growth by one operation. -/
def grow (β β1 : Beta) (m n : Nat) : Beta := fun i => if m ≤ i ∧ i < n then β1 i else β i
theorem grow_in {β β1 : Beta} {m n i : Nat} (h : m ≤ i ∧ i < n) : grow β β1 m n i = β1 i := if_pos h
theorem grow_out {β β1 : Beta} {m n i : Nat} (h : ¬ (m ≤ i ∧ i < n)) : grow β β1 m n i = β i := if_neg h
theorem Inv.grow_le (h : Plan P lo nt ih ops s0 fr0 D V R) (I : Inv lo nt ops s0 fr0 D V R β0 w0 C n L a w β) {i : Nat} (hi : i < ops.size) (hn : L i = false) (β1 : Beta) : β.le (grow β β1 (D i).n (D (i + 1)).n) := by
  intro x p e
  rw [grow_out]
  · exact e
  · intro g
    rcases (I.low x p e).2 with c | ⟨j, hj, c1, c2⟩
    · have := h.ahead (i := i) (by omega); omega
    · have := h.one hi (I.lt j hj) g.1 g.2 c1 c2
      rw [this, hj] at hn; cases hn
theorem res_grow {β β1 : Beta} {m n : Nat} (hmn : m ≤ n) (h1 : ∀ i, i < m → β1 i = res β m i) (h2 : ∀ i p, β1 i = some p → i < n) : res (grow β β1 m n) n = β1 := by
  funext i
  unfold res
  by_cases e : i < n
  · rw [if_pos e]
    by_cases g : m ≤ i
    · rw [grow_in ⟨g, e⟩]
    · rw [grow_out (fun c => g c.1), h1 i (by omega)]
      unfold res
      rw [if_pos (by omega)]
  · rw [if_neg e]
    cases hc : β1 i with
    | none => rfl
    | some p => exact absurd (h2 i p hc) e
/-- An operation that writes nothing has been carried out. -/
theorem Inv.calm (h : Plan P lo nt ih ops s0 fr0 D V R) (I : Inv lo nt ops s0 fr0 D V R β0 w0 C n L a w β) {i : Nat} (hi : i < ops.size) (hn : L i = false) (hm : ∀ j, Nat.testBit (R i).mask j = true → L j = true) {β1 : Beta} {w1 : World} {u : Value}
    (h1 : ∀ x, x < (D i).n → β1 x = res β (D i).n x) (h2 : ∀ x p, β1 x = some p → x < (D (i + 1)).n ∧ p.1 < w1.heap.size) (ho : w1.os = w.os) (ht : w1.tape = w.tape) (hu : w1.output = w.output) (hsz : w.heap.size ≤ w1.heap.size) (hk : ∀ b, b < w.heap.size → w1.heap[b]? = w.heap[b]?)
    (h3 : ∀ x p, (D i).n ≤ x → β1 x = some p → w.heap.size ≤ p.1) (h4 : ∀ x b, (x, b) ∈ (R i).news → (D i).n ≤ x ∧ x < (D (i + 1)).n ∧ ∃ p, β1 x = some p ∧ BRep β1 b w1.heap[p.1]? p.2)
    (h5 : ∀ x y p q b c, (x, b) ∈ (R i).news → (y, c) ∈ (R i).news → β1 x = some p → β1 y = some q → p.1 = q.1 → x = y) (hv : Rep β1 (V i) u) (hC : Nat.testBit C.held i = false) :
    Inv lo nt ops s0 fr0 D V R β0 w0 C n (add L i) (a.put ops[i].dst u) w1 (grow β β1 (D i).n (D (i + 1)).n) := by
  have hle := I.grow_le h hi hn β1
  have hn1 := h.n1 hi
  have hres := res_grow (β := β) (β1 := β1) hn1 h1 (fun x p e => (h2 x p e).1)
  have hblk : ∀ x p, β x = some p → w1.heap[p.1]? = w.heap[p.1]? := fun x p e => hk p.1 (I.low x p e).1
  have hlive : ∀ x, LiveAt C R (add L i) x → LiveAt C R L x ∨ ∃ b, (x, b) ∈ (R i).news := by
    rintro x (g | ⟨j, b, g1, g2, g3⟩)
    · exact .inl (.inl g)
    · rcases add_of.1 g1 with g1 | rfl
      · exact .inl (.inr ⟨j, b, g1, g2, g3⟩)
      · exact .inr ⟨b, g3⟩
  -- a name at hand is no new one
  have hold : ∀ x, LiveAt C R L x → ∃ p, β x = some p ∧ grow β β1 (D i).n (D (i + 1)).n x = some p := by
    rintro x (⟨b, g⟩ | ⟨j, b, g1, g2, g3⟩)
    · obtain ⟨p, hp, _⟩ := I.core.blk x b g
      exact ⟨p, (res_some hp).2, hle _ _ (res_some hp).2⟩
    · obtain ⟨_, _, p, hp, _⟩ := I.news j g1 g2 x b g3
      exact ⟨p, hp, hle _ _ hp⟩
  refine ⟨?_, ?_, ?_, ?_, ?_, ?_, ?_, I.prov, ?_, ?_, ?_, ?_, ho.trans I.os, ht.trans I.tape, hu.trans I.output, Nat.le_trans I.hsize hsz, ?_, ?_, I.old⟩
  · intro x j hx hj
    rcases add_of.1 hx with g | rfl
    · exact add_of.2 (.inl (I.down x j g hj))
    · exact add_of.2 (.inl (hm j hj))
  · intro x hx
    rcases add_of.1 hx with g | rfl
    · exact I.lt x g
    · exact hi
  · cases hd : ops[i].dst with
    | none => exact I.size
    | some d => simp only [Act.put, Array.size_setIfInBounds]; exact I.size
  · cases hd : ops[i].dst <;> exact I.defers
  · intro t
    rw [h.wrote I.down hi hn t]
    by_cases c : ops[i].dst = some t
    · rw [if_pos c]
      have hlt := h.step hi
      have hp := hlt.fr
      rw [c] at hp
      have htn := put_lt hp
      have e : (a.put ops[i].dst u).tmps.getD t undef = u := by
        rw [c]
        simp only [Act.put]
        rw [Array.getD_eq_getD_getElem?, Array.getElem?_setIfInBounds, if_pos rfl, if_pos (by rw [I.size]; exact htn)]
        rfl
      rw [e]
      show Rep (res (grow β β1 (D i).n (D (i + 1)).n) (D (i + 1)).n) (V i) u
      rw [hres]; exact hv
    · rw [if_neg c]
      have e : (a.put ops[i].dst u).tmps.getD t undef = a.tmps.getD t undef := by
        cases hd : ops[i].dst with
        | none => rfl
        | some d =>
          simp only [Act.put]
          rw [Array.getD_eq_getD_getElem?, Array.getD_eq_getD_getElem?, Array.getElem?_setIfInBounds, if_neg (fun g => c (by rw [hd, g]))]
      rw [e]
      have := I.vals t
      cases hw : writer ops L t ops.size with
      | none => rw [hw] at this; exact Rep.mono' this (res_mono hle (Nat.le_refl _))
      | some j => rw [hw] at this; exact Rep.mono' this (res_mono hle (Nat.le_refl _))
  · refine ⟨?_, ?_, ?_⟩
    · intro x b e
      obtain ⟨p, hp, hr⟩ := I.core.blk x b e
      refine ⟨p, (res_mono hle (Nat.le_refl _)) _ _ hp, ?_⟩
      rw [hblk x p (res_some hp).2]
      exact hr.mono (res_mono hle (Nat.le_refl _))
    · intro x y p q hx hy hp hq hpq
      obtain ⟨p', hp1, hp2⟩ := hold x (.inl hx)
      obtain ⟨q', hq1, hq2⟩ := hold y (.inl hy)
      have e1 := (res_some hp).2
      have e2 := (res_some hq).2
      rw [hp2] at e1
      rw [hq2] at e2
      cases e1
      cases e2
      exact I.inj x y p q (.inl hx) (.inl hy) hp1 hq1 hpq
    · intro x p hp
      obtain ⟨g1, g2⟩ := res_some hp
      refine ⟨g1, ?_⟩
      by_cases c : (D i).n ≤ x ∧ x < (D (i + 1)).n
      · rw [grow_in c] at g2; exact (h2 x p g2).2
      · rw [grow_out c] at g2; have := (I.low x p g2).1; omega
  · intro j hj
    exact add_of.2 (.inl (I.held j hj))
  · intro j hj hh x b hx
    rcases add_of.1 hj with g | rfl
    · obtain ⟨g1, g2, p, g3, g4⟩ := I.news j g hh x b hx
      refine ⟨g1, g2, p, hle _ _ g3, ?_⟩
      rw [hblk x p g3]
      exact g4.mono (res_mono hle (Nat.le_refl _))
    · obtain ⟨g1, g2, p, g3, g4⟩ := h4 x b hx
      refine ⟨g1, g2, p, by rw [grow_in ⟨g1, g2⟩]; exact g3, ?_⟩
      rw [hres]; exact g4
  · intro x y p q hx hy hp hq hpq
    have newp : ∀ x b p, (x, b) ∈ (R i).news → grow β β1 (D i).n (D (i + 1)).n x = some p → β1 x = some p ∧ w.heap.size ≤ p.1 := by
      intro x b p hx hp
      obtain ⟨g1, g2, _⟩ := h4 x b hx
      rw [grow_in ⟨g1, g2⟩] at hp
      exact ⟨hp, h3 x p g1 hp⟩
    rcases hlive x hx with gx | ⟨b, gx⟩
    · obtain ⟨p', hp1, hp2⟩ := hold x gx
      rw [hp2] at hp
      cases hp
      rcases hlive y hy with gy | ⟨c, gy⟩
      · obtain ⟨q', hq1, hq2⟩ := hold y gy
        rw [hq2] at hq
        cases hq
        exact I.inj x y p q gx gy hp1 hq1 hpq
      · have := (I.low x p hp1).1
        have := (newp y c q gy hq).2
        omega
    · rcases hlive y hy with gy | ⟨c, gy⟩
      · obtain ⟨q', hq1, hq2⟩ := hold y gy
        rw [hq2] at hq
        cases hq
        have := (I.low y q hq1).1
        have := (newp x b p gx hp).2
        omega
      · exact h5 x y p q b c gx gy (newp x b p gx hp).1 (newp y c q gy hq).1 hpq
  · intro x p hp
    by_cases c : (D i).n ≤ x ∧ x < (D (i + 1)).n
    · rw [grow_in c] at hp
      exact ⟨(h2 x p hp).2, .inr ⟨i, add_of.2 (.inr rfl), c⟩⟩
    · rw [grow_out c] at hp
      obtain ⟨g1, g2⟩ := I.low x p hp
      exact ⟨by omega, g2.imp id fun ⟨j, q1, q2⟩ => ⟨j, add_of.2 (.inl q1), q2⟩⟩
  · intro x hx
    have := h.ahead (i := i) (by omega)
    rw [grow_out (by omega)]
    exact I.same x hx
  · intro b hb hnb
    rw [hk b (by have := I.hsize; omega)]
    exact I.keep b hb hnb
  · intro x p hx hp
    by_cases c : (D i).n ≤ x ∧ x < (D (i + 1)).n
    · rw [grow_in c] at hp
      have := h3 x p c.1 hp
      exact .inl (Nat.le_trans I.hsize this)
    · rw [grow_out c] at hp
      exact I.fresh x p hx hp
end
end Ev
end Go.Proofs.Ytnelncafocgfhaa
