/- A region whose order is open: an operation that writes; the whole region. -/
import Derived.Test.YtnelncafocgfhaaEvDraw3
namespace Go.Proofs.Ytnelncafocgfhaa
open Go.RowKit
namespace Ev
set_option linter.unusedSectionVars false
variable [Env]
section
variable {P : Program} {lo nt : Nat} {ih : Nat → Job → Option Out} {ops : Array Oper} {s0 : St} {fr0 : Tr AV} {D : Nat → DSt} {V : Nat → AV} {R : Nat → Rec}
variable {β0 β : Beta} {w0 w : World} {C : Core} {n : Nat} {L : Nat → Bool} {a : Act}
/-- An operation that writes has been carried out. -/
theorem Inv.wrote (h : Plan P lo nt ih ops s0 fr0 D V R) (I : Inv lo nt ops s0 fr0 D V R β0 w0 C n L a w β) {i : Nat} (hi : i < ops.size) (hn : L i = false) (hm : ∀ j, Nat.testBit (R i).mask j = true → L j = true) {β1 : Beta} {w1 : World} {u : Value} {s' : St}
    (hnn : n ≤ (D i).n) (hx : Ext lo (res β (D i).n) ⟨memOf C.h C.held (R i).mask ((List.range i).map R) 0, (D i).n⟩ w β1 s' w1) (hs' : s'.n = (D (i + 1)).n) (hv : Rep β1 (V i) u) (hnews : (R i).news = []) :
    Inv lo nt ops s0 fr0 D V R β0 w0 ⟨s'.h, Nat.lor (Nat.lor C.held (R i).mask) (2 ^ i)⟩ (D (i + 1)).n (add L i) (a.put ops[i].dst u) w1 (grow β β1 (D i).n (D (i + 1)).n) := by
  have hn1 := h.n1 hi
  have hlow2 : ∀ x p, β1 x = some p → x < (D (i + 1)).n ∧ p.1 < w1.heap.size := fun x p e => by
    have := hx.sit.low x p e; rw [hs'] at this; exact this
  have h1 : ∀ x, x < (D i).n → β1 x = res β (D i).n x := fun x hlt => hx.same x hlt
  have hle := I.grow_le h hi hn β1
  have hres := res_grow (β := β) (β1 := β1) hn1 h1 (fun x p e => (hlow2 x p e).1)
  have hahead := h.ahead (i := i) (by omega)
  obtain ⟨hX, hXl⟩ := I.sub h (mask := (R i).mask) (m := i) (N := (D i).n) (fun j hj => ⟨hm j hj, h.nle (by have := h.mask_lt hi hj; omega) (by omega)⟩) hnn
  have bits : ∀ j, Nat.testBit (Nat.lor (Nat.lor C.held (R i).mask) (2 ^ i)) j = (Nat.testBit C.held j || Nat.testBit (R i).mask j || decide (i = j)) := fun j => by rw [testBit_lor, testBit_lor, testBit_two]
  -- what others made is not in the memory that this one was given
  have apartX : ∀ j x b, L j = true → Nat.testBit C.held j = false → Nat.testBit (R i).mask j = false → (x, b) ∈ (R j).news → ¬ Live (memOf C.h C.held (R i).mask ((List.range i).map R) 0) x := by
    intro j x b hj h2 h3 hxb hl
    obtain ⟨g1, g2, _⟩ := I.news j hj h2 x b hxb
    have := h.ahead (i := j) (by have := I.lt j hj; omega)
    rcases (hXl x hl).2 with g | ⟨k, k1, k2, k3, k4⟩
    · rcases I.prov x g with q | ⟨k, k1, k2, k3⟩
      · omega
      · have := h.one (I.lt j hj) (I.lt k (I.held k k1)) g1 g2 k2 k3
        rw [this, k1] at h2; cases h2
    · have := h.one (I.lt j hj) (I.lt k (hm k k1)) g1 g2 k3 k4
      rw [this, k1] at h3; cases h3
  -- and stands as it stood
  have stays : ∀ j x b p, L j = true → Nat.testBit C.held j = false → Nat.testBit (R i).mask j = false → (x, b) ∈ (R j).news → β x = some p → w1.heap[p.1]? = w.heap[p.1]? := by
    intro j x b p hj h2 h3 hxb hp
    refine hx.keep p.1 (I.low x p hp).1 ?_
    intro y q _ hy hq hqp
    have : y = x := I.inj y x q p (hXl y hy).1 (.inr ⟨j, b, hj, h2, hxb⟩) (res_some hq).2 hp hqp
    rw [this] at hy
    exact apartX j x b hj h2 h3 hxb hy
  have g1of : ∀ x, x < (D (i + 1)).n → grow β β1 (D i).n (D (i + 1)).n x = β1 x := fun x hlt => by
    by_cases c : (D i).n ≤ x
    · rw [grow_in ⟨c, hlt⟩]
    · rw [grow_out (fun g => c g.1), h1 x (by omega)]
      unfold res
      rw [if_pos (by omega)]
  -- one live name in the new memory, one of the others'
  have cross : ∀ x y p q j c, Live s'.h x → L j = true → Nat.testBit C.held j = false → Nat.testBit (R i).mask j = false → (y, c) ∈ (R j).news → β1 x = some p → β y = some q → p.1 = q.1 → x = y := by
    intro x y p q j c hlx hj h2 h3 hyc hp hq hpq
    by_cases cx : x < (D i).n
    · have hl := hx.old x cx hlx
      rw [h1 x cx] at hp
      exact I.inj x y p q (hXl x hl).1 (.inr ⟨j, c, hj, h2, hyc⟩) (res_some hp).2 hq hpq
    · rcases hx.new x p (show (D i).n ≤ x by omega) hp with g | ⟨y', q', _, hl, hq', e⟩
      · have := (I.low y q hq).1; omega
      · have : y' = y := I.inj y' y q' q (hXl y' hl).1 (.inr ⟨j, c, hj, h2, hyc⟩) (res_some hq').2 hq (by omega)
        rw [this] at hl
        exact absurd hl (apartX j y c hj h2 h3 hyc)
  have other : ∀ j, add L i j = true → Nat.testBit (Nat.lor (Nat.lor C.held (R i).mask) (2 ^ i)) j = false → L j = true ∧ Nat.testBit C.held j = false ∧ Nat.testBit (R i).mask j = false ∧ j ≠ i := by
    intro j hj hb
    rw [bits] at hb
    simp only [Bool.or_eq_false_iff, decide_eq_false_iff_not] at hb
    exact ⟨(add_of.1 hj).resolve_right (fun e => hb.2 e.symm), hb.1.1, hb.1.2, fun e => hb.2 e.symm⟩
  have rangeout : ∀ j x b, L j = true → Nat.testBit C.held j = false → j ≠ i → (x, b) ∈ (R j).news → grow β β1 (D i).n (D (i + 1)).n x = β x := by
    intro j x b hj h2 hne hxb
    obtain ⟨g1, g2, _⟩ := I.news j hj h2 x b hxb
    refine grow_out fun g => hne ?_
    exact h.one (I.lt j hj) hi g1 g2 g.1 g.2
  refine ⟨?_, ?_, ?_, ?_, ?_, ?_, ?_, ?_, ?_, ?_, ?_, ?_, hx.os.trans I.os, hx.tape.trans I.tape, hx.output.trans I.output, Nat.le_trans I.hsize hx.size, ?_, ?_, ?_⟩
  · intro x j hx' hj
    rcases add_of.1 hx' with g | rfl
    · exact add_of.2 (.inl (I.down x j g hj))
    · exact add_of.2 (.inl (hm j hj))
  · intro x hx'
    rcases add_of.1 hx' with g | rfl
    · exact I.lt x g
    · exact hi
  · cases hd : ops[i].dst with
    | none => exact I.size
    | some d => simp only [Act.put, Array.size_setIfInBounds]; exact I.size
  · cases hd : ops[i].dst <;> exact I.defers
  · intro t
    rw [h.wrote I.down hi hn t]
    by_cases c : ops[i].dst = some t
    · rw [if_pos c]
      have hp := (h.step hi).fr
      rw [c] at hp
      have htn := put_lt hp
      have e : (a.put ops[i].dst u).tmps.getD t undef = u := by
        rw [c]
        simp only [Act.put]
        rw [Array.getD_eq_getD_getElem?, Array.getElem?_setIfInBounds, if_pos rfl, if_pos (by rw [I.size]; exact htn)]
        rfl
      rw [e]
      show Rep (res (grow β β1 (D i).n (D (i + 1)).n) (D (i + 1)).n) (V i) u
      rw [hres]; exact hv
    · rw [if_neg c]
      have e : (a.put ops[i].dst u).tmps.getD t undef = a.tmps.getD t undef := by
        cases hd : ops[i].dst with
        | none => rfl
        | some d =>
          simp only [Act.put]
          rw [Array.getD_eq_getD_getElem?, Array.getD_eq_getD_getElem?, Array.getElem?_setIfInBounds, if_neg (fun g => c (by rw [hd, g]))]
      rw [e]
      have := I.vals t
      cases hw : writer ops L t ops.size with
      | none => rw [hw] at this; exact Rep.mono' this (res_mono hle (Nat.le_refl _))
      | some j => rw [hw] at this; exact Rep.mono' this (res_mono hle (Nat.le_refl _))
  · rw [hres]
    have := hx.sit
    rw [show s' = ⟨s'.h, (D (i + 1)).n⟩ by rw [← hs']] at this
    exact this
  · intro j hj
    rw [bits] at hj
    simp only [Bool.or_eq_true, decide_eq_true_eq] at hj
    rcases hj with (g | g) | g
    · exact add_of.2 (.inl (I.held j g))
    · exact add_of.2 (.inl (hm j g))
    · exact add_of.2 (.inr g.symm)
  · intro x hlx
    by_cases cx : x < (D i).n
    · rcases (hXl x (hx.old x cx hlx)).2 with g | ⟨k, k1, k2, k3, k4⟩
      · rcases I.prov x g with q | ⟨k, k1, k2, k3⟩
        · exact .inl q
        · exact .inr ⟨k, by rw [bits, k1]; rfl, k2, k3⟩
      · exact .inr ⟨k, by rw [bits, k1]; simp, k3, k4⟩
    · obtain ⟨b, hb⟩ := hlx
      obtain ⟨p, hp, _⟩ := hx.sit.blk x b hb
      exact .inr ⟨i, by rw [bits]; simp, by omega, (hlow2 x p hp).1⟩
  · intro j hj hb x b hxb
    obtain ⟨j1, j2, j3, j4⟩ := other j hj hb
    obtain ⟨g1, g2, p, g3, g4⟩ := I.news j j1 j2 x b hxb
    refine ⟨g1, g2, p, hle _ _ g3, ?_⟩
    rw [stays j x b p j1 j2 j3 hxb g3]
    exact g4.mono (res_mono hle (Nat.le_refl _))
  · intro x y p q hlx hly hp hq hpq
    rcases hlx with gx | ⟨j, b, x1, x2, x3⟩
    · have hxn : x < (D (i + 1)).n := by
        obtain ⟨b, hb⟩ := gx
        obtain ⟨p', hp', _⟩ := hx.sit.blk x b hb
        exact (hlow2 x p' hp').1
      rw [g1of x hxn] at hp
      rcases hly with gy | ⟨k, c, y1, y2, y3⟩
      · have hyn : y < (D (i + 1)).n := by
          obtain ⟨b, hb⟩ := gy
          obtain ⟨p', hp', _⟩ := hx.sit.blk y b hb
          exact (hlow2 y p' hp').1
        rw [g1of y hyn] at hq
        exact hx.sit.inj x y p q gx gy hp hq hpq
      · obtain ⟨j1, j2, j3, j4⟩ := other k y1 y2
        rw [rangeout k y c j1 j2 j4 y3] at hq
        exact cross x y p q k c gx j1 j2 j3 y3 hp hq hpq
    · obtain ⟨j1, j2, j3, j4⟩ := other j x1 x2
      rw [rangeout j x b j1 j2 j4 x3] at hp
      rcases hly with gy | ⟨k, c, y1, y2, y3⟩
      · have hyn : y < (D (i + 1)).n := by
          obtain ⟨b, hb⟩ := gy
          obtain ⟨p', hp', _⟩ := hx.sit.blk y b hb
          exact (hlow2 y p' hp').1
        rw [g1of y hyn] at hq
        exact (cross y x q p j b gy j1 j2 j3 x3 hq hp hpq.symm).symm
      · obtain ⟨k1, k2, k3, k4⟩ := other k y1 y2
        rw [rangeout k y c k1 k2 k4 y3] at hq
        exact I.inj x y p q (.inr ⟨j, b, j1, j2, x3⟩) (.inr ⟨k, c, k1, k2, y3⟩) hp hq hpq
  · intro x p hp
    by_cases c : (D i).n ≤ x ∧ x < (D (i + 1)).n
    · rw [grow_in c] at hp
      exact ⟨(hlow2 x p hp).2, .inr ⟨i, add_of.2 (.inr rfl), c⟩⟩
    · rw [grow_out c] at hp
      obtain ⟨g1, g2⟩ := I.low x p hp
      have := hx.size
      exact ⟨by omega, g2.imp id fun ⟨j, q1, q2⟩ => ⟨j, add_of.2 (.inl q1), q2⟩⟩
  · intro x hx'
    rw [grow_out (by omega)]
    exact I.same x hx'
  · intro b hb hnb
    rw [hx.keep b (by have := I.hsize; omega) ?_]
    · exact I.keep b hb hnb
    · intro y q hloy hly hq
      obtain ⟨q1, q2⟩ := res_some hq
      by_cases cy : y < s0.n
      · have hl0 : Live s0.h y := by
          rcases (hXl y hly).2 with g | ⟨k, k1, k2, k3, k4⟩
          · exact I.old y cy g
          · have := h.ahead (i := k) (by have := I.lt k (hm k k1); omega); omega
        exact hnb y q hloy hl0 (by rw [← I.same y cy]; exact q2)
      · rcases I.fresh y q (by omega) q2 with g | ⟨j, q', g1, g2, g3, g4⟩
        · omega
        · rw [← g4]; exact hnb j q' g1 g2 g3
  · intro x p hx' hp
    by_cases c : (D i).n ≤ x ∧ x < (D (i + 1)).n
    · rw [grow_in c] at hp
      rcases hx.new x p c.1 hp with g | ⟨y, q, g1, g2, g3, g4⟩
      · exact .inl (Nat.le_trans I.hsize g)
      · obtain ⟨q1, q2⟩ := res_some g3
        by_cases cy : y < s0.n
        · have hl0 : Live s0.h y := by
            rcases (hXl y g2).2 with g | ⟨k, k1, k2, k3, k4⟩
            · exact I.old y cy g
            · have := h.ahead (i := k) (by have := I.lt k (hm k k1); omega); omega
          exact .inr ⟨y, q, g1, hl0, by rw [← I.same y cy]; exact q2, g4⟩
        · rcases I.fresh y q (by omega) q2 with g | ⟨j, q', e1, e2, e3, e4⟩
          · exact .inl (by omega)
          · exact .inr ⟨j, q', e1, e2, e3, by omega⟩
    · rw [grow_out c] at hp
      exact I.fresh x p hx' hp
  · intro x hx' hlx
    rcases (hXl x (hx.old x (show x < (D i).n by omega) hlx)).2 with g | ⟨k, k1, k2, k3, k4⟩
    · exact I.old x hx' g
    · have := h.ahead (i := k) (by have := I.lt k (hm k k1); omega); omega
/-- The invariant at the memory of those that are done. -/
abbrev At (lo nt : Nat) (ops : Array Oper) (s0 : St) (fr0 : Tr AV) (D : Nat → DSt) (V : Nat → AV) (R : Nat → Rec) (β0 : Beta) (w0 : World) (L : Nat → Bool) (a : Act) (w : World) (β : Beta) : Prop :=
  Inv lo nt ops s0 fr0 D V R β0 w0 (D (topW R L ops.size)).core (D (topW R L ops.size)).n L a w β
theorem topW_add_calm {i : Nat} (hw : isW (R i) = false) : topW R (add L i) ops.size = topW R L ops.size :=
  topW_same fun j _ hj => by
    have : j ≠ i := fun e => by rw [e, hw] at hj; cases hj
    simp [add, this]
theorem Plan.topW_add (h : Plan P lo nt ih ops s0 fr0 D V R) (hd : Down R L) {i : Nat} (hi : i < ops.size) (hn : L i = false) (hw : isW (R i) = true) : topW R (add L i) ops.size = i + 1 := by
  have h1 : topW R (add L i) ops.size = topW R (add L i) (i + 1) := by
    refine topW_cut (by omega) ?_
    intro k hik hk ⟨hl, hwk⟩
    have hl' : L k = true := (add_of.1 hl).resolve_right (by omega)
    have := hd k i hl' (h.passed hk (by omega) hwk hw)
    rw [hn] at this; cases this
  rw [h1, topW, if_pos ⟨by simp [add], hw⟩]
theorem Inv.heldi (I : Inv lo nt ops s0 fr0 D V R β0 w0 C n L a w β) {i : Nat} (hn : L i = false) : Nat.testBit C.held i = false := by
  cases hc : Nat.testBit C.held i with
  | false => rfl
  | true => have := I.held i hc; rw [hn] at this; cases this
/-- One operation, at whatever time its turn comes. -/
theorem one_op (hcall : CallOk P ih) (h : Plan P lo nt ih ops s0 fr0 D V R) (hg : Globs P β0) (hg0 : ∀ g, g < P.globals.size → g < s0.n) (I : At lo nt ops s0 fr0 D V R β0 w0 L a w β) {i : Nat} (hi : i < ops.size) (hn : L i = false) (hm : ∀ j, Nat.testBit (R i).mask j = true → L j = true)
    {K : Act → World → Prop} {Q : Exit → Act → World → Prop} (hK : ∀ a' w' β', At lo nt ops s0 fr0 D V R β0 w0 (add L i) a' w' β' → K a' w') : wpOp P ops Q i K a w := by
  have hst := h.step hi
  have hsees := I.sees h hi hn hm
  have hops := I.opsRep h hg hg0 hi hn hm
  have hopi : ops[i]? = some ops[i] := by simp [hi]
  unfold wpOp
  rw [hopi]
  simp only
  have hdead : Sit (res β (D i).n) ⟨.lf, (D i).n⟩ w :=
    ⟨(fun x b e => (by rw [get_lf] at e; cases e)), (fun x y p q hx => (by obtain ⟨b, e⟩ := hx; rw [get_lf] at e; cases e)), fun x p hp => ⟨(res_some hp).1, (I.low x p (res_some hp).2).1⟩⟩
  cases hst.how with
  | skip hw hv hr hc hnn =>
    have hwk : isW (R i) = false := by simp [isW, hr.2]
    rw [if_neg (by rw [wanted_at hsees hw]; simp)]
    refine hK _ _ (grow β (res β (D i).n) (D i).n (D (i + 1)).n) ?_
    unfold At
    rw [topW_add_calm hwk]
    refine I.calm h hi hn hm (β1 := res β (D i).n) (w1 := w) (u := undef) (fun _ _ => rfl) (fun x p hp => ⟨by rw [hnn]; exact (res_some hp).1, (I.low x p (res_some hp).2).1⟩) rfl rfl rfl (Nat.le_refl _) (fun _ _ => rfl) (fun x p hx hp => by have := (res_some hp).1; omega) (fun x b hx => by rw [hr.1] at hx; cases hx) (fun x y p q b c hx => by rw [hr.1] at hx; cases hx) ?_ (I.heldi hn)
    rw [hv]; exact ⟨#[], rfl, rfl⟩
  | calm s' hw he hr hc hnn hle =>
    have hwk : isW (R i) = false := by simp [isW, hr.2]
    rw [if_pos (wanted_at hsees hw)]
    refine .inl ?_
    obtain ⟨u, w1, β1, q1, q2, q3⟩ := evOp_ok hdead (dst := ops[i].dst) (ty := ops[i].type) (pos := ops[i].pos) (after := ops[i].after) (guard := ops[i].guard) hops he
    have fin : K (a.put ops[i].dst u) w1 := by
      refine hK _ _ (grow β β1 (D i).n (D (i + 1)).n) ?_
      unfold At
      rw [topW_add_calm hwk]
      have hnew : ∀ x p, (D i).n ≤ x → β1 x = some p → w.heap.size ≤ p.1 := fun x p hx hp => by
        rcases q2.new x p hx hp with g | ⟨j, q, _, hl, _⟩
        · exact g
        · obtain ⟨b, e⟩ := hl; rw [get_lf] at e; cases e
      refine I.calm h hi hn hm (β1 := β1) (w1 := w1) (u := u) (fun x hx => q2.same x hx) (fun x p hp => by rw [hnn]; exact q2.sit.low x p hp) q2.os q2.tape q2.output q2.size ?_ hnew ?_ ?_ q3 (I.heldi hn)
      · intro b hb
        refine q2.keep b hb ?_
        intro x p _ hl
        obtain ⟨c, e⟩ := hl; rw [get_lf] at e; cases e
      · intro x b hx
        rw [hr.1] at hx
        obtain ⟨g1, g2, g3⟩ := newsOf_mem hx
        obtain ⟨p, hp, hb⟩ := q2.sit.blk x b g3
        exact ⟨g1, by rw [hnn]; omega, p, hp, hb⟩
      · intro x y p q b c hx hy hp hq hpq
        rw [hr.1] at hx hy
        exact q2.sit.inj x y p q ⟨b, (newsOf_mem hx).2.2⟩ ⟨c, (newsOf_mem hy).2.2⟩ hp hq hpq
    unfold Oper.wp
    rcases q1 with q1 | ⟨q1, rfl⟩
    · exact (congrArg (fun r => Oper.upon P ops[i] a K Q r) q1).mpr fin
    · exact (congrArg (fun r => Oper.upon P ops[i] a K Q r) q1).mpr fin
  | look t x b off hw ho hx hl hb hr hc hnn =>
    have hwk : isW (R i) = false := by simp [isW, hr.2]
    rw [if_pos (wanted_at hsees hw)]
    refine .inl ?_
    obtain ⟨m, nn, hmN, him, hat⟩ := h.look_at I.down hi hn hm hr.2 hl
    have hT : (D (topW R L ops.size)).n ≤ (D ops.size).n := h.nle (topW_le _) (Nat.le_refl _)
    obtain ⟨hX, _⟩ := I.sub h (mask := (R i).mask) (m := m) (N := (D ops.size).n) (fun j hj => ⟨hm j hj, h.nle (by have := h.mask_lt hi hj; omega) (Nat.le_refl _)⟩) hT
    unfold lookAt at hat
    split at hat
    case h_2 => cases hat
    case h_1 ii hti =>
    have hax : Rep (res β (D i).n) (.ptr b off) (a.eval x) := hops x (by rw [ho]; simp [Op.operands]) _ hx
    have hld : loadAt ⟨memOf (D (topW R L ops.size)).core.h (D (topW R L ops.size)).core.held (R i).mask ((List.range m).map R) 0, (D ops.size).n⟩ ii b off = some (V i) := hat
    obtain ⟨u, q1, q2⟩ := load_ok (P := P) hX hti (hax.mono' (res_mono (Beta.le_refl β) (h.nle (by omega) (Nat.le_refl _)))) hld
    have q3 : Rep (res β (D i).n) (V i) u := below_rep hb (q2.mono' (res_le β _))
    have hrun : (execOp a.eval ops[i]).run P w = .ok (.value u) w := by
      have e : execOp a.eval ops[i] = (do pure (Next.value (← Instr.loadAt t (a.eval x)))) := by
        unfold execOp
        rw [ho]
      rw [e, Sem.run_bind, q1]
      rfl
    unfold Oper.wp
    rw [hrun]
    refine hK _ _ (grow β (res β (D i).n) (D i).n (D (i + 1)).n) ?_
    unfold At
    rw [topW_add_calm hwk]
    exact I.calm h hi hn hm (β1 := res β (D i).n) (w1 := w) (u := u) (fun _ _ => rfl) (fun x p hp => ⟨by rw [hnn]; exact (res_some hp).1, (I.low x p (res_some hp).2).1⟩) rfl rfl rfl (Nat.le_refl _) (fun _ _ => rfl) (fun x p hx hp => by have := (res_some hp).1; omega) (fun x b hx => by rw [hr.1] at hx; cases hx) (fun x y p q b c hx => by rw [hr.1] at hx; cases hx) q3 (I.heldi hn)
  | writes s' hw ha he hr hc hnn hle hs =>
    have hwk : isW (R i) = true := by simp [isW, hr.2]
    rw [if_pos (wanted_at hsees hw)]
    refine .inl ?_
    obtain ⟨hTi, hcore⟩ := h.top_writes I.down hi hn hm hwk
    have hTn : (D (topW R L ops.size)).n ≤ (D i).n := h.nle hTi (by omega)
    have hX := (I.sub h (mask := (R i).mask) (m := i) (N := (D i).n) (fun j hj => ⟨hm j hj, h.nle (by have := h.mask_lt hi hj; omega) (by omega)⟩) hTn).1
    rw [h.recs i (by omega), ← hcore] at he
    have hgl : Globs P (res β (D i).n) := fun g hgg => by
      obtain ⟨t, e⟩ := hg g hgg
      have := hg0 g hgg
      have := h.ahead (i := i) (by omega)
      exact ⟨t, res_of (by omega) (by rw [I.same g (by omega)]; exact e)⟩
    refine evOper_ok hcall hX hgl hops he ?_
    intro u w1 β1 hx hv
    refine hK _ _ (grow β β1 (D i).n (D (i + 1)).n) ?_
    have hI := I.wrote h hi hn hm hTn hx hnn.symm hv hr.1
    unfold At
    rw [h.topW_add I.down hi hn hwk]
    have e : (D (i + 1)).core = ⟨s'.h, Nat.lor (Nat.lor (D (topW R L ops.size)).core.held (R i).mask) (2 ^ i)⟩ := by
      have : (D (i + 1)).core = ⟨s'.h, Nat.lor (Nat.lor (D i).core.held (R i).mask) (2 ^ (D i).recs.length)⟩ := by simp only [DSt.core, hc]
      rw [this, hcore, h.len (by omega)]
    rw [e]
    exact hI
/-- The whole region, from whatever part of it. -/
theorem all_ops (hcall : CallOk P ih) (h : Plan P lo nt ih ops s0 fr0 D V R) (hg : Globs P β0) (hg0 : ∀ g, g < P.globals.size → g < s0.n) {Q : Exit → Act → World → Prop}
    (hQ : ∀ L a w β, (∀ i, i < ops.size → L i = true) → At lo nt ops s0 fr0 D V R β0 w0 L a w β → Q .normal a w) : ∀ (fuel : Nat) (listed : Array Bool) (L : Nat → Bool) (a : Act) (w : World) (β : Beta), listed.size = ops.size → (∀ i, i < ops.size → listed.getD i false = L i) →
    ((List.range ops.size).filter fun i => !L i).length ≤ fuel → At lo nt ops s0 fr0 D V R β0 w0 L a w β → wpAny P .any ops Q fuel listed a w := by
  -- where none is ready all are done
  have stuck : ∀ (listed : Array Bool) (L : Nat → Bool), listed.size = ops.size → (∀ i, i < ops.size → listed.getD i false = L i) → Region.ready .any ops listed = [] → ∀ i, i < ops.size → L i = true := by
    intro listed L hsz hL hr i
    induction i using Nat.strongRecOn with
    | _ i ihi =>
      intro hi
      cases hc : L i with
      | true => rfl
      | false =>
        have : i ∈ Region.ready .any ops listed := by
          unfold Region.ready
          rw [List.mem_filter]
          refine ⟨List.mem_range.2 hi, ?_⟩
          have e1 : listed.getD i true = false := by
            have := hL i hi
            rw [hc] at this
            rw [Array.getD_eq_getD_getElem?] at this ⊢
            rw [Array.getElem?_eq_getElem (by omega)] at this ⊢
            exact this
          have e2 : ops[i]? = some ops[i] := by simp [hi]
          rw [e1, e2]
          simp only [Bool.not_false, Option.map_some, Option.getD_some, Bool.true_and]
          rw [Array.all_eq_true']
          intro e he
          cases hb : Region.binds .any e with
          | false => rfl
          | true =>
            have hbit := h.edge hi (Array.mem_toList_iff.2 he) hb
            have hlt := h.mask_lt hi hbit
            rw [hL e.on (by omega), ihi e.on hlt (by omega)]
            rfl
        rw [hr] at this
        cases this
  intro fuel
  induction fuel with
  | zero =>
    intro listed L a w β hsz hL hcount I
    have hall : ∀ i, i < ops.size → L i = true := by
      intro i hi
      cases hc : L i with
      | true => rfl
      | false =>
        have : i ∈ (List.range ops.size).filter fun i => !L i := List.mem_filter.2 ⟨List.mem_range.2 hi, by rw [hc]; rfl⟩
        have := List.length_pos_of_mem this
        omega
    refine ⟨?_, hQ L a w β hall I⟩
    unfold Region.ready
    rw [List.filter_eq_nil_iff]
    intro i hi
    have hi' := List.mem_range.1 hi
    have e1 : listed.getD i true = true := by
      have := hL i hi'
      rw [hall i hi', Array.getD_eq_getD_getElem?] at this
      rw [Array.getD_eq_getD_getElem?]
      rw [Array.getElem?_eq_getElem (by omega)] at this ⊢
      exact this
    rw [e1]
    simp
  | succ fuel ihf =>
    intro listed L a w β hsz hL hcount I
    refine ⟨fun hr => hQ L a w β (stuck listed L hsz hL hr) I, ?_⟩
    intro i hir
    unfold Region.ready at hir
    rw [List.mem_filter] at hir
    obtain ⟨hi, hcond⟩ := hir
    have hi := List.mem_range.1 hi
    have e2 : ops[i]? = some ops[i] := by simp [hi]
    rw [e2] at hcond
    simp only [Option.map_some, Option.getD_some, Bool.and_eq_true, Bool.not_eq_true'] at hcond
    obtain ⟨c1, c2⟩ := hcond
    rw [Array.all_eq_true'] at c2
    have hn : L i = false := by
      rw [← hL i hi]
      rw [Array.getD_eq_getD_getElem?] at c1 ⊢
      rw [Array.getElem?_eq_getElem (by omega)] at c1 ⊢
      exact c1
    have hm : ∀ j, Nat.testBit (R i).mask j = true → L j = true := by
      intro j hj
      obtain ⟨e, he, hb, hlt, h4⟩ := h.mask_of hi hj
      have := c2 e (Array.mem_toList_iff.1 he)
      rw [hb] at this
      simp only [Bool.not_true, Bool.false_or] at this
      rw [hL e.on (by omega)] at this
      rcases h4 with h4 | h4
      · rw [← h4]; exact this
      · exact I.down e.on j this h4
    refine one_op hcall h hg hg0 I hi hn hm ?_
    intro a' w' β' I'
    refine ihf _ (add L i) a' w' β' (by simp [hsz]) ?_ ?_ I'
    · intro j hj
      rw [Array.getD_eq_getD_getElem?, Array.getElem?_setIfInBounds]
      by_cases e : i = j
      · subst e
        rw [if_pos rfl, if_pos (by omega)]
        simp [add]
      · rw [if_neg e, ← Array.getD_eq_getD_getElem?, hL j hj]
        have : (j == i) = false := by simpa using fun g => e g.symm
        simp [add, this]
    · have hlt : ((List.range ops.size).filter fun x => !add L i x).length < ((List.range ops.size).filter fun x => !L x).length := by
        have e : ((List.range ops.size).filter fun x => !add L i x) = ((List.range ops.size).filter fun x => !L x).filter fun x => !(x == i) := by
          rw [List.filter_filter]
          congr 1
          funext x
          simp [add, Bool.not_or, Bool.and_comm]
        rw [e]
        refine List.length_filter_lt_length_iff_exists.2 ⟨i, List.mem_filter.2 ⟨List.mem_range.2 hi, by rw [hn]; rfl⟩, by simp⟩
      omega
end
section
variable {P : Program} {β : Beta} {w : World} {s : St} {lo nt : Nat} {fr : Tr AV} {a : Act}
theorem draw_ok {ih : Nat → Job → Option Out} (hcall : CallOk P ih) (hm : P.follows .mixedOrders = true) {id : Nat} {ops : Array Oper} {e : Ex} {fr' : Tr AV} {s' : St} (h : evOpen P lo nt ih ops fr s = some (.code e fr' s')) (hs : Sit β s w) (hg : Globs P β) (hf : FRep β nt fr a)
    {Q : Exit → Act → World → Prop} (hQ : ∀ a' w' β', Ext lo β s w β' s' w' → FRep β' nt fr' a' → Q (exOf e) a' w') : (Code.region id ops true).wp P Q a w := by
  unfold evOpen at h
  split at h
  case h_2 => cases h
  case h_1 pl hpl =>
  obtain ⟨D, V, R, hd, hst, rfl, rfl, rfl⟩ := trace_of _ pl _ _ _ _ hpl h
  rw [forceN_eq] at hd
  have hp : Plan P lo nt ih ops s fr D V R := ⟨hd, hst⟩
  have hresβ : res β s.n = β := by
    funext i
    unfold res
    by_cases c : i < s.n
    · rw [if_pos c]
    · rw [if_neg c]
      cases hc : β i with
      | none => rfl
      | some p => exact absurd (hs.low i p hc).1 c
  have hg0 : ∀ g, g < P.globals.size → g < s.n := fun g hgg => by obtain ⟨t, e⟩ := hg g hgg; exact (hs.low g _ e).1
  have hs' : Sit β s { w with drawn := w.drawn + 1 } := ⟨hs.blk, hs.inj, hs.low⟩
  have none_ : ∀ k t, writer ops (fun _ => false) t k = none := by
    intro k t
    induction k with
    | zero => rfl
    | succ k ihk => simp only [writer, Bool.false_eq_true, false_and, if_false]; exact ihk
  have top0 : ∀ k, topW R (fun _ => false) k = 0 := by
    intro k
    induction k with
    | zero => rfl
    | succ k ihk => simp only [topW, Bool.false_eq_true, false_and, if_false]; exact ihk
  have I0 : At lo nt ops s fr D V R β { w with drawn := w.drawn + 1 } (fun _ => false) a { w with drawn := w.drawn + 1 } β := by
    unfold At
    rw [top0, hd]
    refine ⟨(fun i j hi => (by cases hi)), (fun i hi => (by cases hi)), hf.size, hf.defers, ?_, ?_, ?_, ?_, (fun j hj => (by cases hj)), ?_, fun i p hi => ⟨(hs.low i p hi).2, .inl (hs.low i p hi).1⟩, fun _ _ => rfl, rfl, rfl, rfl, Nat.le_refl _, fun _ _ _ => rfl, fun i p hi hpi => absurd (hs.low i p hpi).1 (by omega), fun _ _ h => h⟩
    · intro t
      rw [none_]
      show Rep (res β s.n) (slotV (fr.get (path t))) _
      rw [hresβ]; exact hf.at_ t
    · rw [hresβ]; exact hs'
    · intro j hj; simp [DSt.core] at hj
    · rintro i ⟨b, hb⟩
      obtain ⟨p, hpi, _⟩ := hs.blk i b hb
      exact .inl (hs.low i p hpi).1
    · intro i j p q hi hj hpi hq hpq
      rcases hi with hi | ⟨_, _, c, _⟩
      · rcases hj with hj | ⟨_, _, c, _⟩
        · exact hs.inj i j p q hi hj hpi hq hpq
        · cases c
      · cases c
  refine wp_region_any hm (all_ops hcall hp hg hg0 ?_ ops.size (Array.replicate ops.size false) (fun _ => false) a _ β (by simp) (fun i hi => by simp [Array.getD_eq_getD_getElem?, hi]) ?_ I0)
  · intro L a' w' β' hall I
    have hlen : (D ops.toList.length).recs = (List.range ops.size).map R := by rw [Array.length_toList]; exact hp.recs _ (Nat.le_refl _)
    have htop : (D ops.size).core = (D (topW R L ops.size)).core := by
      rw [hp.core_top ops.size (Nat.le_refl _)]
      congr 2
      exact topW_same fun j hj _ => (hall j hj).symm
    have hT : (D (topW R L ops.size)).n ≤ (D ops.size).n := hp.nle (topW_le _) (Nat.le_refl _)
    obtain ⟨hX, hXl⟩ := I.sub hp (mask := 2 ^ ops.size - 1) (m := ops.size) (N := (D ops.size).n) (fun j hj => by
      have hjn : j < ops.size := by rw [Nat.testBit_two_pow_sub_one] at hj; simpa using hj
      exact ⟨hall j hjn, hp.nle (by omega) (Nat.le_refl _)⟩) hT
    have hmem : memOf (D ops.toList.length).core.h (D ops.toList.length).core.held (2 ^ (D ops.toList.length).recs.length - 1) (D ops.toList.length).recs 0 = memOf (D (topW R L ops.size)).core.h (D (topW R L ops.size)).core.held (2 ^ ops.size - 1) ((List.range ops.size).map R) 0 := by
      rw [hlen]
      simp only [Array.length_toList, List.length_map, List.length_range, htop]
    refine hQ a' w' (res β' (D ops.size).n) ?_ ?_
    · rw [hmem]
      simp only [Array.length_toList]
      refine ⟨hX, I.os, I.tape, I.output, I.hsize, ?_, hp.ahead (Nat.le_refl _), I.keep, fun i p hi hpi => I.fresh i p hi (res_some hpi).2, ?_⟩
      · intro i hi
        have := hp.ahead (i := ops.size) (Nat.le_refl _)
        unfold res
        rw [if_pos (by omega)]
        exact I.same i hi
      · intro i hi hl
        rcases (hXl i hl).2 with g | ⟨k, k1, k2, k3, k4⟩
        · exact I.old i hi g
        · have hkn : k < ops.size := by rw [Nat.testBit_two_pow_sub_one] at k1; simpa using k1
          have := hp.ahead (i := k) (by omega); omega
    · refine ⟨I.size, I.defers, fun t => ?_⟩
      have hv := I.vals t
      have hwr : writer ops L t ops.size = writer ops (fun _ => true) t ops.size := writer_same fun j hj _ => hall j hj
      rw [hwr] at hv
      simp only [Array.length_toList]
      rw [hp.frame t ops.size (Nat.le_refl _)]
      cases hw : writer ops (fun _ => true) t ops.size with
      | none => rw [hw] at hv; exact Rep.mono' hv (res_mono (Beta.le_refl β') (hp.ahead (Nat.le_refl _)))
      | some j =>
        rw [hw] at hv
        have := writer_lt hw
        exact Rep.mono' hv (res_mono (Beta.le_refl β') (hp.nle (by omega) (Nat.le_refl _)))
  · refine Nat.le_trans (List.length_filter_le _ _) ?_
    simp
end
end Ev
end Go.Proofs.Ytnelncafocgfhaa
