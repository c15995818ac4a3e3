/- A region whose order is open, as a plan: what holds whatever part of it has been done. -/
import Derived.Test.YtnelncafocgfhaaEvDraw
namespace Go.Proofs.Ytnelncafocgfhaa
open Go.RowKit
namespace Ev
set_option linter.unusedSectionVars false
variable [Env]
structure Plan (P : Program) (lo nt : Nat) (ih : Nat → Job → Option Out) (ops : Array Oper) (s0 : St) (fr0 : Tr AV) (D : Nat → DSt) (V : Nat → AV) (R : Nat → Rec) : Prop where
  d0 : D 0 = ⟨[], [], [⟨s0.h, 0⟩], fr0, s0.n⟩
  st : ∀ k o, ops.toList[k]? = some o → StepC P lo nt ih ops o (D k) (D (k + 1)) (V k) (R k)
section
variable {P : Program} {lo nt : Nat} {ih : Nat → Job → Option Out} {ops : Array Oper} {s0 : St} {fr0 : Tr AV} {D : Nat → DSt} {V : Nat → AV} {R : Nat → Rec}
theorem op_some {k : Nat} (hk : k < ops.size) : ops.toList[k]? = some ops[k] := by simp [hk]
theorem Plan.step (h : Plan P lo nt ih ops s0 fr0 D V R) {k : Nat} (hk : k < ops.size) : StepC P lo nt ih ops ops[k] (D k) (D (k + 1)) (V k) (R k) := h.st k _ (op_some hk)
theorem Plan.recs (h : Plan P lo nt ih ops s0 fr0 D V R) : ∀ k, k ≤ ops.size → (D k).recs = (List.range k).map R
  | 0, _ => by rw [h.d0]; rfl
  | k + 1, hk => by rw [(h.step (k := k) (by omega)).recs, h.recs k (by omega), List.range_succ, List.map_append]; rfl
theorem Plan.len (h : Plan P lo nt ih ops s0 fr0 D V R) {k : Nat} (hk : k ≤ ops.size) : (D k).recs.length = k := by rw [h.recs k hk]; simp
theorem Plan.rec_at (h : Plan P lo nt ih ops s0 fr0 D V R) {k j : Nat} (hk : k ≤ ops.size) (hj : j < k) : (D k).recs[j]? = some (R j) := by rw [h.recs k hk]; simp [hj]
theorem Plan.done (h : Plan P lo nt ih ops s0 fr0 D V R) : ∀ k, k ≤ ops.size → (D k).done = ops.toList.take k
  | 0, _ => by rw [h.d0]; rfl
  | k + 1, hk => by
    rw [(h.step (k := k) (by omega)).done, h.done k (by omega)]
    have hk' : k < ops.toList.length := by rw [Array.length_toList]; omega
    rw [List.take_succ_eq_append_getElem hk']
    simp
theorem Plan.n1 (h : Plan P lo nt ih ops s0 fr0 D V R) {k : Nat} (hk : k < ops.size) : (D k).n ≤ (D (k + 1)).n := by
  cases (h.step hk).how with
  | skip _ _ _ _ hn => omega
  | calm _ _ _ _ _ hn hle => omega
  | look _ _ _ _ _ _ _ _ _ _ _ hn => omega
  | writes _ _ _ _ _ _ hn hle _ => omega
theorem Plan.nle (h : Plan P lo nt ih ops s0 fr0 D V R) {j : Nat} : ∀ {k : Nat}, j ≤ k → k ≤ ops.size → (D j).n ≤ (D k).n
  | 0, hj, _ => by obtain rfl : j = 0 := by omega
                   exact Nat.le_refl _
  | k + 1, hj, hk => by
    by_cases e : j = k + 1
    · rw [e]; exact Nat.le_refl _
    · exact Nat.le_trans (h.nle (k := k) (by omega) (by omega)) (h.n1 (by omega))
theorem Plan.n0 (h : Plan P lo nt ih ops s0 fr0 D V R) : (D 0).n = s0.n := by rw [h.d0]
theorem Plan.mask_lt (h : Plan P lo nt ih ops s0 fr0 D V R) {k j : Nat} (hk : k < ops.size) (hj : Nat.testBit (R k).mask j = true) : j < k := by
  have := (h.step hk).lt
  rw [h.len (by omega)] at this
  exact testBit_lt this hj
theorem Plan.edge (h : Plan P lo nt ih ops s0 fr0 D V R) {k : Nat} (hk : k < ops.size) {e : Edge} (he : e ∈ ops[k].after.toList) (hb : Region.binds .any e = true) : Nat.testBit (R k).mask e.on = true := by
  rw [(h.step hk).mask]; exact (maskOf_mem he hb).1
theorem Plan.mask_of (h : Plan P lo nt ih ops s0 fr0 D V R) {k j : Nat} (hk : k < ops.size) (hj : Nat.testBit (R k).mask j = true) :
    ∃ e ∈ ops[k].after.toList, Region.binds .any e = true ∧ e.on < k ∧ (e.on = j ∨ Nat.testBit (R e.on).mask j = true) := by
  have hj' := hj
  rw [(h.step hk).mask] at hj'
  obtain ⟨e, h1, h2, h3⟩ := maskOf_of hj'
  have hlt := h.mask_lt hk (h.edge hk h1 h2)
  refine ⟨e, h1, h2, hlt, h3.imp id fun g => ?_⟩
  rw [recMask_eq, List.getElem?_map, h.rec_at (by omega) hlt] at g
  exact g
theorem Plan.closed (h : Plan P lo nt ih ops s0 fr0 D V R) : ∀ (k j i : Nat), k < ops.size → Nat.testBit (R k).mask j = true → Nat.testBit (R j).mask i = true → Nat.testBit (R k).mask i = true := by
  intro k
  induction k using Nat.strongRecOn with
  | _ k ihk =>
    intro j i hk hj hi
    obtain ⟨e, h1, h2, h3, h4⟩ := h.mask_of hk hj
    have hsub : ∀ x, Nat.testBit (R e.on).mask x = true → Nat.testBit (R k).mask x = true := fun x hx => by
      rw [(h.step hk).mask]
      refine (maskOf_mem h1 h2).2 x ?_
      rw [recMask_eq, List.getElem?_map, h.rec_at (by omega) h3]
      exact hx
    rcases h4 with h4 | h4
    · rw [← h4] at hi; exact hsub i hi
    · exact hsub i (ihk e.on h3 j i (by omega) h4 hi)
theorem Plan.apart (h : Plan P lo nt ih ops s0 fr0 D V R) {k j : Nat} (hk : k < ops.size) (hj : j < k) : Nat.testBit (R k).mask j = true ∨ ops[k].apart ops ops[j] = true := by
  have ha := (h.step hk).apart
  have := allApart_at ha j ops[j] (by rw [h.done k (by omega)]; simp [hj])
  simpa using this
/-! Who wrote a slot last. -/
def dstAt (ops : Array Oper) (k : Nat) : Option Tmp := (ops[k]?).bind (·.dst)
def writer (ops : Array Oper) (L : Nat → Bool) (t : Tmp) : Nat → Option Nat
  | 0 => none
  | k + 1 => if L k = true ∧ dstAt ops k = some t then some k else writer ops L t k
theorem writer_lt {L : Nat → Bool} {t : Tmp} : ∀ {k j : Nat}, writer ops L t k = some j → j < k ∧ L j = true ∧ dstAt ops j = some t
  | k + 1, j, h => by
    simp only [writer] at h
    by_cases c : L k = true ∧ dstAt ops k = some t
    · rw [if_pos c] at h; cases h; exact ⟨by omega, c⟩
    · rw [if_neg c] at h; have := writer_lt h; exact ⟨by omega, this.2⟩
theorem writer_cut {L : Nat → Bool} {t : Tmp} {i : Nat} : ∀ {k : Nat}, i ≤ k → (∀ j, i ≤ j → j < k → ¬ (L j = true ∧ dstAt ops j = some t)) → writer ops L t k = writer ops L t i
  | 0, hi, _ => by obtain rfl : i = 0 := by omega
                   rfl
  | k + 1, hi, h => by
    by_cases e : i = k + 1
    · rw [e]
    · rw [writer, if_neg (h k (by omega) (by omega)), writer_cut (k := k) (by omega) fun j a b => h j a (by omega)]
theorem writer_same {L M : Nat → Bool} {t : Tmp} : ∀ {k : Nat}, (∀ j, j < k → dstAt ops j = some t → L j = M j) → writer ops L t k = writer ops M t k
  | 0, _ => rfl
  | k + 1, h => by
    have ih := writer_same (L := L) (M := M) (t := t) (k := k) fun j hj => h j (by omega)
    by_cases c : dstAt ops k = some t
    · simp only [writer, h k (by omega) c, ih]
    · simp only [writer, c, and_false, if_false, ih]
theorem put_get {nt : Nat} {fr fr' : Tr AV} {dst : Option Tmp} {v : AV} (h : put nt fr dst v = some fr') (t : Tmp) : fr'.get (path t) = if dst = some t then some v else fr.get (path t) := by
  cases dst with
  | none => cases h; simp
  | some d =>
    simp only [put] at h
    rw [Bool.cond_eq_ite] at h
    split at h
    case isFalse => cases h
    case isTrue => 
      cases h
      rw [get_put]
      by_cases e : t = d
      · simp [e]
      · have : ¬ (some d = some t) := fun g => e (by cases g; rfl)
        rw [if_neg e, if_neg this]
theorem put_lt {nt : Nat} {fr fr' : Tr AV} {d : Tmp} {v : AV} (h : put nt fr (some d) v = some fr') : d < nt := by
  simp only [put] at h
  rw [Bool.cond_eq_ite] at h
  split at h
  case isFalse => cases h
  case isTrue c => 
    have : d + 1 ≤ nt := by simpa [Nat.blt, Nat.ble_eq] using c
    exact this
theorem Plan.frame (h : Plan P lo nt ih ops s0 fr0 D V R) (t : Tmp) : ∀ k, k ≤ ops.size → (D k).fr.get (path t) = (match writer ops (fun _ => true) t k with | some j => some (V j) | none => fr0.get (path t))
  | 0, _ => by rw [h.d0]; rfl
  | k + 1, hk => by
    rw [put_get (h.step (k := k) (by omega)).fr, writer]
    have e : dstAt ops k = ops[k].dst := by simp [dstAt, show k < ops.size by omega]
    by_cases c : dstAt ops k = some t
    · rw [if_pos (by rw [← e]; exact c), if_pos ⟨rfl, c⟩]
    · rw [if_neg (by rw [← e]; exact c), if_neg (fun g => c g.2)]
      exact h.frame t k (by omega)
def Down (R : Nat → Rec) (L : Nat → Bool) : Prop := ∀ i j, L i = true → Nat.testBit (R i).mask j = true → L j = true
/-- What an operation looks at was written, last, by whom the text says. -/
theorem Plan.sees (h : Plan P lo nt ih ops s0 fr0 D V R) {L : Nat → Bool} (hd : Down R L) {i : Nat} (hi : i < ops.size) (hn : L i = false) (hm : ∀ j, Nat.testBit (R i).mask j = true → L j = true) {t : Tmp} (ht : t ∈ ops[i].looksAt ops) :
    writer ops L t ops.size = writer ops (fun _ => true) t i := by
  have h1 : writer ops L t ops.size = writer ops L t i := by
    refine writer_cut (by omega) ?_
    intro k hik hk ⟨hl, hdst⟩
    have hne : k ≠ i := fun e => by rw [e, hn] at hl; cases hl
    rcases h.apart hk (show i < k by omega) with g | g
    · rw [hd k i hl g] at hn; cases hn
    · have hdk : ops[k].dst = some t := by simpa [dstAt, hk] using hdst
      exact (Oper.apart_spec g).1 t hdk ht
  rw [h1]
  refine writer_same ?_
  intro j hj hdst
  rcases h.apart hi hj with g | g
  · exact hm j g
  · have hdj : ops[j].dst = some t := by simpa [dstAt, show j < ops.size by omega] using hdst
    exact absurd ht ((Oper.apart_spec g).2.2 t hdj)
def add (L : Nat → Bool) (i : Nat) : Nat → Bool := fun j => L j || j == i
theorem add_of {L : Nat → Bool} {i j : Nat} : add L i j = true ↔ L j = true ∨ j = i := by simp [add]
theorem Plan.wrote (h : Plan P lo nt ih ops s0 fr0 D V R) {L : Nat → Bool} (hd : Down R L) {i : Nat} (hi : i < ops.size) (hn : L i = false) (t : Tmp) :
    writer ops (add L i) t ops.size = if ops[i].dst = some t then some i else writer ops L t ops.size := by
  have hdi : dstAt ops i = ops[i].dst := by simp [dstAt, hi]
  by_cases c : ops[i].dst = some t
  · rw [if_pos c]
    have h1 : writer ops (add L i) t ops.size = writer ops (add L i) t (i + 1) := by
      refine writer_cut (by omega) ?_
      intro k hik hk ⟨hl, hdst⟩
      have hne : k ≠ i := by omega
      have hl' : L k = true := by simpa [add, hne] using hl
      rcases h.apart hk (show i < k by omega) with g | g
      · rw [hd k i hl' g] at hn; cases hn
      · have hdk : ops[k].dst = some t := by simpa [dstAt, hk] using hdst
        exact (Oper.apart_spec g).2.1 t hdk c
    rw [h1, writer, if_pos ⟨by simp [add], by rw [hdi]; exact c⟩]
  · rw [if_neg c]
    refine writer_same ?_
    intro j _ hdst
    have : j ≠ i := fun e => c (by rw [← hdi, ← e]; exact hdst)
    simp [add, this]
/-! The memories on the way. -/
def isW (r : Rec) : Bool := match r.kind with | .writes => true | _ => false
def topW (R : Nat → Rec) (L : Nat → Bool) : Nat → Nat
  | 0 => 0
  | k + 1 => if L k = true ∧ isW (R k) = true then k + 1 else topW R L k
theorem topW_le {L : Nat → Bool} : ∀ k, topW R L k ≤ k
  | 0 => Nat.le_refl _
  | k + 1 => by
    simp only [topW]
    by_cases c : L k = true ∧ isW (R k) = true
    · rw [if_pos c]; exact Nat.le_refl _
    · rw [if_neg c]; have := topW_le (L := L) k; omega
theorem topW_cut {L : Nat → Bool} {i : Nat} : ∀ {k : Nat}, i ≤ k → (∀ j, i ≤ j → j < k → ¬ (L j = true ∧ isW (R j) = true)) → topW R L k = topW R L i
  | 0, hi, _ => by obtain rfl : i = 0 := by omega
                   rfl
  | k + 1, hi, h => by
    by_cases e : i = k + 1
    · rw [e]
    · rw [topW, if_neg (h k (by omega) (by omega)), topW_cut (k := k) (by omega) fun j a b => h j a (by omega)]
theorem topW_same {L M : Nat → Bool} : ∀ {k : Nat}, (∀ j, j < k → isW (R j) = true → L j = M j) → topW R L k = topW R M k
  | 0, _ => rfl
  | k + 1, h => by
    have ih := topW_same (L := L) (M := M) (k := k) fun j hj => h j (by omega)
    by_cases c : isW (R k) = true
    · simp only [topW, h k (by omega) c, ih]
    · simp only [topW, c, and_false, Bool.false_eq_true, if_false, ih]
theorem topW_pos {L : Nat → Bool} : ∀ {k : Nat}, topW R L k = 0 ∨ ∃ j, topW R L k = j + 1 ∧ j < k ∧ L j = true ∧ isW (R j) = true
  | 0 => .inl rfl
  | k + 1 => by
    simp only [topW]
    by_cases c : L k = true ∧ isW (R k) = true
    · rw [if_pos c]; exact .inr ⟨k, rfl, by omega, c⟩
    · rw [if_neg c]
      rcases topW_pos (L := L) (k := k) with g | ⟨j, g1, g2, g3⟩
      · exact .inl g
      · exact .inr ⟨j, g1, by omega, g3⟩
theorem Plan.core1 (h : Plan P lo nt ih ops s0 fr0 D V R) {k : Nat} (hk : k < ops.size) (hw : isW (R k) = false) : (D (k + 1)).cores = (D k).cores := by
  cases (h.step hk).how with
  | skip _ _ _ hc _ => exact hc
  | calm _ _ _ _ hc _ _ => exact hc
  | look _ _ _ _ _ _ _ _ _ _ hc _ => exact hc
  | writes _ _ _ _ hr _ _ _ _ => simp [isW, hr.2] at hw
theorem Plan.core_top (h : Plan P lo nt ih ops s0 fr0 D V R) : ∀ k, k ≤ ops.size → (D k).core = (D (topW R (fun _ => true) k)).core
  | 0, _ => rfl
  | k + 1, hk => by
    simp only [topW]
    cases hw : isW (R k) with
    | true => simp
    | false =>
      simp only [Bool.false_eq_true, and_false, if_false]
      rw [← h.core_top k (by omega)]
      simp only [DSt.core, h.core1 (by omega) hw]
theorem Plan.passed (h : Plan P lo nt ih ops s0 fr0 D V R) {k i : Nat} (hk : k < ops.size) (hi : i < k) (hwk : isW (R k) = true) (hwi : isW (R i) = true) : Nat.testBit (R k).mask i = true := by
  have hki : (R i).kind = .writes := by
    unfold isW at hwi
    split at hwi
    · assumption
    · cases hwi
  cases (h.step hk).how with
  | skip _ _ hr _ _ => simp [isW, hr.2] at hwk
  | calm _ _ _ hr _ _ _ => simp [isW, hr.2] at hwk
  | look _ _ _ _ _ _ _ _ _ hr _ _ => simp [isW, hr.2] at hwk
  | writes _ _ ha _ _ _ _ _ _ =>
    have := allWrites_at ha i (R i) (h.rec_at (by omega) hi) hki
    simpa using this
/-- At an operation that writes the memory is that of the text. -/
theorem Plan.top_writes (h : Plan P lo nt ih ops s0 fr0 D V R) {L : Nat → Bool} (hd : Down R L) {i : Nat} (hi : i < ops.size) (hn : L i = false) (hm : ∀ j, Nat.testBit (R i).mask j = true → L j = true) (hw : isW (R i) = true) :
    topW R L ops.size ≤ i ∧ (D (topW R L ops.size)).core = (D i).core := by
  have h1 : topW R L ops.size = topW R L i := by
    refine topW_cut (by omega) ?_
    intro k hik hk ⟨hl, hwk⟩
    have hne : k ≠ i := fun e => by rw [e, hn] at hl; cases hl
    have := hd k i hl (h.passed hk (by omega) hwk hw)
    rw [hn] at this; cases this
  have h2 : topW R L i = topW R (fun _ => true) i := topW_same fun j hj hwj => hm j (h.passed hi hj hw hwj)
  rw [h1]
  exact ⟨topW_le i, by rw [h2, h.core_top i (by omega)]⟩
theorem writesIn_append {mask : Nat} {r : Rec} : ∀ {l : List Rec} {k0 : Nat}, writesIn mask (l ++ [r]) k0 = writesIn mask l k0 + (if isW r = true ∧ Nat.testBit mask (k0 + l.length) = true then 1 else 0)
  | [], k0 => by
    obtain ⟨m1, n1, kk⟩ := r
    cases kk <;> simp [writesIn, isW] <;> cases Nat.testBit mask k0 <;> simp
  | x :: l, k0 => by
    have ih := writesIn_append (mask := mask) (r := r) (l := l) (k0 := k0 + 1)
    have e : k0 + 1 + l.length = k0 + (x :: l).length := by simp; omega
    rw [e] at ih
    obtain ⟨m1, n1, kk⟩ := x
    simp only [List.cons_append, writesIn, ih]
    cases kk <;> simp
    cases Nat.testBit mask k0 <;> simp <;> omega
/-- The memory at hand is one of those at which a load was looked at. -/
theorem Plan.mem_cores (h : Plan P lo nt ih ops s0 fr0 D V R) {L : Nat → Bool} {mask : Nat} (hm : ∀ j, Nat.testBit mask j = true → L j = true) : ∀ k, k ≤ ops.size →
    writesIn mask (D k).recs 0 < (D k).cores.length ∧ (D (topW R L k)).core ∈ (D k).cores.take ((D k).cores.length - writesIn mask (D k).recs 0)
  | 0, _ => by rw [h.d0]; simp [writesIn, topW, h.d0, DSt.core]
  | k + 1, hk => by
    have ih := h.mem_cores hm k (by omega)
    have hst := h.step (k := k) (by omega)
    rw [hst.recs, writesIn_append, h.len (by omega), Nat.zero_add]
    cases hw : isW (R k) with
    | false =>
      rw [h.core1 (by omega) hw]
      simp only [Bool.false_eq_true, false_and, if_false, Nat.add_zero, topW, hw, and_false]
      exact ih
    | true =>
      have hcs : (D (k + 1)).cores = (D (k + 1)).core :: (D k).cores := by
        cases hst.how with
        | skip _ _ hr _ _ => simp [isW, hr.2] at hw
        | calm _ _ _ hr _ _ _ => simp [isW, hr.2] at hw
        | look _ _ _ _ _ _ _ _ _ hr _ _ => simp [isW, hr.2] at hw
        | writes _ _ _ _ _ hc _ _ _ => simp only [DSt.core, hc]
      rw [hcs, List.length_cons]
      cases hb : Nat.testBit mask k with
      | true =>
        simp only [and_self, if_true, topW, hm k hb, hw]
        refine ⟨by omega, ?_⟩
        rw [show (D k).cores.length + 1 - (writesIn mask (D k).recs 0 + 1) = ((D k).cores.length - writesIn mask (D k).recs 0 - 1) + 1 by omega, List.take_succ_cons]
        simp
      | false =>
        simp only [Bool.false_eq_true, and_false, if_false, Nat.add_zero]
        refine ⟨by omega, ?_⟩
        rw [show (D k).cores.length + 1 - writesIn mask (D k).recs 0 = ((D k).cores.length - writesIn mask (D k).recs 0) + 1 by omega, List.take_succ_cons]
        simp only [topW, hw, and_true]
        by_cases c : L k = true
        · rw [if_pos c]; simp
        · rw [if_neg c]; exact List.mem_cons_of_mem _ ih.2
/-- What a load reads at the memory at hand. -/
theorem Plan.look_at (h : Plan P lo nt ih ops s0 fr0 D V R) {L : Nat → Bool} (hd : Down R L) {i : Nat} (hi : i < ops.size) (hn : L i = false) (hm : ∀ j, Nat.testBit (R i).mask j = true → L j = true) {t : TypeId} {b off : Nat} {v : AV}
    (hr : (R i).kind = .look ⟨t, b, off, v⟩) (hl : lookFirst P (R i).mask (D i).recs (D i).n t b off ((D i).cores.take ((D i).cores.length - writesIn (R i).mask (D i).recs 0)) = some v) :
    ∃ (m n : Nat), m ≤ ops.size ∧ i ≤ m ∧ lookAt P (D (topW R L ops.size)).core (R i).mask ((List.range m).map R) n t b off = some v := by
  rcases Nat.lt_or_ge i (topW R L ops.size) with g | g
  · rcases topW_pos (R := R) (L := L) (k := ops.size) with e | ⟨k, e, hk, hlk, hwk⟩
    · omega
    · rw [e] at g
      have hne : i ≠ k := fun e' => by rw [e', hlk] at hn; cases hn
      cases (h.step hk).how with
      | skip _ _ hr _ _ => simp [isW, hr.2] at hwk
      | calm _ _ _ hr _ _ _ => simp [isW, hr.2] at hwk
      | look _ _ _ _ _ _ _ _ _ hr _ _ => simp [isW, hr.2] at hwk
      | writes s' _ _ _ _ hc _ _ hs =>
        rcases looksStay_at hs i (R i) _ (h.rec_at (by omega) (by omega)) hr with q | q
        · rw [Nat.zero_add] at q
          have := hd k i hlk q
          rw [hn] at this; cases this
        · have := lookAll_mem q _ (List.mem_singleton.2 rfl)
          refine ⟨k + 1, s'.n, by omega, by omega, ?_⟩
          rw [e]
          have e1 : (D (k + 1)).core = ⟨s'.h, Nat.lor (Nat.lor (D k).core.held (R k).mask) (2 ^ (D k).recs.length)⟩ := by simp only [DSt.core, hc]
          have e2 : (List.range (k + 1)).map R = (D k).recs ++ [R k] := by rw [h.recs k (by omega), List.range_succ, List.map_append]; rfl
          rw [e1, e2]
          exact this
  · have e : topW R L ops.size = topW R L i := by
      refine topW_cut (by omega) ?_
      intro k hik hk ⟨hlk, hwk⟩
      have : k + 1 ≤ topW R L ops.size := by
        have key : ∀ n, k < n → k + 1 ≤ topW R L n := by
          intro n
          induction n with
          | zero => intro hk; omega
          | succ n ihn =>
            intro hkn
            simp only [topW]
            by_cases c : L n = true ∧ isW (R n) = true
            · rw [if_pos c]; omega
            · rw [if_neg c]
              by_cases e' : k = n
              · subst e'; exact absurd ⟨hlk, hwk⟩ c
              · exact ihn (by omega)
        exact key _ hk
      omega
    have := lookFirst_mem hl _ (h.mem_cores hm i (by omega)).2
    rw [e]
    exact ⟨i, (D i).n, by omega, Nat.le_refl _, by rw [← h.recs i (by omega)]; exact this⟩
end
end Ev
end Go.Proofs.Ytnelncafocgfhaa
