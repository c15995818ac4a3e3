/- A region whose order is open: whatever the order, what the runner answers comes of it. -/
import Derived.Test.YtnelncafocgfhaaEvRun
namespace Go.Proofs.Ytnelncafocgfhaa
open Go.RowKit
namespace Ev
set_option linter.unusedSectionVars false
variable [Env]
/-! What one step of the runner says. -/
inductive How (P : Program) (lo : Nat) (ih : Nat → Job → Option Out) (ops : Array Oper) (o : Oper) (d d' : DSt) (v : AV) (r : Rec) : Prop where
  | skip (hw : wantedOp d.fr ops o = some false) (hv : v = .tup []) (hr : r.news = [] ∧ r.kind = .calm) (hc : d'.cores = d.cores) (hn : d'.n = d.n)
  | calm (s' : St) (hw : wantedOp d.fr ops o = some true) (he : evOp P d.n d.fr ⟨.lf, d.n⟩ o.op = some (v, s')) (hr : r.news = newsOf s'.h d.n (s'.n - d.n) ∧ r.kind = .calm) (hc : d'.cores = d.cores) (hn : d'.n = s'.n) (hle : d.n ≤ s'.n)
  | look (t : TypeId) (x : Operand) (b off : Nat) (hw : wantedOp d.fr ops o = some true) (ho : o.op = .load t x) (hx : opnd P d.fr x = some (.ptr b off))
      (hl : lookFirst P r.mask d.recs d.n t b off (d.cores.take (d.cores.length - writesIn r.mask d.recs 0)) = some v) (hb : belowAV d.n v = true) (hr : r.news = [] ∧ r.kind = .look ⟨t, b, off, v⟩) (hc : d'.cores = d.cores) (hn : d'.n = d.n)
  | writes (s' : St) (hw : wantedOp d.fr ops o = some true) (ha : allWrites r.mask d.recs 0 = true) (he : evOper P lo ih d.fr ⟨memOf d.core.h d.core.held r.mask d.recs 0, d.n⟩ o = some (v, s')) (hr : r.news = [] ∧ r.kind = .writes)
      (hc : d'.cores = ⟨s'.h, Nat.lor (Nat.lor d.core.held r.mask) (2 ^ d.recs.length)⟩ :: d.cores) (hn : d'.n = s'.n) (hle : d.n ≤ s'.n)
      (hs : looksStay P ⟨s'.h, Nat.lor (Nat.lor d.core.held r.mask) (2 ^ d.recs.length)⟩ r.mask (d.recs ++ [r]) s'.n d.recs 0 = true)
structure StepC (P : Program) (lo nt : Nat) (ih : Nat → Job → Option Out) (ops : Array Oper) (o : Oper) (d d' : DSt) (v : AV) (r : Rec) : Prop where
  mask : r.mask = maskOf (d.recs.map (·.mask)) o.after.toList
  apart : allApart ops o r.mask d.done 0 = true
  lt : r.mask < 2 ^ d.recs.length
  done : d'.done = d.done ++ [o]
  recs : d'.recs = d.recs ++ [r]
  fr : put nt d.fr o.dst v = some d'.fr
  how : How P lo ih ops o d d' v r
section
variable {P : Program} {lo nt : Nat} {ih : Nat → Job → Option Out} {ops : Array Oper}
theorem forceN_eq (n : Nat) : forceN n = n := by cases n <;> rfl
theorem step_of {o : Oper} {m : Nat} {d d' : DSt} (h : evDrawOp P lo nt ih ops o m d = some d') (hmask : m = maskOf (d.recs.map (·.mask)) o.after.toList) (hc1 : allApart ops o m d.done 0 = true) (hlt : m < 2 ^ d.recs.length) : ∃ v r, StepC P lo nt ih ops o d d' v r := by
  unfold evDrawOp at h
  split at h
  case h_1 => cases h
  case h_2 hw =>
    split at h
    case h_2 => cases h
    case h_1 fr' hp =>
    cases h
    exact ⟨.tup [], ⟨_, [], .calm⟩, hmask, hc1, hlt, rfl, rfl, hp, .skip hw rfl ⟨rfl, rfl⟩ rfl rfl⟩
  case h_3 hw =>
    split at h
    case h_1 v s' he =>
      cases hle : (!Nat.ble d.n s'.n) with
      | true => rw [hle] at h; cases h
      | false =>
      rw [hle] at h
      simp only [cond_false] at h
      split at h
      case h_2 => cases h
      case h_1 fr' hp =>
      cases h
      have hle' : d.n ≤ s'.n := by simpa [Nat.ble_eq] using hle
      exact ⟨v, ⟨_, newsOf s'.h d.n (s'.n - d.n), .calm⟩, hmask, hc1, hlt, rfl, rfl, hp, .calm s' hw he ⟨rfl, rfl⟩ rfl (forceN_eq _) hle'⟩
    case h_2 he =>
      split at h
      case h_1 t x ho =>
        split at h
        case h_2 => cases h
        case h_1 b off hx =>
        split at h
        case h_2 => cases h
        case h_1 v hl =>
        cases hb : belowAV d.n v with
        | false => rw [hb] at h; cases h
        | true =>
        rw [hb] at h
        simp only [Bool.not_true, cond_false] at h
        split at h
        case h_2 => cases h
        case h_1 fr' hp =>
        cases h
        exact ⟨v, ⟨_, [], .look ⟨t, b, off, v⟩⟩, hmask, hc1, hlt, rfl, rfl, hp, .look t x b off hw ho hx hl hb ⟨rfl, rfl⟩ rfl rfl⟩
      case h_2 ho =>
        cases ha : allWrites (m) d.recs 0 with
        | false => rw [ha] at h; cases h
        | true =>
        rw [ha] at h
        simp only [Bool.not_true, cond_false] at h
        split at h
        case h_2 => cases h
        case h_1 v s' he =>
        cases hle : (!Nat.ble d.n s'.n) with
        | true => rw [hle] at h; cases h
        | false =>
        rw [hle] at h
        simp only [cond_false] at h
        have hle' : d.n ≤ s'.n := by simpa [Nat.ble_eq] using hle
        split at h
        case h_2 => cases h
        case h_1 fr' hp =>
        rw [Bool.cond_eq_ite] at h
        split at h
        case isFalse => cases h
        case isTrue hst =>
        cases h
        exact ⟨v, ⟨_, [], .writes⟩, hmask, hc1, hlt, rfl, rfl, hp, .writes s' hw ha he ⟨rfl, rfl⟩ rfl (forceN_eq _) hle' hst⟩
theorem trace_of : ∀ (l : List Oper) (pl : List (Oper × Nat)) (d : DSt) (e : Ex) (fr' : Tr AV) (s' : St), planGo ops d.done (d.recs.map (·.mask)) l = some pl → evDraw P lo nt ih ops pl d = some (.code e fr' s') →
    ∃ (D : Nat → DSt) (V : Nat → AV) (R : Nat → Rec), D 0 = d ∧ (∀ k o, l[k]? = some o → StepC P lo nt ih ops o (D k) (D (k + 1)) (V k) (R k)) ∧
      e = .nrm ∧ fr' = (D l.length).fr ∧ s' = ⟨memOf (D l.length).core.h (D l.length).core.held (2 ^ (D l.length).recs.length - 1) (D l.length).recs 0, (D l.length).n⟩
  | [], pl, d, e, fr', s', hp, h => by
    cases hp
    cases h
    exact ⟨fun _ => d, fun _ => .nilp, fun _ => ⟨0, [], .calm⟩, rfl, fun k o ho => by simp at ho, rfl, rfl, rfl⟩
  | o :: l, pl, d, e, fr', s', hp, h => by
    simp only [planGo] at hp
    rw [Bool.cond_eq_ite] at hp
    split at hp
    case isTrue => cases hp
    case isFalse hc =>
    simp only [Bool.or_eq_true, Bool.not_eq_true', not_or, Bool.not_eq_false] at hc
    have hlt : maskOf (d.recs.map (·.mask)) o.after.toList < 2 ^ d.recs.length := by
      have : maskOf (d.recs.map (·.mask)) o.after.toList + 1 ≤ 2 ^ (d.recs.map (·.mask)).length := by simpa [Nat.blt, Nat.ble_eq] using hc.2
      rw [List.length_map] at this
      omega
    split at hp
    case h_2 => cases hp
    case h_1 r hr =>
    cases hp
    simp only [evDraw] at h
    split at h
    case h_2 => cases h
    case h_1 d1 h1 =>
    obtain ⟨v, rc, hst⟩ := step_of h1 rfl hc.1 hlt
    obtain ⟨D, V, R, q0, q1, q2, q3, q4⟩ := trace_of l r d1 e fr' s' (by rw [hst.done, hst.recs, List.map_append, List.map_cons, List.map_nil, hst.mask]; exact hr) h
    refine ⟨fun | 0 => d | k + 1 => D k, fun | 0 => v | k + 1 => V k, fun | 0 => rc | k + 1 => R k, rfl, ?_, q2, q3, q4⟩
    intro k o' ho
    cases k with
    | zero =>
      simp at ho
      subst ho
      show StepC P lo nt ih ops o d (D 0) v rc
      rw [q0]; exact hst
    | succ k => exact q1 k o' (by simpa using ho)
/-! Small facts: masks, memories, news. -/
theorem testBit_lor (a b k : Nat) : Nat.testBit (Nat.lor a b) k = (Nat.testBit a k || Nat.testBit b k) := Nat.testBit_or a b k
theorem testBit_two (i k : Nat) : Nat.testBit (2 ^ i) k = decide (i = k) := Nat.testBit_two_pow
theorem maskOf_mem {recs : List Nat} : ∀ {l : List Edge} {e : Edge}, e ∈ l → Region.binds .any e = true → Nat.testBit (maskOf recs l) e.on = true ∧ ∀ k, Nat.testBit (recMask recs e.on) k = true → Nat.testBit (maskOf recs l) k = true
  | [], _, he, _ => by cases he
  | x :: l, e, he, hb => by
    simp only [maskOf]
    cases he with
    | head =>
      rw [hb]
      simp only [cond_true, testBit_lor, testBit_two]
      exact ⟨by simp, fun k hk => by simp [hk]⟩
    | tail _ he =>
      have ih := maskOf_mem (recs := recs) he hb
      cases hx : Region.binds .any x with
      | false => exact ih
      | true =>
        simp only [cond_true, testBit_lor]
        exact ⟨by rw [ih.1]; simp, fun k hk => by rw [ih.2 k hk]; simp⟩
theorem maskOf_of {recs : List Nat} : ∀ {l : List Edge} {k : Nat}, Nat.testBit (maskOf recs l) k = true → ∃ e ∈ l, Region.binds .any e = true ∧ (e.on = k ∨ Nat.testBit (recMask recs e.on) k = true)
  | [], k, h => by simp [maskOf] at h
  | x :: l, k, h => by
    simp only [maskOf] at h
    cases hx : Region.binds .any x with
    | false =>
      rw [hx] at h
      obtain ⟨e, h1, h2⟩ := maskOf_of h
      exact ⟨e, by simp [h1], h2⟩
    | true =>
      rw [hx] at h
      simp only [cond_true, testBit_lor, testBit_two, Bool.or_eq_true, decide_eq_true_eq] at h
      rcases h with (h | h) | h
      · exact ⟨x, by simp, hx, .inl h⟩
      · exact ⟨x, by simp, hx, .inr h⟩
      · obtain ⟨e, h1, h2⟩ := maskOf_of h
        exact ⟨e, by simp [h1], h2⟩
theorem recMask_eq : ∀ (l : List Nat) (k : Nat), recMask l k = (match l[k]? with | some r => r | none => 0)
  | [], k => by simp [recMask]
  | _ :: _, 0 => rfl
  | _ :: l, k + 1 => by simpa [recMask] using recMask_eq l k
theorem testBit_lt {m n k : Nat} (h : m < 2 ^ n) (hk : Nat.testBit m k = true) : k < n := by
  rcases Nat.lt_or_ge k n with g | g
  · exact g
  · have : m < 2 ^ k := Nat.lt_of_lt_of_le h (Nat.pow_le_pow_right (by omega) g)
    rw [Nat.testBit_lt_two_pow this] at hk
    cases hk
theorem allApart_at {o : Oper} {mask : Nat} : ∀ {l : List Oper} {k0 : Nat}, allApart ops o mask l k0 = true → ∀ (j : Nat) (p : Oper), l[j]? = some p → Nat.testBit mask (k0 + j) = true ∨ o.apart ops p = true
  | [], _, _, _, _, hp => by simp at hp
  | x :: l, k0, h, 0, p, hp => by
    simp only [allApart, Bool.and_eq_true, Bool.or_eq_true] at h
    simp at hp
    subst hp
    exact h.1
  | x :: l, k0, h, j + 1, p, hp => by
    simp only [allApart, Bool.and_eq_true] at h
    have := allApart_at h.2 j p (by simpa using hp)
    rw [show k0 + (j + 1) = k0 + 1 + j by omega]
    exact this
theorem addNews_get : ∀ {l : List (Nat × Blk)} {h : Tr Blk} {i : Nat} {b : Blk}, (addNews h l).get (path i) = some b → (i, b) ∈ l ∨ h.get (path i) = some b
  | [], _, _, _, e => .inr e
  | (j, c) :: l, h, i, b, e => by
    simp only [addNews] at e
    rcases addNews_get e with g | g
    · exact .inl (by simp [g])
    · rw [get_put] at g
      by_cases hij : i = j
      · rw [if_pos hij] at g
        cases g
        exact .inl (by simp [hij])
      · rw [if_neg hij] at g
        exact .inr g
theorem memOf_get {held mask : Nat} : ∀ {l : List Rec} {k0 : Nat} {h : Tr Blk} {i : Nat} {b : Blk}, (memOf h held mask l k0).get (path i) = some b →
    h.get (path i) = some b ∨ ∃ j r, l[j]? = some r ∧ Nat.testBit mask (k0 + j) = true ∧ Nat.testBit held (k0 + j) = false ∧ (i, b) ∈ r.news
  | [], _, _, _, _, e => .inl e
  | r :: l, k0, h, i, b, e => by
    simp only [memOf] at e
    rcases memOf_get e with g | ⟨j, r', h1, h2, h3, h4⟩
    · split at g
      · exact .inl g
      · rename_i x xs hx
        cases hc : (Nat.testBit mask k0 && !Nat.testBit held k0) with
        | false => rw [hc] at g; exact .inl g
        | true =>
          rw [hc] at g
          simp only [Bool.and_eq_true, Bool.not_eq_true'] at hc
          rcases addNews_get g with g | g
          · exact .inr ⟨0, r, rfl, by simpa using hc.1, by simpa using hc.2, by rw [hx]; exact g⟩
          · exact .inl g
    · exact .inr ⟨j + 1, r', by simpa using h1, by rw [show k0 + (j + 1) = k0 + 1 + j by omega]; exact h2, by rw [show k0 + (j + 1) = k0 + 1 + j by omega]; exact h3, h4⟩
theorem newsOf_mem {h : Tr Blk} : ∀ {k n i : Nat} {b : Blk}, (i, b) ∈ newsOf h n k → n ≤ i ∧ i < n + k ∧ h.get (path i) = some b
  | 0, _, _, _, e => by cases e
  | k + 1, n, i, b, e => by
    simp only [newsOf] at e
    split at e
    · rename_i c hc
      cases e with
      | head => exact ⟨Nat.le_refl _, by omega, hc⟩
      | tail _ e =>
        have := newsOf_mem e
        exact ⟨by omega, by omega, this.2.2⟩
    · have := newsOf_mem e
      exact ⟨by omega, by omega, this.2.2⟩
theorem allWrites_at {mask : Nat} : ∀ {l : List Rec} {k0 : Nat}, allWrites mask l k0 = true → ∀ (j : Nat) (r : Rec), l[j]? = some r → r.kind = .writes → Nat.testBit mask (k0 + j) = true
  | [], _, _, _, _, hp, _ => by simp at hp
  | r :: l, k0, h, 0, r', hr, hk => by
    simp at hr
    subst hr
    simp only [allWrites, hk, Bool.and_eq_true] at h
    exact h.1
  | r :: l, k0, h, j + 1, r', hr, hk => by
    simp only [allWrites, Bool.and_eq_true] at h
    have := allWrites_at h.2 j r' (by simpa using hr) hk
    rw [show k0 + (j + 1) = k0 + 1 + j by omega]
    exact this
theorem looksStay_at {c : Core} {mask n : Nat} {all : List Rec} : ∀ {l : List Rec} {k0 : Nat}, looksStay P c mask all n l k0 = true → ∀ (j : Nat) (r : Rec) (x : Look), l[j]? = some r → r.kind = .look x → Nat.testBit mask (k0 + j) = true ∨ lookAll P r.mask all n x [c] = true
  | [], _, _, _, _, _, hp, _ => by simp at hp
  | r :: l, k0, h, 0, r', x, hr, hk => by
    simp at hr
    subst hr
    simp only [looksStay, hk, Bool.and_eq_true, Bool.or_eq_true] at h
    exact h.1
  | r :: l, k0, h, j + 1, r', x, hr, hk => by
    simp only [looksStay, Bool.and_eq_true] at h
    have := looksStay_at h.2 j r' x (by simpa using hr) hk
    rw [show k0 + (j + 1) = k0 + 1 + j by omega]
    exact this
theorem sameCap_eq : ∀ {a b : ACap}, sameCap a b = true → a = b
  | .fix a, .fix b, h => by simp [sameCap] at h; rw [h]
  | .opn a i, .opn b j, h => by simp [sameCap] at h; rw [h.1, h.2]
  | .fix _, .opn _ _, h => by simp [sameCap] at h
  | .opn _ _, .fix _, h => by simp [sameCap] at h
theorem sameTxts_eq : ∀ {l r : List (List UInt8)}, sameTxts l r = true → l = r
  | [], [], _ => rfl
  | a :: l, b :: r, h => by
    simp only [sameTxts, Bool.and_eq_true, sameBytes_eq, beq_iff_eq] at h
    rw [h.1, sameTxts_eq h.2]
  | [], _ :: _, h => by simp [sameTxts] at h
  | _ :: _, [], h => by simp [sameTxts] at h
theorem sameSym_eq {a b : Sym} (h : sameSym a b = true) : a = b := by
  cases a <;> cases b <;> simp only [sameSym, Bool.and_eq_true, beq_iff_eq, Nat.beq_eq, Bool.false_eq_true] at h
  · rw [h.1, sameTxts_eq h.2]
  · rw [h.1.1, h.1.2, h.2]
  · rw [h.1, h.2]
  · rw [h.1.1, h.1.2, h.2]
theorem sameSc_eq {a b : AV} (h : sameSc a b = true) : a = b := by
  cases a <;> cases b <;> simp [sameSc] at h <;> first
    | rfl
    | rw [sameSym_eq h]
    | (obtain ⟨⟨⟨h1, h2⟩, h3⟩, h4⟩ := h; rw [h1, h2, h3, sameCap_eq h4])
    | (obtain ⟨h1, h2⟩ := h; rw [h1, h2])
    | rw [h]
theorem sameScs_eq : ∀ {l r : List AV}, sameScs l r = true → l = r
  | [], [], _ => rfl
  | a :: l, b :: r, h => by
    simp only [sameScs, Bool.and_eq_true] at h
    rw [sameSc_eq h.1, sameScs_eq h.2]
  | [], _ :: _, h => by simp [sameScs] at h
  | _ :: _, [], h => by simp [sameScs] at h
theorem sameAV_eq {a b : AV} (h : sameAV a b = true) : a = b := by
  unfold sameAV at h
  split at h
  · rw [sameScs_eq h]
  · simp only [Bool.and_eq_true, beq_iff_eq] at h
    rw [h.1, sameScs_eq h.2]
  · exact sameSc_eq h
theorem lookAll_mem {mask n : Nat} {recs : List Rec} {x : Look} : ∀ {l : List Core}, lookAll P mask recs n x l = true → ∀ c ∈ l, lookAt P c mask recs n x.t x.b x.off = some x.v
  | [], _, _, hc => by cases hc
  | c :: l, h, c', hc => by
    simp only [lookAll, Bool.and_eq_true] at h
    cases hc with
    | head =>
      have := h.1
      split at this
      · rename_i v hv
        rw [hv, sameAV_eq this]
      · cases this
    | tail _ hc => exact lookAll_mem h.2 c' hc
theorem lookFirst_mem {mask n : Nat} {recs : List Rec} {t : TypeId} {b off : Nat} {v : AV} : ∀ {l : List Core}, lookFirst P mask recs n t b off l = some v → ∀ c ∈ l, lookAt P c mask recs n t b off = some v
  | [], _, _, hc => by cases hc
  | c :: l, h, c', hc => by
    simp only [lookFirst] at h
    split at h
    case h_2 => cases h
    case h_1 u hu =>
    rw [Bool.cond_eq_ite] at h
    split at h
    case isFalse => cases h
    case isTrue hall =>
    cases h
    cases hc with
    | head => exact hu
    | tail _ hc => exact lookAll_mem hall c' hc
/-! A part of the names. -/
def res (β : Beta) (n : Nat) : Beta := fun i => if i < n then β i else none
theorem res_some {β : Beta} {n i : Nat} {p : Nat × Nat} (h : res β n i = some p) : i < n ∧ β i = some p := by
  unfold res at h
  by_cases e : i < n
  · rw [if_pos e] at h; exact ⟨e, h⟩
  · rw [if_neg e] at h; cases h
theorem res_of {β : Beta} {n i : Nat} {p : Nat × Nat} (hi : i < n) (h : β i = some p) : res β n i = some p := by unfold res; rw [if_pos hi, h]
theorem res_le (β : Beta) (n : Nat) : (res β n).le β := fun _ _ h => (res_some h).2
theorem res_mono {β β' : Beta} {n m : Nat} (h : β.le β') (hn : n ≤ m) : (res β n).le (res β' m) := fun i p e => res_of (by have := (res_some e).1; omega) (h i p (res_some e).2)
theorem belowSc_rep {β : Beta} {n : Nat} {v : AV} {u : Value} (h : belowSc n v = true) (hr : Rep β v u) : Rep (res β n) v u := by
  have hb : ∀ {b : Nat}, Nat.blt b n = true → b < n := fun {b} g => by
    have : b + 1 ≤ n := by simpa [Nat.blt, Nat.ble_eq] using g
    omega
  cases v with
  | ptr b off => obtain ⟨x, t, e, r⟩ := hr; exact ⟨x, t, res_of (hb h) e, r⟩
  | slc b off len cap => obtain ⟨x, t, c, e, r⟩ := hr; exact ⟨x, t, c, res_of (hb h) e, r⟩
  | map b => obtain ⟨x, t, e, r⟩ := hr; exact ⟨x, t, res_of (hb h) e, r⟩
  | fn f l =>
    cases l with
    | nil => obtain ⟨vs, e, r⟩ := hr; exact ⟨vs, e, r⟩
    | cons a l => simp [belowSc] at h
  | ifc t a => simp [belowSc] at h
  | agg l => simp [belowSc] at h
  | tup l => simp [belowSc] at h
  | _ => exact hr
theorem belowScs_rep {β : Beta} {n : Nat} : ∀ {l : List AV} {vs : List Value}, belowScs n l = true → Reps β l vs → Reps (res β n) l vs
  | [], _, _, e => e
  | a :: l, _, h, ⟨u, r, e, ha, hl⟩ => by
    simp only [belowScs, Bool.and_eq_true] at h
    exact ⟨u, r, e, belowSc_rep h.1 ha, belowScs_rep h.2 hl⟩
theorem below_rep {β : Beta} {n : Nat} {v : AV} {u : Value} (h : belowAV n v = true) (hr : Rep β v u) : Rep (res β n) v u := by
  unfold belowAV at h
  split at h
  · obtain ⟨vs, e, r⟩ := hr; exact ⟨vs, e, belowScs_rep h r⟩
  · obtain ⟨vs, e, r⟩ := hr; exact ⟨vs, e, belowScs_rep h r⟩
  · exact belowSc_rep h hr
end
end Ev
end Go.Proofs.Ytnelncafocgfhaa
