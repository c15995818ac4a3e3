/- ProbeReverse: the law's state, round by round. -/
import Derived.Test.YtnajbogmhhlpcaaRevB
import Derived.Test.YtnajbogmhhlpcaaProbeV
namespace Go.Proofs.Ytnajbogmhhlpcaa
open Go.RowKit Go.ChangeShapes Go.Maps
/-- What the bag and the things' functions write. -/
def SRX (m4 p6 N0 : Nat) (k : Nat) (o : Obj) : Prop := (∃ C t z, o = .cells C t z ∧ (t = 86 ∨ t = 98 ∨ t = 77)) ∨ SR m4 p6 N0 k o
theorem srx_sb {b m4 p6 N : Nat} {k : Nat} {o : Obj} (h : SB b k o) : SRX m4 p6 N k o := by
  rcases h with ⟨_, C, z, e⟩ | ⟨C, z, e⟩
  · exact .inl ⟨C, _, z, e, .inl rfl⟩
  · exact .inl ⟨C, _, z, e, .inr (.inl rfl)⟩
theorem srx_sx {b m4 p6 N : Nat} {k : Nat} {o : Obj} (h : SX b N (SR m4 p6 N) k o) : SRX m4 p6 N k o := by
  rcases h with h | ⟨_, C, z, e⟩ | h
  · exact srx_sb h
  · exact .inl ⟨C, _, z, e, .inr (.inr rfl)⟩
  · exact .inr h
theorem srx_sc {b m4 p6 N : Nat} {k : Nat} {o : Obj} (h : SC b N (SR m4 p6 N) k o) : SRX m4 p6 N k o := by
  rcases h with ⟨C, z, e⟩ | ⟨C, z, e⟩ | ⟨_, C, z, e⟩ | h
  · exact .inl ⟨C, _, z, e, .inl rfl⟩
  · exact .inl ⟨C, _, z, e, .inr (.inl rfl)⟩
  · exact .inl ⟨C, _, z, e, .inr (.inr rfl)⟩
  · exact .inr h
theorem srx_not {m4 p6 N0 k : Nat} {C : Array Value} {t : Nat} {z : Nat × Nat} (h1 : t ≠ 86 ∧ t ≠ 98 ∧ t ≠ 77) (h2 : t ≠ 30) (h3 : t = 3 → k < N0) : ¬ SRX m4 p6 N0 k (.cells C t z) := fun ho => by
  rcases ho with ⟨C', t', z', e, h⟩ | ⟨_, es, c, e⟩ | ⟨_, C', z', e⟩ | ⟨hk, C', z', e⟩
  · injection e with _ e2 _
    subst e2
    rcases h with h | h | h
    · exact h1.1 h
    · exact h1.2.1 h
    · exact h1.2.2 h
  · cases e
  · injection e with _ e2 _
    exact h2 e2
  · injection e with _ e2 _
    have := h3 e2
    omega
theorem srx_map {m4 p6 N0 k : Nat} {es : Array MapEntry} {c : Nat} (h : k ≠ m4) : ¬ SRX m4 p6 N0 k (.map es c) := fun ho => by
  rcases ho with ⟨C', t', z', e, _⟩ | ⟨hk, _⟩ | ⟨_, C', z', e⟩ | ⟨_, C', z', e⟩
  · cases e
  · exact h hk
  · cases e
  · cases e
/-- The kept ones, by the map. -/
def KpAt (w : World) (m5 k : Nat) (K : List Int) : Prop := ∃ (D : DataW Unit) (n : Nat), w.ownsMap Try.prog 3 (plainElem Try.prog 4) m5 n D ∧ n ≤ k ∧ ∀ x : Int, D.atKey (.int .i64 x) (.lit (.bool false)) = .lit (.bool (decide (x ∈ K)))
structure RV (W : World) (b p4 m4 m5 p6 : Nat) (va : Value) (L : List Th) (A K al : List Int) (last : Int) (k N0 : Nat) (now : List Int) (w : World) : Prop where
  bx : Below W.heap.size W w
  bag : BagAt w W.heap.size b L last false false
  len : L.length ≤ k
  lst : 0 ≤ last ∧ last ≤ k
  box : BoxR w p4 p6 L
  sep : ∀ g, va.ownBlock = some g → ∀ t ∈ L, ∀ f c, t.fn = some (f, c) → c[1]? ≠ some (.pointer (some ⟨g, 0, none⟩))
  pos : ∀ t ∈ L, 0 < t.id
  law : Law L A K al last
  rev : RevI w p4 m4 p6 N0 A now
  hN : N0 ≤ w.heap.size
  lenA : A.length ≤ 256 * k
  kp : KpAt w m5 k K
  ar : w.ownsRow W.heap.size 3 1 va al.length (ic al)
  alen : al.length ≤ k
  lo : W.heap.size ≤ m4 ∧ W.heap.size ≤ p6 ∧ m4 ≠ m5
  apos : ∀ x ∈ al, 0 < x
section
variable {W w w' : World} {b p4 m4 m5 p6 : Nat} {va : Value} {L : List Th} {A K al : List Int} {last : Int} {k N0 : Nat} {now : List Int}
theorem box_step {S : Nat → Obj → Prop} {B : Nat} {L' : List Th} (h : BoxR w p4 p6 L) (hr : Rel B S w w') (hS : ∀ k C t z, S k (.cells C t z) → SRX m4 p6 w.heap.size k (.cells C t z)) (sub : ∀ t ∈ L', t ∈ L ∨ t.fn = none) : BoxR w' p4 p6 L' := fun t ht f c hf => by
  rcases sub t ht with ht | hn
  · obtain ⟨p10, p9, s, h1, h2, h3, h4⟩ := h t ht f c hf
    exact ⟨p10, p9, s, h1, h2, hr.block h3 (fun _ ho => srx_not (by decide) (by decide) (fun _ => (Array.getElem?_eq_some_iff.1 h3).1) (hS _ _ _ _ ho)), hr.block h4 (fun _ ho => srx_not (by decide) (by decide) (fun e => absurd e (by decide)) (hS _ _ _ _ ho))⟩
  · rw [hn] at hf
    cases hf
theorem kp_step {S : Nat → Obj → Prop} {B k' : Nat} (h : KpAt w m5 k K) (hr : Rel B S w w') (hS : ∀ k o, S k o → SRX m4 p6 w.heap.size k o) (hne : m4 ≠ m5) (hk : k ≤ k') : KpAt w' m5 k' K := by
  obtain ⟨D, n, h1, h2, h3⟩ := h
  exact ⟨D, n, map_block h1 hr (fun es c ho => srx_map (Ne.symm hne) (hS _ _ ho)), Nat.le_trans h2 hk, h3⟩
theorem ar_step {S : Nat → Obj → Prop} {B B' n : Nat} (h : w.ownsRow B' 3 1 va n (ic al)) (hr : Rel B S w w') (hS : ∀ k C t z, S k (.cells C t z) → SRX m4 p6 w.heap.size k (.cells C t z)) : w'.ownsRow B' 3 1 va n (ic al) :=
  own_rel h hr (fun k C _ hk ho => srx_not (by decide) (by decide) (fun _ => (h.lt k hk).2) (hS _ _ _ _ ho))
theorem RV.stepK {S : Nat → Obj → Prop} (h : RV W b p4 m4 m5 p6 va L A K al last k N0 now w) (hr : Rel W.heap.size S w w') (hS : ∀ k C t z, S k (.cells C t z) → SRX m4 p6 w.heap.size k (.cells C t z)) {L' : List Th} {A' K' : List Int} {last' : Int} {k' N' : Nat} {now' : List Int}
    (bag' : BagAt w' W.heap.size b L' last' false false) (len' : L'.length ≤ k') (lst' : 0 ≤ last' ∧ last' ≤ k') (sub : ∀ t ∈ L', t ∈ L ∨ t.fn = none) (pos' : ∀ t ∈ L', 0 < t.id) (law' : Law L' A' K' al last') (rev' : RevI w' p4 m4 p6 N' A' now') (hN' : N' ≤ w'.heap.size) (lenA' : A'.length ≤ 256 * k') (hk : k ≤ k') (kp' : KpAt w' m5 k' K') :
    RV W b p4 m4 m5 p6 va L' A' K' al last' k' N' now' w' :=
  ⟨hr.out h.bx h.bx.size, bag', len', lst', box_step h.box hr hS sub, fun g hg t ht f c hf => (sub t ht).elim (fun ht => h.sep g hg t ht f c hf) (fun hn => by rw [hn] at hf; cases hf), pos', law', rev', hN', lenA', kp', ar_step h.ar hr hS, Nat.le_trans h.alen hk, h.lo, h.apos⟩
theorem RV.step {S : Nat → Obj → Prop} (h : RV W b p4 m4 m5 p6 va L A K al last k N0 now w) (hr : Rel W.heap.size S w w') (hS : ∀ k o, S k o → SRX m4 p6 w.heap.size k o) {L' : List Th} {A' : List Int} {last' : Int} {k' N' : Nat} {now' : List Int}
    (bag' : BagAt w' W.heap.size b L' last' false false) (len' : L'.length ≤ k') (lst' : 0 ≤ last' ∧ last' ≤ k') (sub : ∀ t ∈ L', t ∈ L ∨ t.fn = none) (pos' : ∀ t ∈ L', 0 < t.id) (law' : Law L' A' K al last') (rev' : RevI w' p4 m4 p6 N' A' now') (hN' : N' ≤ w'.heap.size) (lenA' : A'.length ≤ 256 * k') (hk : k ≤ k') :
    RV W b p4 m4 m5 p6 va L' A' K al last' k' N' now' w' :=
  h.stepK hr (fun _ _ _ _ ho => hS _ _ ho) bag' len' lst' sub pos' law' rev' hN' lenA' hk (kp_step h.kp hr hS h.lo.2.2 hk)
theorem RV.below (h : RV W b p4 m4 m5 p6 va L A K al last k N0 now w) (hb : Below w.heap.size w w') : RV W b p4 m4 m5 p6 va L A K al last k N0 now w' :=
  h.step (S := fun _ _ => False) (Rel.below hb) (fun _ _ e => e.elim) (h.bag.below hb) h.len h.lst (fun t ht => .inl ht) h.pos h.law (h.rev.rel (Rel.below (B := 0) (S := fun _ _ => False) hb) (fun _ _ _ => ⟨id, id, id⟩) (fun _ _ _ => id)) (Nat.le_trans h.hN hb.size) h.lenA (Nat.le_refl _)
theorem RV.okId (h : RV W b p4 m4 m5 p6 va L A K al last k N0 now w) (hk : k ≤ 200) : OkId L := fun t ht => by
  have h1 := h.pos t ht
  have h2 := h.law.le t ht
  have h3 := h.lst.2
  have m1 : IntKind.i64.min = -9223372036854775808 := rfl
  have m2 : IntKind.i64.max = 9223372036854775807 := rfl
  simp only [Lit.wf, m1, m2, Bool.and_eq_true, decide_eq_true_eq]
  omega
/-- The list of the call under way is emptied. -/
theorem RV.clear (h : RV W b p4 m4 m5 p6 va L A K al last k N0 now w) : RV W b p4 m4 m5 p6 va L A K al last k (w.setCell ⟨p6, 0, none⟩ (.slice none 0 0)).heap.size [] (w.setCell ⟨p6, 0, none⟩ (.slice none 0 0)) := by
  obtain ⟨b4, mp, v, h6, hrow, _⟩ := h.rev
  have hr : Rel W.heap.size (fun k o => k = p6 ∧ ∃ C z, o = .cells C 30 z) w (w.setCell ⟨p6, 0, none⟩ (.slice none 0 0)) := Rel.set (a := ⟨p6, 0, none⟩) h.lo.2.1 h6 ⟨rfl, _, _, rfl⟩ _
  have nof : ∀ (t : Nat) (_ : t ≠ 30) (k : Nat) (C : Array Value) (z : Nat × Nat), ¬ (k = p6 ∧ ∃ C' z', Obj.cells C t z = .cells C' 30 z') := fun t ht k C z ⟨_, C', z', e⟩ => by
    injection e with _ e2 _
    exact ht e2
  refine h.step hr (fun k o ho => .inr (.inr (.inl ho))) (h.bag.rel hr (fun C z => nof _ (by decide) _ _ _) (fun k C z => nof _ (by decide) _ _ _)) h.len h.lst (fun t ht => .inl ht) h.pos h.law ⟨hr.block b4 (fun _ => nof _ (by decide) _ _ _), ?_, _, heap_setCell_same w p6 0 _ _ _ h6, World.ownsRow_nil _ _ _ _, fun _ => rfl⟩ (Nat.le_refl _) h.lenA (Nat.le_refl _)
  obtain ⟨D, n, h1, h2⟩ := mp
  exact ⟨D, n, map_block h1 hr (fun es c ⟨_, C', z', e⟩ => by cases e), h2⟩
end
theorem idsT_le (L : List Th) : (idsT L).length ≤ L.length := by
  unfold idsT
  rw [List.length_map]
  exact List.length_filter_le _ _
theorem split_at {L : List Th} {i : Nat} (hi : i < L.length) : L = L.take i ++ [L[i]] ++ L.drop (i + 1) := by
  have := (List.take_append_drop i L).symm
  rw [List.drop_eq_getElem_cons hi] at this
  rw [List.append_assoc]
  exact this
theorem erase_at {L : List Th} {i : Nat} : L.eraseIdx i = L.take i ++ L.drop (i + 1) := List.eraseIdx_eq_take_drop_succ L i
section
variable {W w w1 w' : World} {b p4 m4 m5 p6 : Nat} {va : Value} {L : List Th} {A K al : List Int} {last : Int} {k N0 : Nat} {now : List Int}
/-- A thing is kept, and the map says so. -/
theorem RV.kept (h : RV W b p4 m4 m5 p6 va L A K al last k N0 now w) (hr : Rel W.heap.size (SB b) w w1) {i : Nat} {id : Int} (hp : posT L id false = some i) (bag1 : BagAt w1 W.heap.size b (L.eraseIdx i) last false false) {D : DataW Unit} {n : Nat} (hm : w1.ownsMap Try.prog 3 (plainElem Try.prog 4) m5 n D) (hn : n ≤ k) (hD : ∀ x : Int, D.atKey (.int .i64 x) (.lit (.bool false)) = .lit (.bool (decide (x ∈ K))))
    (hg : w1.grownBy w' (some m5)) (hm' : w'.ownsMap Try.prog 3 (plainElem Try.prog 4) m5 (n + 1) (D.put (.int .i64 id) (.lit (.bool true)))) (h5 : W.heap.size ≤ m5) :
    RV W b p4 m4 m5 p6 va (L.eraseIdx i) A (id :: K) al last (k + 1) N0 now w' := by
  obtain ⟨hi, hmt⟩ := posT_lt hp
  simp only [matchT, Bool.and_eq_true, decide_eq_true_eq, beq_iff_eq] at hmt
  have hsub : ∀ t ∈ L.eraseIdx i, t ∈ L := fun t ht => (List.eraseIdx_sublist L i).subset ht
  obtain ⟨es, c, hb, _⟩ := hm
  have hmI : IsMap D := World.ownsMap.isMap ⟨es, c, hb, by assumption⟩
  have r2 : Rel W.heap.size (fun k o => SB b k o ∨ (k = m5 ∧ ∃ es c, o = .map es c)) w w' := (hr.mono (fun k o ho => .inl ho) (Nat.le_refl _)).trans (Rel.grown hg h5 hb (.inr ⟨rfl, _, _, rfl⟩))
  have nof : ∀ (t : Nat) (_ : t ≠ 86 ∧ t ≠ 98) (k : Nat) (C : Array Value) (z : Nat × Nat), ¬ (SB b k (.cells C t z) ∨ (k = m5 ∧ ∃ es c, Obj.cells C t z = .map es c)) := fun t ht k C z ho => by
    rcases ho with ho | ⟨_, es, c, e⟩
    · exact SB_not ht.1 ht.2 ho
    · cases e
  refine h.stepK r2 (fun k C t z ho => ?_) ?_ (Nat.le_trans (List.eraseIdx_sublist L i).length_le (Nat.le_succ_of_le h.len)) ⟨h.lst.1, by have := h.lst.2; omega⟩ (fun t ht => .inl (hsub t ht)) (fun t ht => h.pos t (hsub t ht)) ?_ ?_ (Nat.le_trans h.hN r2.size) (by have := h.lenA; omega) (Nat.le_succ k) ?_
  · rcases ho with ho | ⟨_, es, c, e⟩
    · exact srx_sb ho
    · cases e
  · exact bag1.rel (Rel.grown (S := fun k o => k = m5 ∧ ∃ es c, o = .map es c) hg h5 hb ⟨rfl, _, _, rfl⟩) (fun C z ⟨_, es, c, e⟩ => by cases e) (fun k C z ⟨_, es, c, e⟩ => by cases e)
  · have h0 := h.law
    rw [split_at hi] at h0
    rw [erase_at]
    have h1 := h0.keep (by cases hf : L[i].fn with | none => rw [hf] at hmt; simp at hmt | some f => rfl)
    rw [hmt.1] at h1
    exact h1
  · obtain ⟨b4, ⟨D4, n4, q1, q2⟩, v, q3, q4, q5⟩ := h.rev
    refine ⟨r2.block b4 (fun _ => nof _ (by decide) _ _ _), ⟨D4, n4, map_block q1 r2 (fun es c ho => ?_), q2⟩, v, r2.block q3 (fun _ => nof _ (by decide) _ _ _), own_rel q4 r2 (fun k C _ _ => nof _ (by decide) _ _ _), q5⟩
    rcases ho with (⟨_, C, z, e⟩ | ⟨C, z, e⟩) | ⟨e, _⟩
    · cases e
    · cases e
    · exact h.lo.2.2 e
  · refine ⟨_, n + 1, hm', by omega, fun x => ?_⟩
    by_cases e : x = id
    · subst e
      rw [atKey_put_same hmI (by trivial)]
      simp
    · rw [atKey_put_other (by simp [e]), hD x]
      simp [e]
/-- A thing was put in and its number written into its box. -/
theorem RV.added (h : RV W b p4 m4 m5 p6 va L A K al last k N0 now w) (hr : Rel W.heap.size (fun q o => SB b q o ∨ (w.heap.size ≤ q ∧ ∃ C z, o = .cells C 3 z)) w w') {nm : ByteArray} {p10 p9 : Nat} {s : St} (bag' : BagAt w' W.heap.size b (L ++ [⟨last + 1, nm, some (29, #[.pointer (some ⟨p4, 0, none⟩), .pointer (some ⟨p10, 0, none⟩), .pointer (some ⟨p6, 0, none⟩), .pointer (some ⟨p9, 0, none⟩)])⟩]) (last + 1) false false)
    (h10 : w'.heap[p10]? = some (.cells #[.int .i64 (last + 1)] 3 (0, 0))) (h9 : w'.heap[p9]? = some (.cells (St.cells s).toArray 36 (0, 0))) (hp : w.heap.size ≤ p10) :
    RV W b p4 m4 m5 p6 va (L ++ [⟨last + 1, nm, some (29, #[.pointer (some ⟨p4, 0, none⟩), .pointer (some ⟨p10, 0, none⟩), .pointer (some ⟨p6, 0, none⟩), .pointer (some ⟨p9, 0, none⟩)])⟩]) A K al (last + 1) (k + 1) N0 now w' ∧ Law (L ++ [⟨last + 1, nm, some (29, #[.pointer (some ⟨p4, 0, none⟩), .pointer (some ⟨p10, 0, none⟩), .pointer (some ⟨p6, 0, none⟩), .pointer (some ⟨p9, 0, none⟩)])⟩]) A K (al ++ [last + 1]) (last + 1) := by
  have hS : ∀ q C t z, (SB b q (.cells C t z) ∨ (w.heap.size ≤ q ∧ ∃ C' z', Obj.cells C t z = .cells C' 3 z')) → SRX m4 p6 w.heap.size q (.cells C t z) := fun q C t z ho => by
    rcases ho with ho | ho
    · exact srx_sb ho
    · exact .inr (.inr (.inr ho))
  have hM : ∀ q es c, ¬ (SB b q (.map es c) ∨ (w.heap.size ≤ q ∧ ∃ C' z', Obj.map es c = .cells C' 3 z')) := fun q es c ho => by
    rcases ho with (⟨_, C, z, e⟩ | ⟨C, z, e⟩) | ⟨_, C, z, e⟩ <;> cases e
  have law1 := h.law.add nm 29 #[.pointer (some ⟨p4, 0, none⟩), .pointer (some ⟨p10, 0, none⟩), .pointer (some ⟨p6, 0, none⟩), .pointer (some ⟨p9, 0, none⟩)]
  refine ⟨⟨hr.out h.bx h.bx.size, bag', by rw [List.length_append]; have := h.len; simp; omega, ⟨by have := h.lst.1; omega, by have := h.lst.2; omega⟩, ?_, ?_, ?_, ⟨law1.up, law1.le, law1.aL, law1.kL, fun x hx => law1.lL x (List.mem_append_left _ hx), fun x hx => law1.law x (List.mem_append_left _ hx)⟩, ?_, Nat.le_trans h.hN hr.size, by have := h.lenA; omega, ?_, ar_step h.ar hr hS, Nat.le_succ_of_le h.alen, h.lo, h.apos⟩, law1⟩
  · intro t ht f c hf
    rcases List.mem_append.1 ht with ht | ht
    · exact box_step (L' := L) h.box hr hS (fun t ht => .inl ht) t ht f c hf
    · rw [List.mem_singleton] at ht
      subst ht
      injection hf with hf
      injection hf with e1 e2
      exact ⟨p10, p9, s, e1.symm, e2.symm, h10, h9⟩
  · intro g hg t ht f c hf
    rcases List.mem_append.1 ht with ht | ht
    · exact h.sep g hg t ht f c hf
    · rw [List.mem_singleton] at ht
      subst ht
      injection hf with hf
      injection hf with e1 e2
      subst e2
      have hlt := (h.ar.lt g hg).2
      intro e
      simp at e
  · intro t ht
    rcases List.mem_append.1 ht with ht | ht
    · exact h.pos t ht
    · rw [List.mem_singleton] at ht
      subst ht
      have := h.lst.1
      simp only
      omega
  · obtain ⟨b4, ⟨D4, n4, q1, q2⟩, v, q3, q4, q5⟩ := h.rev
    exact ⟨hr.block b4 (fun _ ho => srx_not (by decide) (by decide) (fun e => absurd e (by decide)) (hS _ _ _ _ ho)), ⟨D4, n4, map_block q1 hr (fun es c => hM _ _ _), q2⟩, v, hr.block q3 (fun _ ho => by
      rcases ho with ho | ⟨_, C, z, e⟩
      · exact SB_not (by decide) (by decide) ho
      · injection e with _ e2 _
        exact absurd e2 (by decide)), own_rel q4 hr (fun q C _ hq ho => srx_not (by decide) (by decide) (fun _ => (q4.lt q hq).2) (hS _ _ _ _ ho)), q5⟩
  · obtain ⟨D, n, h1, h2, h3⟩ := h.kp
    exact ⟨D, n, map_block h1 hr (fun es c => hM _ _ _), Nat.le_succ_of_le h2, h3⟩
/-- The list of all numbers grows. -/
theorem RV.grownA (h : RV W b p4 m4 m5 p6 va L A K al last k N0 [] w) {w3 : World} (hb : Below w.heap.size w w3) (hg : w3.grownBy w' va.ownBlock) {g2 cap2 : Nat} {x : Int} (hrow : w'.ownsRow W.heap.size 3 1 (.slice (some ⟨g2, 0, none⟩) (al.length + 1) cap2) (al.length + 1) (ic al ++ [.int .i64 x])) (hat : va.ownBlock = some g2 ∨ g2 = w3.heap.size) (law' : Law L A K (al ++ [x]) last) (hal : al.length + 1 ≤ k) (hx : 0 < x) :
    RV W b p4 m4 m5 p6 (.slice (some ⟨g2, 0, none⟩) (al.length + 1) cap2) L A K (al ++ [x]) last k N0 [] w' := by
  have h1 := h.below hb
  have r : Rel W.heap.size (fun q o => va.ownBlock = some q ∧ ∃ C z, o = .cells C 3 z) w3 w' := ⟨hg.os, hg.tape, hg.output, hg.size, fun j hj hx => hg.block j hj (fun e => hx (by
    obtain ⟨C, hC⟩ := own_type h1.ar e.symm
    exact ⟨(h1.ar.lt j e.symm).1, _, hC, e.symm, _, _, rfl⟩))⟩
  have nof : ∀ (t : Nat) (_ : t ≠ 3) (q : Nat) (C : Array Value) (z : Nat × Nat), ¬ (va.ownBlock = some q ∧ ∃ C' z', Obj.cells C t z = .cells C' 3 z') := fun t ht q C z ⟨_, C', z', e⟩ => by
    injection e with _ e2 _
    exact ht e2
  refine ⟨r.out h1.bx h1.bx.size, h1.bag.rel r (fun C z => nof _ (by decide) _ _ _) (fun q C z => nof _ (by decide) _ _ _), h1.len, h1.lst, ?_, ?_, h1.pos, law', ?_, Nat.le_trans h1.hN r.size, h1.lenA, ?_, by rw [ic_snoc, List.length_append]; exact hrow, by rw [List.length_append]; exact hal, h1.lo, fun y hy => (List.mem_append.1 hy).elim (h1.apos y) (fun e => by rw [List.mem_singleton.1 e]; exact hx)⟩
  · intro t ht f c hf
    obtain ⟨p10, p9, s, e1, e2, e3, e4⟩ := h1.box t ht f c hf
    refine ⟨p10, p9, s, e1, e2, r.block e3 (fun _ ho => h1.sep p10 ho.1 t ht f c hf (by rw [e2]; rfl)), r.block e4 (fun _ => nof _ (by decide) _ _ _)⟩
  · intro g hgg t ht f c hf
    have hgg : g2 = g := by injection hgg
    subst hgg
    rcases hat with hat | hat
    · exact h1.sep g2 hat t ht f c hf
    · obtain ⟨p10, p9, s, e1, e2, e3, e4⟩ := h1.box t ht f c hf
      have := (Array.getElem?_eq_some_iff.1 e3).1
      intro e
      rw [e2] at e
      simp at e
  · obtain ⟨b4, ⟨D4, n4, q1, q2⟩, v, q3, q4, q5⟩ := h1.rev
    have hv := q5 rfl
    subst hv
    exact ⟨r.block b4 (fun _ => nof _ (by decide) _ _ _), ⟨D4, n4, map_block q1 r (fun es c ⟨_, C', z', e⟩ => by cases e), q2⟩, _, r.block q3 (fun _ => nof _ (by decide) _ _ _), World.ownsRow_nil _ _ _ _, fun _ => rfl⟩
  · obtain ⟨D, n, q1, q2, q3⟩ := h1.kp
    exact ⟨D, n, map_block q1 r (fun es c ⟨_, C', z', e⟩ => by cases e), q2, q3⟩
theorem RV.up (h : RV W b p4 m4 m5 p6 va L A K al last k N0 now w) {k' : Nat} (hk : k ≤ k') : RV W b p4 m4 m5 p6 va L A K al last k' N0 now w :=
  h.step (S := fun _ _ => False) (Rel.refl _ _ _) (fun _ _ e => e.elim) h.bag (Nat.le_trans h.len hk) ⟨h.lst.1, by have := h.lst.2; omega⟩ (fun t ht => .inl ht) h.pos h.law h.rev h.hN (by have := h.lenA; omega) hk
end
section
variable {W w w' : World} {b p4 m4 m5 p6 : Nat} {va : Value} {L : List Th} {A K al : List Int} {last : Int} {k N0 : Nat} {now : List Int}
theorem RV.mark (h : RV W b p4 m4 m5 p6 va L A K al last k N0 now w) {nm : ByteArray} (hr : Rel W.heap.size (SB b) w w') (bag' : BagAt w' W.heap.size b (L ++ [⟨last + 1, nm, none⟩]) (last + 1) false false) : RV W b p4 m4 m5 p6 va (L ++ [⟨last + 1, nm, none⟩]) A K al (last + 1) (k + 1) N0 now w' :=
  h.step hr (fun k o ho => srx_sb ho) bag' (by rw [List.length_append]; have := h.len; simp; omega) ⟨by have := h.lst.1; omega, by have := h.lst.2; omega⟩ (fun t ht => (List.mem_append.1 ht).elim .inl (fun e => by rw [List.mem_singleton] at e; subst e; exact .inr rfl)) (fun t ht => (List.mem_append.1 ht).elim (h.pos t) (fun e => by rw [List.mem_singleton] at e; subst e; have := h.lst.1; simp only; omega)) (h.law.mark nm)
    (h.rev.rel hr (fun k C z => ⟨SB_not (by decide) (by decide), SB_not (by decide) (by decide), SB_not (by decide) (by decide)⟩) (fun k es c ho => by rcases ho with ⟨_, C, z, e⟩ | ⟨C, z, e⟩ <;> cases e)) (Nat.le_trans h.hN hr.size) (by have := h.lenA; omega) (Nat.le_succ k)
theorem RV.undo (h : RV W b p4 m4 m5 p6 va L A K al last k w.heap.size [] w) {i : Nat} {id : Int} (hp : posT L id false = some i) (hr : Rel W.heap.size (SX b w.heap.size (SR m4 p6 w.heap.size)) w w') (bag' : BagAt w' W.heap.size b (L.eraseIdx i) last false false) (rev' : RevI w' p4 m4 p6 w.heap.size (A ++ [id]) [id]) :
    RV W b p4 m4 m5 p6 va (L.eraseIdx i) (A ++ [id]) K al last (k + 1) w.heap.size [id] w' := by
  obtain ⟨hi, hmt⟩ := posT_lt hp
  simp only [matchT, Bool.and_eq_true, decide_eq_true_eq, beq_iff_eq] at hmt
  have hsub : ∀ t ∈ L.eraseIdx i, t ∈ L := fun t ht => (List.eraseIdx_sublist L i).subset ht
  refine h.step hr (fun k o ho => srx_sx ho) bag' (Nat.le_trans (List.eraseIdx_sublist L i).length_le (Nat.le_succ_of_le h.len)) ⟨h.lst.1, by have := h.lst.2; omega⟩ (fun t ht => .inl (hsub t ht)) (fun t ht => h.pos t (hsub t ht)) ?_ rev' hr.size (by rw [List.length_append]; have := h.lenA; simp; omega) (Nat.le_succ k)
  have h0 := h.law
  rw [split_at hi] at h0
  have h1 := h0.call
  rw [erase_at]
  have hf : L[i].fn.isSome = true := by cases hf : L[i].fn with | none => rw [hf] at hmt; simp at hmt | some f => rfl
  rw [List.reverse_singleton, idsT_some hf, hmt.1] at h1
  exact h1
theorem RV.back (h : RV W b p4 m4 m5 p6 va L A K al last k w.heap.size [] w) {i : Nat} (hr : Rel W.heap.size (SX b w.heap.size (SR m4 p6 w.heap.size)) w w') (bag' : BagAt w' W.heap.size b (L.take i) last false false) (rev' : RevI w' p4 m4 p6 w.heap.size (A ++ idsT (L.drop i).reverse) (idsT (L.drop i).reverse)) (hk : k ≤ 200) :
    RV W b p4 m4 m5 p6 va (L.take i) (A ++ idsT (L.drop i).reverse) K al last (k + 1) w.heap.size (idsT (L.drop i).reverse) w' ∧ (idsT (L.drop i).reverse).Pairwise (· > ·) ∧ (idsT (L.drop i).reverse).length ≤ 256 := by
  have hsub : ∀ t ∈ L.take i, t ∈ L := fun t ht => (List.take_sublist i L).subset ht
  have hlen : (idsT (L.drop i).reverse).length ≤ 200 := by
    refine Nat.le_trans (idsT_le _) ?_
    rw [List.length_reverse, List.length_drop]
    have := h.len
    omega
  have law1 : Law (L.take i ++ L.drop i ++ []) A K al last := by rw [List.append_nil, List.take_append_drop]; exact h.law
  refine ⟨h.step hr (fun k o ho => srx_sx ho) bag' (Nat.le_trans (List.take_sublist i L).length_le (Nat.le_succ_of_le h.len)) ⟨h.lst.1, by have := h.lst.2; omega⟩ (fun t ht => .inl (hsub t ht)) (fun t ht => h.pos t (hsub t ht)) ?_ rev' hr.size (by rw [List.length_append]; have := h.lenA; omega) (Nat.le_succ k), law1.falls, by omega⟩
  have := law1.call
  rw [List.append_nil] at this
  exact this
end
theorem RV.begin {W w2 w6 : World} {b : Nat} (hB : Below W.heap.size W w2) (bag : BagAt w2 W.heap.size b [] 0 false false) (h6 : w6 = (((w2.alloc (.map #[] 0)).alloc (.cells #[.map (some w2.heap.size)] 72)).alloc (.map #[] 0)).alloc (.cells #[.slice none 0 0] 30)) :
    RV W b (w2.heap.size + 1) w2.heap.size (w2.heap.size + 1 + 1) (w2.heap.size + 1 + 1 + 1) (.slice none 0 0) [] [] [] [] 0 0 w6.heap.size [] w6 := by
  have z3 : (w2.alloc (.map #[] 0)).heap.size = w2.heap.size + 1 := size_alloc _ _
  have m3 : (w2.alloc (.map #[] 0)).ownsMap Try.prog 3 (plainElem Try.prog 3) w2.heap.size 0 (.map [] : DataW Unit) := World.ownsMap_made _ _ _ _
  have b3 := (Below.refl w2.heap.size w2).alloc (Nat.le_refl _) (.map #[] 0)
  obtain ⟨w3, e3⟩ : ∃ x, x = w2.alloc (.map #[] 0) := ⟨_, rfl⟩
  rw [← e3] at z3 m3 b3 h6
  have z4 : (w3.alloc (.cells #[.map (some w2.heap.size)] 72)).heap.size = w3.heap.size + 1 := size_alloc _ _
  have c4 := heap_alloc_new w3 (.cells #[.map (some w2.heap.size)] 72)
  have b4 := (Below.refl w3.heap.size w3).alloc (Nat.le_refl _) (.cells #[.map (some w2.heap.size)] 72)
  obtain ⟨w4, e4⟩ : ∃ x, x = w3.alloc (.cells #[.map (some w2.heap.size)] 72) := ⟨_, rfl⟩
  rw [← e4] at z4 c4 b4 h6
  have z5 : (w4.alloc (.map #[] 0)).heap.size = w4.heap.size + 1 := size_alloc _ _
  have m5 : (w4.alloc (.map #[] 0)).ownsMap Try.prog 3 (plainElem Try.prog 4) w4.heap.size 0 (.map [] : DataW Unit) := World.ownsMap_made _ _ _ _
  have b5 := (Below.refl w4.heap.size w4).alloc (Nat.le_refl _) (.map #[] 0)
  obtain ⟨w5, e5⟩ : ∃ x, x = w4.alloc (.map #[] 0) := ⟨_, rfl⟩
  rw [← e5] at z5 m5 b5 h6
  have c6 := heap_alloc_new w5 (.cells #[.slice none 0 0] 30)
  have b6 := (Below.refl w5.heap.size w5).alloc (Nat.le_refl _) (.cells #[.slice none 0 0] 30)
  rw [← h6] at c6 b6
  clear e3 e4 e5 h6
  have zb := hB.size
  have b26 : Below w2.heap.size w2 w6 := ((b3.trans (b4.mono (by omega))).trans (b5.mono (by omega))).trans (b6.mono (by omega))
  have b46 : Below w4.heap.size w4 w6 := b5.trans (b6.mono (by omega))
  have b36 : Below w3.heap.size w3 w6 := b4.trans (b46.mono (by omega))
  rw [show w2.heap.size + 1 + 1 = w4.heap.size by omega, show w4.heap.size + 1 = w5.heap.size by omega, show w2.heap.size + 1 = w3.heap.size by omega]
  have q4 := (b46.block w3.heap.size (by omega)).trans c4
  refine ⟨hB.trans (b26.mono hB.size), bag.below b26, Nat.le_refl _, ⟨by decide, by decide⟩, (fun t ht => by cases ht), (fun g hg => by cases hg), (fun t ht => by cases ht), Law.nil, ⟨q4, ⟨_, 0, owns_same m3 (b36.block _ (by omega)), Nat.le_refl _, fun x => rfl⟩, _, c6, World.ownsRow_nil _ _ _ _, fun _ => rfl⟩, Nat.le_refl _, Nat.zero_le _, ⟨_, 0, owns_same m5 (b6.block _ (by omega)), Nat.le_refl _, fun x => rfl⟩, World.ownsRow_nil _ _ _ _, Nat.le_refl _, ⟨hB.size, by omega, by omega⟩, fun x hx => by cases hx⟩
/-- What stands in the end. -/
structure RF (W : World) (b p4 m4 m5 p6 : Nat) (va : Value) (A K al now : List Int) (last : Int) (N0 : Nat) (w : World) : Prop where
  bx : Below W.heap.size W w
  bag : BagAt w W.heap.size b [] last false true
  rev : RevI w p4 m4 p6 N0 A now
  kp : KpAt w m5 200 K
  ar : w.ownsRow W.heap.size 3 1 va al.length (ic al)
  law : ∀ x ∈ al, (x ∈ K ∧ A.count x = 0) ∨ (x ∉ K ∧ A.count x = 1)
  wf : ∀ x ∈ al, (Lit.int .i64 x).wf = true
  alen : al.length ≤ 200
section
variable {W w w' : World} {b p4 m4 m5 p6 : Nat} {va : Value} {L : List Th} {A K al : List Int} {last : Int} {N0 : Nat} {now : List Int}
theorem RF.below (h : RF W b p4 m4 m5 p6 va A K al now last N0 w) (hb : Below w.heap.size w w') : RF W b p4 m4 m5 p6 va A K al now last N0 w' :=
  ⟨h.bx.trans (hb.mono h.bx.size), h.bag.below hb, h.rev.rel (Rel.below (B := 0) (S := fun _ _ => False) hb) (fun _ _ _ => ⟨id, id, id⟩) (fun _ _ _ => id), by
    obtain ⟨D, n, h1, h2, h3⟩ := h.kp
    exact ⟨D, n, map_block h1 (Rel.below (B := 0) (S := fun _ _ => False) hb) (fun _ _ => id), h2, h3⟩, own_below h.ar hb, h.law, h.wf, h.alen⟩
theorem RV.fin (h : RV W b p4 m4 m5 p6 va L A K al last 200 w.heap.size [] w) (hr : Rel W.heap.size (SC b w.heap.size (SR m4 p6 w.heap.size)) w w') (bag' : BagAt w' W.heap.size b [] last false true) (rev' : RevI w' p4 m4 p6 w.heap.size (A ++ idsT L.reverse) (idsT L.reverse)) :
    RF W b p4 m4 m5 p6 va (A ++ idsT L.reverse) K al (idsT L.reverse) last w.heap.size w' := by
  have hS := fun k o (ho : SC b w.heap.size (SR m4 p6 w.heap.size) k o) => srx_sc (m4 := m4) (p6 := p6) ho
  have law1 : Law ([] ++ L ++ []) A K al last := by simpa using h.law
  exact ⟨hr.out h.bx h.bx.size, bag', rev', kp_step h.kp hr hS h.lo.2.2 (Nat.le_refl _), ar_step h.ar hr (fun _ _ _ _ ho => hS _ _ ho), law1.call.last, fun x hx => by
    have h1 := h.apos x hx
    have h2 := h.law.lL x hx
    have h3 := h.lst.2
    have m1 : IntKind.i64.min = -9223372036854775808 := rfl
    have m2 : IntKind.i64.max = 9223372036854775807 := rfl
    simp only [Lit.wf, m1, m2, Bool.and_eq_true, decide_eq_true_eq]
    omega, h.alen⟩
end
/-- Two that stand side by side. -/
theorem falls_at {l : List Int} (h : l.Pairwise (· > ·)) {j : Nat} (h1 : 1 ≤ j) (h2 : j < l.length) : l[j] < l[j - 1]'(by omega) := by
  have := List.pairwise_iff_getElem.1 h (j - 1) j (by omega) h2 (by omega)
  omega
end Go.Proofs.Ytnajbogmhhlpcaa
