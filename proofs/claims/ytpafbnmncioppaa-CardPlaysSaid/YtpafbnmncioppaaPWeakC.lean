/- Cards that are there, whatever they say: kept where texts are written over. Plain law (told, step). -/
import Derived.Test.YtpafbnmncioppaaPSameN
namespace Go.Proofs.Ytpafbnmncioppaa
open Go.RowKit Go.ChangeShapes
/-- Texts that are there and may be written. -/
def StrW (w : World) (B : Nat) (v : Value) : Prop :=
  ∃ a n c, v = .slice a n c ∧ n ≤ maxLen ∧ n ≤ c ∧ ∀ j, j < n → ∃ b off, a = some ⟨b, off, none⟩ ∧ B ≤ b ∧ (∃ s, w.cell? ⟨b, off + j, none⟩ = some (.string s)) ∧ w.frozen? ⟨b, off + j, none⟩ = false
theorem StrW.nil (w : World) (B : Nat) : StrW w B (.slice none 0 0) := ⟨none, 0, 0, rfl, by unfold maxLen; omega, Nat.le_refl _, fun j hj => by omega⟩
theorem StrW.set {w : World} {B : Nat} {v : Value} (h : StrW w B v) {a : Addr} {x : ByteArray} (ha : w.cell? a = some (.string x)) (y : ByteArray) : StrW (w.setCell a (.string y)) B v := by
  obtain ⟨ad, n, c, e, h1, h2, h3⟩ := h
  refine ⟨ad, n, c, e, h1, h2, fun j hj => ?_⟩
  obtain ⟨b, off, e2, h4, ⟨s, h5⟩, h6⟩ := h3 j hj
  refine ⟨b, off, e2, h4, ?_, by rw [World.frozen?_setCell]; exact h6⟩
  by_cases he : a = ⟨b, off + j, none⟩
  · subst he
    exact ⟨y, World.cell?_setCell_same _ _ _ ha⟩
  · exact ⟨s, by rw [World.cell?_setCell_other _ _ _ _ he]; exact h5⟩
theorem strW_own {w : World} {B : Nat} {v : Value} {ss : List ByteArray} (h : w.ownsRow B 9 1 v ss.length (sc ss)) (hm : ss.length ≤ maxLen) : StrW w B v := by
  have h' := h
  rcases h.2 with ⟨rfl, h0⟩ | ⟨g, cap, cur, rfl, hg, hx⟩
  · rw [show (Value.slice none 0 0) = .slice none 0 0 from rfl]
    exact StrW.nil w B
  · exact ⟨some ⟨g, 0, none⟩, ss.length, cap, rfl, hm, hx.2.1, fun j hj => ⟨g, 0, rfl, hg, ⟨nthS ss j, by rw [Nat.zero_add]; exact sc_at h' rfl j hj⟩, by rw [Nat.zero_add]; exact h'.frozenAt j⟩⟩
theorem StrW.keep {w w' : World} {B : Nat} {v : Value} (h : StrW w B v) (hk : ∀ a : Addr, ∀ s, w.cell? a = some (.string s) → ∃ t, w'.cell? a = some (.string t)) (hf : ∀ a, w'.frozen? a = w.frozen? a) : StrW w' B v := by
  obtain ⟨ad, n, c, e, h1, h2, h3⟩ := h
  refine ⟨ad, n, c, e, h1, h2, fun j hj => ?_⟩
  obtain ⟨b, off, e2, h4, ⟨s, h5⟩, h6⟩ := h3 j hj
  exact ⟨b, off, e2, h4, hk _ s h5, by rw [hf]; exact h6⟩
/-- What kind of thing a card's cell holds. -/
def kindV : Value → Nat
  | .string _ => 1
  | .int .u8 _ => 2
  | .int .i8 _ => 3
  | .int .i16 _ => 4
  | .slice _ _ _ => 5
  | _ => 0
theorem kind_string {v : Value} (h : kindV v = 1) : ∃ s, v = .string s := by
  unfold kindV at h
  split at h <;> first | exact ⟨_, rfl⟩ | omega
/-- Nothing is frozen that was not; each cell stays, or holds a thing of its kind. -/
def Like (B : Nat) (w w' : World) : Prop := (∀ a, w'.frozen? a = w.frozen? a) ∧ ∀ a v, w.cell? a = some v → ∃ v', w'.cell? a = some v' ∧ kindV v' = kindV v ∧ (v' = v ∨ StrW w' B v' ∨ kindV v ≠ 5)
theorem Like.str {B : Nat} {w w' : World} {v : Value} (h : Like B w w') (hs : StrW w B v) : StrW w' B v := hs.keep (fun a s ha => by
  obtain ⟨v', h1, h2, _⟩ := h.2 a _ ha
  obtain ⟨t, rfl⟩ := kind_string h2
  exact ⟨t, h1⟩) h.1
theorem Like.refl (B : Nat) (w : World) : Like B w w := ⟨fun _ => rfl, fun _ v h => ⟨v, h, rfl, .inl rfl⟩⟩
theorem Like.trans {B : Nat} {w w1 w2 : World} (h : Like B w w1) (k : Like B w1 w2) : Like B w w2 := by
  refine ⟨fun a => (k.1 a).trans (h.1 a), fun a v ha => ?_⟩
  obtain ⟨v1, a1, k1, d1⟩ := h.2 a v ha
  obtain ⟨v2, a2, k2, d2⟩ := k.2 a v1 a1
  refine ⟨v2, a2, k2.trans k1, ?_⟩
  rcases d1 with d1 | d1 | d1
  · subst d1
    exact d2
  · rcases d2 with d2 | d2 | d2
    · subst d2
      exact .inr (.inl (k.str d1))
    · exact .inr (.inl d2)
    · exact .inr (.inr (by rw [← k1]; exact d2))
  · exact .inr (.inr d1)
theorem Like.set {B : Nat} {w : World} {a : Addr} {x y : Value} (ha : w.cell? a = some x) (hk : kindV y = kindV x) (hy : y = .slice none 0 0 ∨ kindV x ≠ 5) : Like B w (w.setCell a y) := by
  refine ⟨fun b => by rw [World.frozen?_setCell], fun b v hb => ?_⟩
  by_cases e : a = b
  · subst e
    rw [ha] at hb
    cases hb
    refine ⟨y, World.cell?_setCell_same _ _ _ ha, hk, ?_⟩
    rcases hy with rfl | hy
    · exact .inr (.inl (StrW.nil _ _))
    · exact .inr (.inr hy)
  · exact ⟨v, by rw [World.cell?_setCell_other _ _ _ _ e]; exact hb, rfl, .inl rfl⟩
theorem Like.put {B g : Nat} : ∀ (vs : List Value) (w : World) (p : Nat), (∀ j (v : Value), vs[j]? = some v → ∃ x, w.cell? ⟨g, p + j, none⟩ = some x ∧ kindV v = kindV x ∧ (v = .slice none 0 0 ∨ kindV x ≠ 5)) → Like B w (putAll w g p vs)
  | [], w, _, _ => Like.refl B w
  | v :: vs, w, p, h => by
    obtain ⟨x, h1, h2, h3⟩ := h 0 v rfl
    have s := Like.set (B := B) h1 h2 h3
    refine s.trans (Like.put vs _ _ fun j u hj => ?_)
    obtain ⟨y, g1, g2, g3⟩ := h (j + 1) u hj
    refine ⟨y, ?_, g2, g3⟩
    rw [World.cell?_setCell_other _ _ _ _ (fun e => by injection e with _ e2; omega), show p + 1 + j = p + (j + 1) by omega]
    exact g1
/-- The kinds of a card's cells. -/
def ckinds : List Nat := [1, 1, 2, 5, 3, 1, 4]
/-- n cards that are there and may be written, in block g. -/
def CardW (w : World) (B g n : Nat) : Prop :=
  B ≤ g ∧ (∀ p, p < n * 7 → w.frozen? ⟨g, p, none⟩ = false) ∧ ∀ i, i < n → (∀ j k, ckinds[j]? = some k → ∃ v, w.cell? ⟨g, i * 7 + j, none⟩ = some v ∧ kindV v = k) ∧ ∃ sl, w.cell? ⟨g, i * 7 + 3, none⟩ = some sl ∧ StrW w B sl
theorem CardW.like {w w' : World} {B g n : Nat} (h : CardW w B g n) (hl : Like B w w') : CardW w' B g n := by
  obtain ⟨h1, h2, h3⟩ := h
  refine ⟨h1, fun p hp => (hl.1 _).trans (h2 p hp), fun i hi => ?_⟩
  obtain ⟨h4, sl, h5, h6⟩ := h3 i hi
  refine ⟨fun j k hk => ?_, ?_⟩
  · obtain ⟨v, h7, h8⟩ := h4 j k hk
    obtain ⟨v', g1, g2, _⟩ := hl.2 _ _ h7
    exact ⟨v', g1, g2.trans h8⟩
  · obtain ⟨v', g1, g2, g3⟩ := hl.2 _ _ h5
    refine ⟨v', g1, ?_⟩
    rcases g3 with rfl | g3 | g3
    · exact hl.str h6
    · exact g3
    · obtain ⟨a, m, c, e, _⟩ := h6
      subst e
      exact absurd rfl g3
/-- A slice of cards that may be written; its block is below G. -/
def CardsW (w : World) (B G : Nat) (v : Value) : Prop := ∃ a n c, v = .slice a n c ∧ n ≤ maxLen ∧ n ≤ c ∧ (n = 0 ∨ ∃ g, a = some ⟨g, 0, none⟩ ∧ CardW w B g n ∧ g < G)
theorem CardsW.like {w w' : World} {B G : Nat} {v : Value} (h : CardsW w B G v) (hl : Like B w w') : CardsW w' B G v := by
  obtain ⟨a, n, c, e, h1, h2, h3⟩ := h
  refine ⟨a, n, c, e, h1, h2, ?_⟩
  rcases h3 with h3 | ⟨g, h4, h5, h6⟩
  · exact .inl h3
  · exact .inr ⟨g, h4, h5.like hl, h6⟩
/-- A card that says nothing but a name is stored. -/
theorem CardW.put {w : World} {B g n i : Nat} (h : CardW w B g n) (hi : i < n) (t u q : ByteArray) (l s e : Int) : Like B w (putAll w g (i * 7) [.string t, .string u, .int .u8 l, .slice none 0 0, .int .i8 s, .string q, .int .i16 e]) := by
  obtain ⟨h1, _⟩ := h.2.2 i hi
  refine Like.put _ _ _ fun j v hj => ?_
  have hj7 : j < 7 := (List.getElem?_eq_some_iff.1 hj).1
  have hk : ckinds[j]? = some (kindV v) ∧ (v = .slice none 0 0 ∨ kindV v ≠ 5) := by
    rcases (by omega : j = 0 ∨ j = 1 ∨ j = 2 ∨ j = 3 ∨ j = 4 ∨ j = 5 ∨ j = 6) with rfl | rfl | rfl | rfl | rfl | rfl | rfl <;> (cases hj; simp [ckinds, kindV])
  obtain ⟨x, g1, g2⟩ := h1 j _ hk.1
  exact ⟨x, g1, g2.symm, by rw [g2]; exact hk.2⟩
theorem CardW.there {w : World} {B g n i : Nat} (h : CardW w B g n) (hi : i < n) : w.there g (i * 7) 7 := fun j hj => by
  refine ⟨?_, h.2.1 _ (by omega)⟩
  obtain ⟨h1, _⟩ := h.2.2 i hi
  obtain ⟨v, g1, _⟩ := h1 j _ (List.getElem?_eq_getElem (by simpa [ckinds] using hj))
  rw [g1]
  rfl
/-- Notes that are there and may be written. -/
def NotesW (w : World) (B : Nat) (v : Value) : Prop := ∃ a n c, v = .slice a n c ∧ n ≤ c ∧ (n = 0 ∨ ∃ g, a = some ⟨g, 0, none⟩ ∧ B ≤ g ∧ ∀ p, p < n * 4 → (w.cell? ⟨g, p, none⟩).isSome = true ∧ w.frozen? ⟨g, p, none⟩ = false)
theorem NotesW.like {w w' : World} {B : Nat} {v : Value} (h : NotesW w B v) (hl : (∀ a, w'.frozen? a = w.frozen? a) ∧ ∀ a, (w.cell? a).isSome = true → (w'.cell? a).isSome = true) : NotesW w' B v := by
  obtain ⟨a, n, c, e, h1, h2⟩ := h
  refine ⟨a, n, c, e, h1, ?_⟩
  rcases h2 with h2 | ⟨g, h3, h4, h5⟩
  · exact .inl h2
  · exact .inr ⟨g, h3, h4, fun p hp => ⟨hl.2 _ (h5 p hp).1, (hl.1 _).trans (h5 p hp).2⟩⟩
theorem Like.some {B : Nat} {w w' : World} (h : Like B w w') : (∀ a, w'.frozen? a = w.frozen? a) ∧ ∀ a, (w.cell? a).isSome = true → (w'.cell? a).isSome = true := ⟨h.1, fun a ha => by
  obtain ⟨v, hv⟩ := Option.isSome_iff_exists.1 ha
  obtain ⟨v', h1, _⟩ := h.2 a v hv
  rw [h1]
  rfl⟩
theorem some_set (w : World) (a : Addr) (y : Value) : (∀ b, (w.setCell a y).frozen? b = w.frozen? b) ∧ ∀ b, (w.cell? b).isSome = true → ((w.setCell a y).cell? b).isSome = true := ⟨fun b => by rw [World.frozen?_setCell], fun b hb => by
  obtain ⟨v, hv⟩ := Option.isSome_iff_exists.1 hb
  by_cases e : a = b
  · subst e
    rw [World.cell?_setCell_same _ _ _ hv]
    rfl
  · rw [World.cell?_setCell_other _ _ _ _ e]
    exact hb⟩
theorem some_put {g : Nat} : ∀ (vs : List Value) (w : World) (p : Nat), (∀ b, (putAll w g p vs).frozen? b = w.frozen? b) ∧ ∀ b, (w.cell? b).isSome = true → ((putAll w g p vs).cell? b).isSome = true
  | [], w, _ => ⟨fun _ => rfl, fun _ h => h⟩
  | v :: vs, w, p => ⟨fun b => ((some_put vs _ _).1 b).trans ((some_set w _ _).1 b), fun b hb => (some_put vs _ _).2 b ((some_set w _ _).2 b hb)⟩
theorem cardW_own {w : World} {B g c : Nat} {l : List (Cd × Value)} (h : w.ownsRow B 38 7 (.slice (some ⟨g, 0, none⟩) l.length c) l.length (ccells l)) (hr : RowsOf w B l) (hm : ∀ r ∈ l, r.1.comp.length ≤ maxLen) : CardW w B g l.length := by
  have hB : B ≤ g := (h.lt g rfl).1
  refine ⟨hB, fun p hp => h.frozenAt p, fun i hi => ?_⟩
  have at' : ∀ j (v : Value), (l[i].1.cells l[i].2)[j]? = some v → w.cell? ⟨g, i * 7 + j, none⟩ = some v := fun j v hv => by
    have hj : j < 7 := by
      have := (List.getElem?_eq_some_iff.1 hv).1
      simpa [Cd.cells] using this
    rw [h.cellAt (i * 7 + j) (by omega)]
    exact ccells_at l i hi j _ hv
  obtain ⟨a, c', e⟩ := own_slice (hr _ (List.getElem_mem hi))
  refine ⟨fun j k hk => ?_, l[i].2, at' 3 _ rfl, strW_own (hr _ (List.getElem_mem hi)) (hm _ (List.getElem_mem hi))⟩
  have hj7 : j < 7 := (List.getElem?_eq_some_iff.1 hk).1
  rcases (by omega : j = 0 ∨ j = 1 ∨ j = 2 ∨ j = 3 ∨ j = 4 ∨ j = 5 ∨ j = 6) with rfl | rfl | rfl | rfl | rfl | rfl | rfl <;> (cases hk; refine ⟨_, at' _ _ rfl, ?_⟩; first | rfl | (rw [e]; rfl))
theorem cardsW_own {w : World} {B : Nat} {a : Option Addr} {c : Nat} {l : List (Cd × Value)} (h : w.ownsRow B 38 7 (.slice a l.length c) l.length (ccells l)) (hr : RowsOf w B l) (hm : ∀ r ∈ l, r.1.comp.length ≤ maxLen) (hl : l.length ≤ maxLen) : CardsW w B w.heap.size (.slice a l.length c) := by
  have h' := h
  rcases h.2 with ⟨e, h0⟩ | ⟨g, cap, cur, e, hg, hx⟩
  · exact ⟨a, l.length, c, rfl, hl, by omega, .inl h0⟩
  · injection e with e1 _ e3
    subst e1 e3
    exact ⟨_, _, _, rfl, hl, hx.2.1, .inr ⟨g, rfl, cardW_own h' hr hm, (h'.lt g rfl).2⟩⟩
theorem notesW_own {w : World} {B : Nat} {a : Option Addr} {n c : Nat} {xs : List Value} (hx : xs.length = n * 4) (h : w.ownsRow B 80 4 (.slice a n c) n xs) : NotesW w B (.slice a n c) := by
  have h' := h
  rcases h.2 with ⟨e, h0⟩ | ⟨g, cap, cur, e, hg, hy⟩
  · exact ⟨a, n, c, rfl, by omega, .inl h0⟩
  · injection e with e1 _ e3
    subst e1 e3
    refine ⟨_, _, _, rfl, hy.2.1, .inr ⟨g, rfl, hg, fun p hp => ⟨?_, h'.frozenAt p⟩⟩⟩
    rw [h'.cellAt p hp]
    exact Option.isSome_iff_exists.2 ⟨_, List.getElem?_eq_getElem (by rw [hx]; exact hp)⟩
theorem wpList_store_all {P : Program} {ops : Array Oper} {rest : List Oper} {op : Oper} {a : Act} {w : World} {Q : Exit → Act → World → Prop} (hgd : op.guard = none) (ty : TypeId) (x y : Operand) (ho : op.op = .store ty x y)
    (b o : Nat) (cs : List Value) (hx : a.eval x = .pointer (some ⟨b, o, none⟩)) (hy : a.eval y = .agg cs.toArray) (ht : w.there b o cs.length) (hi : (P.info? ty).map (·.size) = some cs.length) (h1 : ∀ v ∈ cs, v.oneCell' = true)
    (h : ∀ W4, Hid (W4 = putAll w b o cs) → wpList P ops Q rest (a.put op.dst undef) W4) : wpList P ops Q (op :: rest) a w :=
  wpList_plain hgd fun _ hK => wp_store_all ty x y ho b o cs hx hy ht hi h1 (fun W4 h4 => hK _ _ (h W4 h4))
theorem putAll_other {g b : Nat} (hne : b ≠ g) : ∀ (vs : List Value) (w : World) (p : Nat), (putAll w g p vs).heap[b]? = w.heap[b]?
  | [], _, _ => rfl
  | v :: vs, w, p => (putAll_other hne vs _ _).trans (Below.heap_setCell w _ _ b (by simpa using hne))
theorem putAll_cell {g b : Nat} (hne : b ≠ g) (vs : List Value) (w : World) (p j : Nat) {u : Value} (h : w.cell? ⟨b, j, none⟩ = some u) : (putAll w g p vs).cell? ⟨b, j, none⟩ = some u := by
  rw [← h]
  unfold World.cell?
  rw [putAll_other hne vs w p]
theorem putAll_below {b g : Nat} {W : World} (hg : b ≤ g) : ∀ (vs : List Value) (w : World) (p : Nat), Below b W w → Below b W (putAll w g p vs)
  | [], _, _, h => h
  | v :: vs, w, p, h => putAll_below hg vs _ _ (Below.setCell h (p := ⟨g, p, none⟩) hg v)
/-- Two rows of cards, one of notes, all to be written over; a row of the two, in block G. -/
structure TwoW (B G : Nat) (va vb vc : Value) (w : World) : Prop where
  le : B ≤ G
  a : CardsW w B G va
  b : CardsW w B G vb
  c : NotesW w B vc
  x : w.cell? ⟨G, 0, none⟩ = some va
  y : w.cell? ⟨G, 1, none⟩ = some vb
theorem TwoW.no {B G : Nat} {va vb vc : Value} {w : World} (h : TwoW B G va vb vc w) {a : Addr} {s : ByteArray} (ha : w.cell? a = some (.string s)) : a ≠ ⟨G, 0, none⟩ ∧ a ≠ ⟨G, 1, none⟩ := by
  obtain ⟨_, _, _, e1, _⟩ := h.a
  obtain ⟨_, _, _, e2, _⟩ := h.b
  refine ⟨fun e => ?_, fun e => ?_⟩
  · rw [e, h.x, e1] at ha
    cases ha
  · rw [e, h.y, e2] at ha
    cases ha
theorem TwoW.str {B G : Nat} {va vb vc : Value} {w : World} (h : TwoW B G va vb vc w) {a : Addr} {s : ByteArray} (ha : w.cell? a = some (.string s)) (t : ByteArray) : TwoW B G va vb vc (w.setCell a (.string t)) := by
  have hl : Like B w (w.setCell a (.string t)) := Like.set ha rfl (.inr (by simp [kindV]))
  have hn := h.no ha
  exact ⟨h.le, h.a.like hl, h.b.like hl, h.c.like hl.some, by rw [World.cell?_setCell_other _ _ _ _ hn.1]; exact h.x, by rw [World.cell?_setCell_other _ _ _ _ hn.2]; exact h.y⟩
theorem TwoW.put {B G g n i : Nat} {va vb vc : Value} {w : World} (h : TwoW B G va vb vc w) (hg : g < G) (hc : CardW w B g n) (hi : i < n) (t u q : ByteArray) (l s e : Int) : TwoW B G va vb vc (putAll w g (i * 7) [.string t, .string u, .int .u8 l, .slice none 0 0, .int .i8 s, .string q, .int .i16 e]) := by
  have hl := hc.put hi t u q l s e
  exact ⟨h.le, h.a.like hl, h.b.like hl, h.c.like hl.some, putAll_cell (by omega) _ _ _ _ h.x, putAll_cell (by omega) _ _ _ _ h.y⟩
/-- What the k-th of the two is. -/
theorem TwoW.at {B G : Nat} {va vb vc : Value} {w : World} (h : TwoW B G va vb vc w) (k : Nat) (hk : k < 2) : ∃ v, w.cell? ⟨G, k, none⟩ = some v ∧ (v = va ∨ v = vb) := by
  rcases (by omega : k = 0 ∨ k = 1) with rfl | rfl
  · exact ⟨va, h.x, .inl rfl⟩
  · exact ⟨vb, h.y, .inr rfl⟩
theorem TwoW.one {B G : Nat} {va vb vc v : Value} {w : World} (h : TwoW B G va vb vc w) (hv : v = va ∨ v = vb) : CardsW w B G v := by
  rcases hv with rfl | rfl
  · exact h.a
  · exact h.b
/-- A row of cards that has an i-th: its block, the i-th card's texts. -/
theorem CardsW.get {B G n i c : Nat} {a : Option Addr} {w : World} (h : CardsW w B G (.slice a n c)) (hi : i < n) : ∃ g, a = some ⟨g, 0, none⟩ ∧ g < G ∧ B ≤ g ∧ CardW w B g n ∧ ∃ am m cm, w.cell? ⟨g, i * 7 + 3, none⟩ = some (.slice am m cm) ∧ m ≤ maxLen ∧ StrW w B (.slice am m cm) := by
  obtain ⟨a', n', c', e, h1, h2, h3⟩ := h
  cases e
  rcases h3 with h3 | ⟨g, h4, h5, h6⟩
  · omega
  · obtain ⟨_, sl, g1, g2⟩ := h5.2.2 i hi
    have g2' := g2
    obtain ⟨am, m, cm, e, g3, _⟩ := g2
    subst e
    exact ⟨g, h4, h6, h5.1, h5, am, m, cm, g1, g3, g2'⟩
theorem CardsW.len {B G n c : Nat} {a : Option Addr} {w : World} (h : CardsW w B G (.slice a n c)) : n ≤ maxLen ∧ n ≤ c := by
  obtain ⟨a', n', c', e, h1, h2, h3⟩ := h
  cases e
  exact ⟨h1, h2⟩
theorem StrW.get {B n i c : Nat} {a : Option Addr} {w : World} (h : StrW w B (.slice a n c)) (hi : i < n) : ∃ b off s, a = some ⟨b, off, none⟩ ∧ B ≤ b ∧ w.cell? ⟨b, off + i, none⟩ = some (.string s) ∧ w.frozen? ⟨b, off + i, none⟩ = false := by
  obtain ⟨a', n', c', e, h1, h2, h3⟩ := h
  cases e
  obtain ⟨b, off, e2, g1, ⟨s, g2⟩, g3⟩ := h3 i hi
  exact ⟨b, off, s, e2, g1, g2, g3⟩
theorem NotesW.get {B n i c : Nat} {a : Option Addr} {w : World} (h : NotesW w B (.slice a n c)) (hi : i < n) : ∃ g, a = some ⟨g, 0, none⟩ ∧ B ≤ g ∧ w.there g (i * 4) 4 := by
  obtain ⟨a', n', c', e, h1, h2⟩ := h
  cases e
  rcases h2 with h2 | ⟨g, h3, h4, h5⟩
  · omega
  · exact ⟨g, h3, h4, fun j hj => h5 _ (by omega)⟩
/-- The row of the two is made. -/
theorem twoW_new {B : Nat} {va vb vc : Value} {w : World} {t : Nat} (hB : B ≤ w.heap.size) (ha : CardsW w B w.heap.size va) (hb : CardsW w B w.heap.size vb) (hc : NotesW w B vc) : TwoW B w.heap.size va vb vc (w.alloc (.cells #[va, vb] t)) := by
  have hl : Like B w (w.alloc (.cells #[va, vb] t)) := ⟨fun a => frozen?_alloc_cells w _ _ a, fun a v h => ⟨v, (((Below.refl _ w).alloc (Nat.le_refl _) (.cells #[va, vb] t)).cell (World.block_lt_of_cell? w _ h)).trans h, rfl, .inl rfl⟩⟩
  exact ⟨hB, ha.like hl, hb.like hl, hc.like hl.some, (cell_of_row _ _ 0 _ _ _ (heap_alloc_new w _)).trans rfl, (cell_of_row _ _ 1 _ _ _ (heap_alloc_new w _)).trans rfl⟩
theorem cells_one7 (n f q : ByteArray) (l s e : Int) : ∀ v ∈ [Value.string n, .string f, .int .u8 l, .slice none 0 0, .int .i8 s, .string q, .int .i16 e], v.oneCell' = true := by
  intro v hv
  simp only [List.mem_cons, List.not_mem_nil, or_false] at hv
  rcases hv with rfl | rfl | rfl | rfl | rfl | rfl | rfl <;> rfl
end Go.Proofs.Ytpafbnmncioppaa
