/- ProbeBags: the play between two steps; the program's call and the document's, one behind the other. -/
import Derived.Test.YtnkababhgloclaaPlayE
namespace Go.Proofs.Ytnkababhgloclaa
open Go.RowKit Go.ChangeShapes
/-- What the bags' calls write of what stood there, by types. -/
def TY (N k : Nat) (o : Obj) : Prop := ∃ C t z, o = .cells C t z ∧ (t = 89 ∨ t = 101 ∨ t = 32 ∨ t = 92 ∨ t = 29 ∨ N ≤ k ∧ (t = 3 ∨ t = 83))
theorem TY_not {N k t : Nat} {C : Array Value} {z : Nat × Nat} (h1 : t ≠ 89 ∧ t ≠ 101 ∧ t ≠ 32 ∧ t ≠ 92 ∧ t ≠ 29) (h2 : k < N ∨ t ≠ 3 ∧ t ≠ 83) : ¬ TY N k (.cells C t z) := fun ⟨C', t', z', e, h⟩ => by
  injection e with _ e2 _
  subst e2
  rcases h with h | h | h | h | h | ⟨hk, h⟩
  · exact h1.1 h
  · exact h1.2.1 h
  · exact h1.2.2.1 h
  · exact h1.2.2.2.1 h
  · exact h1.2.2.2.2 h
  · rcases h2 with h2 | h2
    · omega
    · exact h.elim h2.1 h2.2
theorem TY_SD {N m k : Nat} {o : Obj} (h : SD m k o) : TY N k o := by
  rcases h with ⟨_, C, z, e⟩ | ⟨C, z, e⟩
  · exact ⟨C, _, z, e, .inr (.inr (.inr (.inr (.inl rfl))))⟩
  · exact ⟨C, _, z, e, .inr (.inr (.inr (.inl rfl)))⟩
theorem TY_SP {N q k : Nat} {o : Obj} (h : SP q N k o) : TY N k o := by
  rcases h with ⟨_, C, z, e⟩ | ⟨h, C, z, e⟩
  · exact ⟨C, _, z, e, .inr (.inr (.inl rfl))⟩
  · exact ⟨C, _, z, e, .inr (.inr (.inr (.inr (.inr ⟨h, .inl rfl⟩))))⟩
theorem TY_SB {N b k : Nat} {o : Obj} (h : SB b k o) : TY N k o := by
  rcases h with ⟨_, C, z, e⟩ | ⟨C, z, e⟩
  · exact ⟨C, _, z, e, .inl rfl⟩
  · exact ⟨C, _, z, e, .inr (.inl rfl)⟩
theorem TY_SX {N b q k : Nat} {o : Obj} (h : SX b N (SP q N) k o) : TY N k o := by
  rcases h with h | ⟨h, C, z, e⟩ | h
  · exact TY_SB h
  · exact ⟨C, _, z, e, .inr (.inr (.inr (.inr (.inr ⟨h, .inr rfl⟩))))⟩
  · exact TY_SP h
theorem TY_SC {N b q k : Nat} {o : Obj} (h : SC b N (SP q N) k o) : TY N k o := by
  rcases h with ⟨C, z, e⟩ | ⟨C, z, e⟩ | ⟨h, C, z, e⟩ | h
  · exact ⟨C, _, z, e, .inl rfl⟩
  · exact ⟨C, _, z, e, .inr (.inl rfl)⟩
  · exact ⟨C, _, z, e, .inr (.inr (.inr (.inr (.inr ⟨h, .inr rfl⟩))))⟩
  · exact TY_SP h
theorem old_TY {w x x' : World} {B : Nat} (h : Old w x) (hr : Rel B (TY w.heap.size) x x') : Old w x' :=
  h.rel hr (fun k C z hk => ⟨TY_not (by decide) (.inl hk), TY_not (by decide) (.inl hk), TY_not (by decide) (.inl hk)⟩)
theorem old_below {w x x' : World} (h : Old w x) (hb : Below x.heap.size x x') : Old w x' :=
  h.trans fun p C ty _ hx _ => (hb.block p (Array.getElem?_eq_some_iff.1 hx).1).trans hx
/-- Between the two calls only results are written. -/
def OR (_ : Nat) (o : Obj) : Prop := ∃ C z, o = .cells C 83 z
theorem OR_not {t : Nat} (ht : t ≠ 83) (k : Nat) (C : Array Value) (z : Nat × Nat) : ¬ OR k (.cells C t z) := fun ⟨C', z', e⟩ => by
  injection e with _ e2 _
  exact ht e2
theorem rbag_OR {w w' : World} {B m : Nat} {LR : List RT} {last : Int} {closed : Bool} (h : RBagAt w B m LR last closed) (hr : Rel B OR w w') : RBagAt w' B m LR last closed :=
  h.rel hr (fun C z => OR_not (by decide) _ _ _) (fun k C z => OR_not (by decide) _ _ _)
theorem bag_OR {w w' : World} {B b : Nat} {L : List Th} {last : Int} {busy closed : Bool} (h : BagAt w B b L last busy closed) (hr : Rel B OR w w') : BagAt w' B b L last busy closed :=
  h.rel hr (fun C z => OR_not (by decide) _ _ _) (fun k C z => OR_not (by decide) _ _ _)
theorem play_OR {w w' : World} {B q b m N0 : Nat} {c f : List Int} (h : PlayI w q b m N0 c f) (hr : Rel B OR w w') : PlayI w' q b m N0 c f :=
  h.rel hr (fun C z => OR_not (by decide) _ _ _) (fun k C z _ => OR_not (by decide) _ _ _)
theorem old_OR {w x x' : World} {B : Nat} (h : Old w x) (hr : Rel B OR x x') : Old w x' :=
  h.rel hr (fun k C z _ => ⟨OR_not (by decide) _ _ _, OR_not (by decide) _ _ _, OR_not (by decide) _ _ _⟩)
/-- The play between two steps. -/
structure PS (w : World) (B q b m : Nat) (L : List Th) (last : Int) (closed : Bool) : Prop where
  bag : BagAt w B b L last false closed
  rbag : RBagAt w B m (L.map (rtOf w)) last closed
  box : BoxP w q L
  len : L.length ≤ 256
  lo : 0 ≤ last
  hBq : B ≤ q
  hBw : B ≤ w.heap.size
theorem PS.to {w w' : World} {B q b m : Nat} {L L' : List Th} {last last' : Int} {closed closed' : Bool} (h : PS w B q b m L last closed) (ho : Old w w') (hz : w.heap.size ≤ w'.heap.size) (bag : BagAt w' B b L' last' false closed') (rbag : RBagAt w' B m (L'.map (rtOf w)) last' closed') (hs : ∀ t ∈ L', t ∈ L) (hl : L'.length ≤ L.length) (hlo : last ≤ last') : PS w' B q b m L' last' closed' where
  bag := bag
  rbag := by rw [(h.box.sub hs).rts ho]; exact rbag
  box := (h.box.sub hs).old ho
  len := Nat.le_trans hl h.len
  lo := Int.le_trans h.lo hlo
  hBq := h.hBq
  hBw := Nat.le_trans h.hBw hz
theorem PS.below {w w' : World} {B q b m : Nat} {L : List Th} {last : Int} {closed : Bool} (h : PS w B q b m L last closed) (hb : Below w.heap.size w w') : PS w' B q b m L last closed :=
  h.to (old_below (Old.refl w) hb) hb.size (h.bag.below hb) (h.rbag.below hb) (fun _ h => h) (Nat.le_refl _) (Int.le_refl _)
theorem PS.or {w w' : World} {B q b m : Nat} {L : List Th} {last : Int} {closed : Bool} (h : PS w B q b m L last closed) (hb : Rel B OR w w') : PS w' B q b m L last closed :=
  h.to (old_OR (Old.refl w) hb) hb.size (bag_OR h.bag hb) (rbag_OR h.rbag hb) (fun _ h => h) (Nat.le_refl _) (Int.le_refl _)
/-- Behind both calls. -/
def Nx (w : World) (B q b m : Nat) (last : Int) (c f : List Int) : Prop := (∃ L' last' closed', PS w B q b m L' last' closed' ∧ last' ≤ last + 1) ∧ ∃ N0, PlayI w q b m N0 c f
theorem posR_map (w : World) (L : List Th) (id : Int) (mark : Bool) : posR (L.map (rtOf w)) id mark = posT L id mark := by
  unfold posR posT
  rw [List.findIdx?_map]
  rfl
theorem rbag_SX {w w' : World} {B m b N q : Nat} {LR : List RT} {last : Int} {closed : Bool} (h : RBagAt w B m LR last closed) (hr : Rel B (SX b N (SP q N)) w w') : RBagAt w' B m LR last closed := by
  have no : ∀ k C t z, (t ≠ 89 ∧ t ≠ 101 ∧ t ≠ 83 ∧ t ≠ 32 ∧ t ≠ 3) → ¬ SX b N (SP q N) k (.cells C t z) := fun k C t z ht ho => by
    rcases ho with (⟨_, C, z, e⟩ | ⟨C, z, e⟩) | ⟨_, C, z, e⟩ | ⟨_, C, z, e⟩ | ⟨_, C, z, e⟩
    all_goals (injection e with _ e2 _)
    · exact ht.1 e2
    · exact ht.2.1 e2
    · exact ht.2.2.1 e2
    · exact ht.2.2.2.1 e2
    · exact ht.2.2.2.2 e2
  exact h.rel hr (fun C z => no _ _ _ _ (by decide)) (fun k C z => no _ _ _ _ (by decide))
theorem rbag_SC {w w' : World} {B m b N q : Nat} {LR : List RT} {last : Int} {closed : Bool} (h : RBagAt w B m LR last closed) (hr : Rel B (SC b N (SP q N)) w w') : RBagAt w' B m LR last closed := by
  have no : ∀ k C t z, (t ≠ 89 ∧ t ≠ 101 ∧ t ≠ 83 ∧ t ≠ 32 ∧ t ≠ 3) → ¬ SC b N (SP q N) k (.cells C t z) := fun k C t z ht ho => by
    rcases ho with ⟨C, z, e⟩ | ⟨C, z, e⟩ | ⟨_, C, z, e⟩ | ⟨_, C, z, e⟩ | ⟨_, C, z, e⟩
    all_goals (injection e with _ e2 _)
    · exact ht.1 e2
    · exact ht.2.1 e2
    · exact ht.2.2.1 e2
    · exact ht.2.2.2.1 e2
    · exact ht.2.2.2.2 e2
  exact h.rel hr (fun C z => no _ _ _ _ (by decide)) (fun k C z => no _ _ _ _ (by decide))
theorem rbag_SB {w w' : World} {B m b : Nat} {LR : List RT} {last : Int} {closed : Bool} (h : RBagAt w B m LR last closed) (hr : Rel B (SB b) w w') : RBagAt w' B m LR last closed :=
  rbag_SX (N := 0) (q := 0) h (hr.mono (fun k o h => .inl h) (Nat.le_refl _))
theorem SD_no {m t : Nat} (h1 : t ≠ 29) (h2 : t ≠ 92) (k : Nat) (C : Array Value) (z : Nat × Nat) : ¬ SD m k (.cells C t z) := SD_not h1 h2
theorem bag_SD {w w' : World} {B m b : Nat} {L : List Th} {last : Int} {busy closed : Bool} (h : BagAt w B b L last busy closed) (hr : Rel B (SD m) w w') : BagAt w' B b L last busy closed :=
  h.rel hr (fun C z => SD_no (by decide) (by decide) _ _ _) (fun k C z => SD_no (by decide) (by decide) _ _ _)
theorem play_SD {w w' : World} {B q b m N0 : Nat} {c f : List Int} (h : PlayI w q b m N0 c f) (hr : Rel B (SD m) w w') : PlayI w' q b m N0 c f :=
  h.rel hr (fun C z => SD_no (by decide) (by decide) _ _ _) (fun k C z _ => SD_no (by decide) (by decide) _ _ _)
theorem play_SB {w w' : World} {B q b m N0 : Nat} {c f : List Int} (h : PlayI w q b m N0 c f) (hr : Rel B (SB b) w w') : PlayI w' q b m N0 c f :=
  h.rel hr (fun C z ho => by
    rcases ho with ⟨_, C, z, e⟩ | ⟨C, z, e⟩
    · injection e with _ e2 _; exact absurd e2 (by decide)
    · injection e with _ e2 _; exact absurd e2 (by decide)) (fun k C z _ ho => by
    rcases ho with ⟨_, C, z, e⟩ | ⟨C, z, e⟩
    · injection e with _ e2 _; exact absurd e2 (by decide)
    · injection e with _ e2 _; exact absurd e2 (by decide))
theorem rtOf_mark (w : World) (id : Int) : rtOf w ⟨id, ⟨#[]⟩, none⟩ = ⟨id, true, ⟨#[]⟩, 0, false, ⟨#[]⟩⟩ := rfl
/-- What is common to both calls' ends. -/
def Snd (w2 : World) (B q b m : Nat) (last : Int) (c f : List Int) (w3 : World) : Prop := Rel B (SD m) w2 w3 ∧ Nx w3 B q b m last c f
section
variable {w : World} {B q b m N0 : Nat} {L : List Th} {last : Int} {closed : Bool} {c f : List Int}
theorem PS.stay (h : PS w B q b m L last closed) (hI : PlayI w q b m N0 c f) {w2 w3 : World} (h2 : Rel B OR w w2) (h3 : Below w2.heap.size w2 w3) : Snd w2 B q b m last c f w3 :=
  ⟨Rel.below h3, ⟨_, _, _, (h.or h2).below h3, by omega⟩, N0, (play_OR hI h2).below h3⟩
theorem jmark (h : PS w B q b m L last closed) (hI : PlayI w q b m N0 c f) (hl : last ≤ 100000) :
    Calls Try.prog 25 #[.pointer (some ⟨b, 0, none⟩)] w fun e w1 => ∃ x y : Int, e = .returned (.tuple #[.int .i64 x, .int .i64 y]) ∧ Rel B (TY w.heap.size) w w1 ∧ PlayI w1 q b m N0 c f ∧ ∀ w2, Rel B OR w1 w2 → Calls Try.prog 36 #[.pointer (some ⟨m, 0, none⟩)] w2 fun e w3 => e = .returned (.tuple #[.int .i64 x, .int .i64 y]) ∧ Snd w2 B q b m last c f w3 := by
  cases closed with
  | true =>
    refine (bmark_done h.bag rfl).mono ?_
    rintro e w1 ⟨rfl, rfl⟩
    refine ⟨_, _, rfl, Rel.refl _ _ _, hI, fun w2 hb => (rmark_done (rbag_OR h.rbag hb)).mono ?_⟩
    rintro e w3 ⟨rfl, rfl⟩
    exact ⟨rfl, h.stay hI hb (Below.refl _ _)⟩
  | false =>
    by_cases hf : L.length = 256
    · refine (bmark_full h.bag hf).mono ?_
      rintro e w1 ⟨rfl, rfl⟩
      refine ⟨_, _, rfl, Rel.refl _ _ _, hI, fun w2 hb => (rmark_full (rbag_OR h.rbag hb) (by rw [List.length_map]; exact hf)).mono ?_⟩
      rintro e w3 ⟨rfl, h3⟩
      exact ⟨rfl, h.stay hI hb h3⟩
    · have hlt : L.length < 256 := Nat.lt_of_le_of_ne h.len hf
      refine (bmark_room h.bag h.hBw hlt h.lo (by omega)).mono ?_
      rintro e w1 ⟨rfl, hb1, hr1⟩
      have hT : Rel B (TY w.heap.size) w w1 := hr1.mono (fun k o h => TY_SB h) (Nat.le_refl _)
      have hz1 := hT.size
      refine ⟨_, _, rfl, hT, play_SB hI hr1, fun w2 hb2 => (rmark_room (rbag_OR (rbag_SB h.rbag hr1) hb2) (Nat.le_trans h.hBw (Nat.le_trans hz1 hb2.size)) (by rw [List.length_map]; exact hlt) h.lo (by omega)).mono ?_⟩
      rintro e w3 ⟨rfl, hb3, hr3⟩
      have hT3 : Rel B (TY w.heap.size) w2 w3 := hr3.mono (fun k o h => TY_SD h) (Nat.le_refl _)
      have ho : Old w w3 := old_TY (old_OR (old_TY (Old.refl w) hT) hb2) hT3
      refine ⟨rfl, hr3, ⟨L ++ [⟨last + 1, ⟨#[]⟩, none⟩], last + 1, false, ⟨bag_SD (bag_OR hb1 hb2) hr3, ?_, ?_, by rw [List.length_append]; simp; omega, by have := h.lo; omega, h.hBq, Nat.le_trans h.hBw (Nat.le_trans hz1 (Nat.le_trans hb2.size hr3.size))⟩, by omega⟩, N0, play_SD (play_OR (play_SB hI hr1) hb2) hr3⟩
      · rw [List.map_append, h.box.rts ho]
        exact hb3
      · intro t ht k c hf
        rcases List.mem_append.1 ht with ht | ht
        · exact h.box.old ho t ht k c hf
        · simp only [List.mem_cons, List.not_mem_nil, or_false] at ht
          subst ht
          cases hf
/-- One is added: its function is the law's closure. -/
theorem jadd {t : St} {p0 p1 p2 : Nat} (h : PS w B q b m L last closed) (hI : PlayI w q b m N0 c f) (hl : last ≤ 100000) (h0 : w.heap[p0]? = some (.cells #[.pointer (some ⟨q, 0, none⟩)] 23 (0, 0))) (h1 : w.heap[p1]? = some (.cells #[.int .i64 (last + 1)] 3 (0, 0))) (h2 : w.heap[p2]? = some (.cells t.cells.toArray 36 (0, 0))) :
    Calls Try.prog 26 #[.pointer (some ⟨b, 0, none⟩), .string t.name, .func (.func 68) #[] #[.pointer (some ⟨p0, 0, none⟩), .pointer (some ⟨p1, 0, none⟩), .pointer (some ⟨p2, 0, none⟩)]] w fun e w1 => ∃ x y : Int, e = .returned (.tuple #[.int .i64 x, .int .i64 y]) ∧ Rel B (SB b) w w1 ∧ PlayI w1 q b m N0 c f ∧ RBagAt w1 B m (L.map (rtOf w)) last closed ∧ ∀ w2, Rel B OR w1 w2 → Calls Try.prog 44 #[.pointer (some ⟨m, 0, none⟩), .agg (bare t).cells.toArray] w2 fun e w3 => e = .returned (.tuple #[.int .i64 x, .int .i64 y]) ∧ Snd w2 B q b m last c f w3 := by
  cases closed with
  | true =>
    refine (add_done h.bag rfl _ _ _).mono ?_
    rintro e w1 ⟨rfl, rfl⟩
    refine ⟨_, _, rfl, Rel.refl _ _ _, hI, h.rbag, fun w2 hb => (radd_done (rbag_OR h.rbag hb) _ _ _ _ _ _).mono ?_⟩
    rintro e w3 ⟨rfl, h3⟩
    exact ⟨rfl, h.stay hI hb h3⟩
  | false =>
    by_cases hn : 31 < t.name.size
    · refine (add_long h.bag _ hn _ _).mono ?_
      rintro e w1 ⟨rfl, rfl⟩
      refine ⟨_, _, rfl, Rel.refl _ _ _, hI, h.rbag, fun w2 hb => (radd_long (rbag_OR h.rbag hb) _ _ _ _ _ _ hn).mono ?_⟩
      rintro e w3 ⟨rfl, h3⟩
      exact ⟨rfl, h.stay hI hb h3⟩
    · have hn' : t.name.size ≤ 31 := by omega
      by_cases hf : L.length = 256
      · refine (add_full h.bag hf _ hn' _ _).mono ?_
        rintro e w1 ⟨rfl, rfl⟩
        refine ⟨_, _, rfl, Rel.refl _ _ _, hI, h.rbag, fun w2 hb => (radd_full (rbag_OR h.rbag hb) (by rw [List.length_map]; exact hf) _ _ _ _ _ _ hn').mono ?_⟩
        rintro e w3 ⟨rfl, h3⟩
        exact ⟨rfl, h.stay hI hb h3⟩
      · have hlt : L.length < 256 := Nat.lt_of_le_of_ne h.len hf
        refine (add_room h.bag h.hBw hlt h.lo (by omega) _ hn' _ _).mono ?_
        rintro e w1 ⟨rfl, hb1, hr1⟩
        have hT : Rel B (TY w.heap.size) w w1 := hr1.mono (fun k o h => TY_SB h) (Nat.le_refl _)
        have hz1 := hT.size
        refine ⟨_, _, rfl, hr1, play_SB hI hr1, rbag_SB h.rbag hr1, fun w2 hb2 => (radd_room (rbag_OR (rbag_SB h.rbag hr1) hb2) (Nat.le_trans h.hBw (Nat.le_trans hz1 hb2.size)) (by rw [List.length_map]; exact hlt) h.lo (by omega) _ _ _ _ _ _ hn').mono ?_⟩
        rintro e w3 ⟨rfl, hb3, hr3⟩
        have hT3 : Rel B (TY w.heap.size) w2 w3 := hr3.mono (fun k o h => TY_SD h) (Nat.le_refl _)
        have ho : Old w w3 := old_TY (old_OR (old_TY (Old.refl w) hT) hb2) hT3
        refine ⟨rfl, hr3, ⟨L ++ [⟨last + 1, t.name, some (68, #[.pointer (some ⟨p0, 0, none⟩), .pointer (some ⟨p1, 0, none⟩), .pointer (some ⟨p2, 0, none⟩)])⟩], last + 1, false, ⟨bag_SD (bag_OR hb1 hb2) hr3, ?_, ?_, by rw [List.length_append]; simp; omega, by have := h.lo; omega, h.hBq, Nat.le_trans h.hBw (Nat.le_trans hz1 (Nat.le_trans hb2.size hr3.size))⟩, by omega⟩, N0, play_SD (play_OR (play_SB hI hr1) hb2) hr3⟩
        · rw [List.map_append, h.box.rts ho]
          have e : rtOf w3 ⟨last + 1, t.name, some (68, #[.pointer (some ⟨p0, 0, none⟩), .pointer (some ⟨p1, 0, none⟩), .pointer (some ⟨p2, 0, none⟩)])⟩ = ⟨last + 1, false, t.name, (behS t).code, (behS t).pan, (behS t).word⟩ := by
            unfold rtOf
            rw [readBeh_of (ho _ _ _ h2 (.inr (.inr rfl)))]
            rfl
          rw [List.map_cons, List.map_nil, e]
          exact hb3
        · intro t' ht k c' hf
          rcases List.mem_append.1 ht with ht | ht
          · exact h.box.old ho t' ht k c' hf
          · simp only [List.mem_cons, List.not_mem_nil, or_false] at ht
            subst ht
            simp only [Option.some.injEq, Prod.mk.injEq] at hf
            obtain ⟨rfl, rfl⟩ := hf
            exact ⟨p0, p1, p2, t, rfl, rfl, ho _ _ _ h0 (.inl rfl), ho _ _ _ h1 (.inr (.inl rfl)), ho _ _ _ h2 (.inr (.inr rfl))⟩
end
theorem keep_erase {w : World} (L : List Th) (i : Nat) : (L.map (rtOf w)).eraseIdx i = (L.eraseIdx i).map (rtOf w) := by
  rw [List.eraseIdx_eq_take_drop_succ, List.eraseIdx_eq_take_drop_succ, List.map_append, List.map_take, List.map_drop]
theorem mem_erase {L : List Th} {i : Nat} {t : Th} (h : t ∈ L.eraseIdx i) : t ∈ L := List.mem_of_mem_eraseIdx h
section
variable {w : World} {B q b m N0 : Nat} {L : List Th} {last : Int} {closed : Bool} {c f : List Int}
theorem jkeep (h : PS w B q b m L last closed) (hI : PlayI w q b m N0 c f) (id : Int) :
    Calls Try.prog 34 #[.pointer (some ⟨b, 0, none⟩), .int .i64 id] w fun e w1 => ∃ y : Int, e = .returned (.int .i64 y) ∧ Rel B (TY w.heap.size) w w1 ∧ PlayI w1 q b m N0 c f ∧ ∀ w2, Rel B OR w1 w2 → Calls Try.prog 40 #[.pointer (some ⟨m, 0, none⟩), .int .i64 id] w2 fun e w3 => e = .returned (.int .i64 y) ∧ Snd w2 B q b m last c f w3 := by
  cases closed with
  | true =>
    refine (keep_done h.bag rfl id).mono ?_
    rintro e w1 ⟨rfl, rfl⟩
    refine ⟨_, rfl, Rel.refl _ _ _, hI, fun w2 hb => (rkeep_done (rbag_OR h.rbag hb) id).mono ?_⟩
    rintro e w3 ⟨rfl, h3⟩
    exact ⟨rfl, h.stay hI hb h3⟩
  | false =>
    cases hp : posT L id false with
    | none =>
      refine (keep_none h.bag h.len id hp).mono ?_
      rintro e w1 ⟨rfl, hb1⟩
      refine ⟨_, rfl, Rel.below hb1, hI.below hb1, fun w2 hb => (rkeep_none (rbag_OR (h.rbag.below hb1) hb) (by rw [List.length_map]; exact h.len) id (by rw [posR_map]; exact hp)).mono ?_⟩
      rintro e w3 ⟨rfl, h3⟩
      exact ⟨rfl, h.stay hI ((Rel.below hb1).trans hb) h3⟩
    | some i =>
      refine (keep_some h.bag h.len id i hp).mono ?_
      rintro e w1 ⟨rfl, hb1, hr1⟩
      have hT : Rel B (TY w.heap.size) w w1 := hr1.mono (fun k o h => TY_SB h) (Nat.le_refl _)
      refine ⟨_, rfl, hT, play_SB hI hr1, fun w2 hb2 => (rkeep_some (rbag_OR (rbag_SB h.rbag hr1) hb2) (by rw [List.length_map]; exact h.len) (Nat.le_trans h.hBw (Nat.le_trans hT.size hb2.size)) id i (by rw [posR_map]; exact hp)).mono ?_⟩
      rintro e w3 ⟨rfl, hb3, hr3⟩
      have hT3 : Rel B (TY w.heap.size) w2 w3 := hr3.mono (fun k o h => TY_SD h) (Nat.le_refl _)
      have ho : Old w w3 := old_TY (old_OR (old_TY (Old.refl w) hT) hb2) hT3
      rw [keep_erase] at hb3
      exact ⟨rfl, hr3, ⟨_, last, false, h.to ho (Nat.le_trans hT.size (Nat.le_trans hb2.size hr3.size)) (bag_SD (bag_OR hb1 hb2) hr3) hb3 (fun t => mem_erase) (List.length_eraseIdx_le _ _) (Int.le_refl _), by omega⟩, N0, play_SD (play_OR (play_SB hI hr1) hb2) hr3⟩
end
/-- The document's row lies in another block. -/
def RowNe (x : World) (m p : Nat) : Prop := ∀ v l c, x.heap[m]? = some (.cells #[v, l, c] 29 (0, 0)) → v.ownBlock ≠ some p
theorem RowNe.below {w w' : World} {m p : Nat} {C : Array Value} {z : Nat × Nat} (h : RowNe w m p) (hm : w.heap[m]? = some (.cells C 29 z)) (hb : Below w.heap.size w w') : RowNe w' m p := fun v l c hv => h v l c (by rw [← hb.block m (Array.getElem?_eq_some_iff.1 hm).1]; exact hv)
theorem RowNe.fresh {w : World} {B m p : Nat} {LR : List RT} {last : Int} {closed : Bool} (h : RBagAt w B m LR last closed) (hp : w.heap.size ≤ p) : RowNe w m p := fun v l c hv hg => by
  obtain ⟨_, v', hb, ho⟩ := h
  rw [hb] at hv
  simp only [Option.some.injEq, Obj.cells.injEq, Array.mk.injEq, List.cons.injEq, and_true, true_and] at hv
  obtain ⟨rfl, _⟩ := hv
  have := (ho.lt p hg).2
  omega
def OT (p k : Nat) (o : Obj) : Prop := k = p ∧ ∃ C z, o = .cells C 92 z
theorem OT_not {p t : Nat} (ht : t ≠ 92) (k : Nat) (C : Array Value) (z : Nat × Nat) : ¬ OT p k (.cells C t z) := fun ⟨_, C', z', e⟩ => by
  injection e with _ e2 _
  exact ht e2
/-- A block that is not the bag's row is written: the bag stays. -/
theorem RBagAt.far {w w' : World} {B m p : Nat} {LR : List RT} {last : Int} {closed : Bool} (h : RBagAt w B m LR last closed) (hr : RowNe w m p) (hpm : p ≠ m) (hw : ∀ k, k ≠ p → w'.heap[k]? = w.heap[k]?) : RBagAt w' B m LR last closed := by
  obtain ⟨h0, v, hb, ho⟩ := h
  exact ⟨h0, v, (hw m (fun e => hpm e.symm)).trans hb, own_same ho (fun g hg => hw g (fun e => hr v _ _ hb (by rw [hg, e])))⟩
/-! Back, Close and Undo: what they come to. -/
theorem isT_none (t : Th) : isT t = !t.fn.isNone := by unfold isT; cases t.fn <;> rfl
theorem lastR_map (w : World) (L : List Th) : lastR (L.map (rtOf w)) = (rsOf w L.reverse).map toR := by
  unfold lastR rsOf
  rw [List.filter_map, List.map_map, List.filter_reverse, List.map_reverse]
  congr 1
  have e : ((fun t : RT => !t.mark) ∘ rtOf w) = isT := funext fun t => (isT_none t).symm
  rw [e]
  refine List.map_congr_left fun t ht => ?_
  have hi : t.fn.isNone = false := by
    have := (List.mem_filter.1 ht).2
    rw [isT_none] at this
    simpa using this
  unfold rtOf toR
  simp only [hi]
  rfl
theorem ids_rs (w : World) (M : List Th) : idsP M = (rsOf w M).map (·.id) := by
  unfold idsP rsOf
  rw [List.map_map]
  rfl
theorem cnt_countR (w : World) (L : List Th) : countR (L.map (rtOf w)) = cntT L := by
  unfold countR cntT heldN
  rw [List.filter_map, List.length_map, List.length_map]
  have e : ((fun t : RT => !t.mark) ∘ rtOf w) = fun t : Th => t.fn.isSome := funext fun t => (isT_none t).symm
  rw [e]
theorem cnt_append (L M : List Th) : cntT (L ++ M) = cntT L + cntT M := by unfold cntT; rw [heldN_append, List.length_append]
theorem cnt_rs (w : World) (M : List Th) : cntT M = (rsOf w M).length := by
  unfold cntT heldN rsOf isT
  rw [List.length_map, List.length_map]
theorem cnt_reverse (M : List Th) : cntT M.reverse = cntT M := by
  unfold cntT heldN
  rw [List.length_map, List.length_map, List.filter_reverse, List.length_reverse]
theorem fnd_spec (L0 : List Th) : ∀ M : List Th, (fndL L0 M).length = cntT M ∧ ∀ j (hj : j < (fndL L0 M).length), (fndL L0 M)[j] = ((cntT (L0 ++ M.reverse) : Nat) : Int) - 1 - j
  | [] => ⟨rfl, fun j hj => by simp [fndL] at hj⟩
  | ⟨id, nm, none⟩ :: rest => by
    obtain ⟨h1, h2⟩ := fnd_spec L0 rest
    have e1 : cntT (⟨id, nm, none⟩ :: rest) = cntT rest := by simp [cntT, heldN]
    have e2 : cntT (L0 ++ (⟨id, nm, none⟩ :: rest).reverse) = cntT (L0 ++ rest.reverse) := by rw [cnt_append, cnt_append, cnt_reverse, cnt_reverse, e1]
    rw [e1, e2]
    exact ⟨h1, h2⟩
  | ⟨id, nm, some kc⟩ :: rest => by
    obtain ⟨h1, h2⟩ := fnd_spec L0 rest
    have e1 : cntT (⟨id, nm, some kc⟩ :: rest) = cntT rest + 1 := by simp [cntT, heldN]
    have e2 : cntT (L0 ++ (⟨id, nm, some kc⟩ :: rest).reverse) = cntT (L0 ++ rest.reverse) + 1 := by rw [cnt_append, cnt_append, cnt_reverse, cnt_reverse, e1]; omega
    rw [e1, e2]
    refine ⟨by simp [fndL, h1], fun j hj => ?_⟩
    cases j with
    | zero => simp [fndL]
    | succ j =>
      have := h2 j (by simpa [fndL] using hj)
      simp only [fndL, List.getElem_cons_succ]
      rw [this]
      omega
section
variable {w : World} {B q b m : Nat} {L : List Th} {last : Int} {closed : Bool}
/-- A list of results and of things, side by side. -/
theorem jback (h : PS w B q b m L last closed) (hI : PlayI w q b m w.heap.size [] []) (id : Int) :
    Calls Try.prog 28 #[.pointer (some ⟨b, 0, none⟩), .int .i64 id] w fun e w1 => ∃ (v : Value) (y : Int) (Z : List Rs) (F : List Int), e = .returned (.tuple #[v, .int .i64 y]) ∧ w1.ownsRow w.heap.size 83 5 v Z.length (rl Z) ∧ Rel B (TY w.heap.size) w w1 ∧ PlayI w1 q b m w.heap.size (Z.map (·.id)) F ∧ Z.length ≤ 256 ∧ F.length = Z.length ∧ (∀ j (hj : j < F.length), F[j] = ((cntT L : Nat) : Int) - 1 - j) ∧ ∀ w2, Rel B OR w1 w2 → Calls Try.prog 41 #[.pointer (some ⟨m, 0, none⟩), .int .i64 id] w2 fun e w3 => ∃ u, e = .returned (.tuple #[u, .int .i64 y]) ∧ w3.ownsRow w2.heap.size 92 6 u Z.length (rc6 (Z.map toR)) ∧ Snd w2 B q b m last (Z.map (·.id)) F w3 := by
  cases closed with
  | true =>
    refine (bback_done h.bag rfl id).mono ?_
    rintro e w1 ⟨rfl, rfl⟩
    refine ⟨_, _, [], [], rfl, World.ownsRow_nil _ _ _ _, Rel.refl _ _ _, hI, by simp, rfl, fun j hj => by simp at hj, fun w2 hb => (rback_done (rbag_OR h.rbag hb) id).mono ?_⟩
    rintro e w3 ⟨rfl, rfl⟩
    exact ⟨_, rfl, World.ownsRow_nil _ _ _ _, h.stay hI hb (Below.refl _ _)⟩
  | false =>
    cases hp : posT L id true with
    | none =>
      refine (bback_none h.bag h.len id hp).mono ?_
      rintro e w1 ⟨rfl, hb1⟩
      refine ⟨_, _, [], [], rfl, World.ownsRow_nil _ _ _ _, Rel.below hb1, hI.below hb1, by simp, rfl, fun j hj => by simp at hj, fun w2 hb => (rback_none (rbag_OR (h.rbag.below hb1) hb) (by rw [List.length_map]; exact h.len) id (by rw [posR_map]; exact hp)).mono ?_⟩
      rintro e w3 ⟨rfl, rfl⟩
      exact ⟨_, rfl, World.ownsRow_nil _ _ _ _, h.stay hI ((Rel.below hb1).trans hb) (Below.refl _ _)⟩
    | some i =>
      have hi := (posT_lt hp).1
      refine (p_back h.bag h.len h.hBw h.hBq h.box hI id i hp).mono ?_
      rintro e w1 ⟨v, rfl, ho1, hb1, hI1, hr1⟩
      have hT : Rel B (TY w.heap.size) w w1 := hr1.mono (fun k o h => TY_SX h) (Nat.le_refl _)
      have hZ : (rsOf w (L.drop i).reverse).length ≤ 256 := by
        have h1 : (rsOf w (L.drop i).reverse).length ≤ (L.drop i).reverse.length := by unfold rsOf; rw [List.length_map]; exact List.length_filter_le _ _
        rw [List.length_reverse, List.length_drop] at h1
        have := h.len
        omega
      obtain ⟨f1, f2⟩ := fnd_spec (L.take i) (L.drop i).reverse
      rw [List.reverse_reverse, List.take_append_drop] at f2
      refine ⟨v, _, rsOf w (L.drop i).reverse, fndL (L.take i) (L.drop i).reverse, rfl, ho1, hT, by rw [← ids_rs]; exact hI1.1, hZ, by rw [f1, cnt_rs w], f2, fun w2 hb2 => (rback_some (rbag_OR (rbag_SX h.rbag hr1) hb2) (by rw [List.length_map]; exact h.len) (Nat.le_trans h.hBw (Nat.le_trans hT.size hb2.size)) id i (by rw [posR_map]; exact hp)).mono ?_⟩
      rintro e w3 ⟨u, rfl, hb3, ho3, hr3⟩
      have hT3 : Rel B (TY w.heap.size) w2 w3 := hr3.mono (fun k o h => TY_SD h) (Nat.le_refl _)
      have ho : Old w w3 := old_TY (old_OR (old_TY (Old.refl w) hT) hb2) hT3
      rw [← List.map_drop, lastR_map, List.length_map] at ho3
      rw [← List.map_take] at hb3
      refine ⟨u, rfl, ho3, hr3, ⟨L.take i, last, false, h.to ho (Nat.le_trans hT.size (Nat.le_trans hb2.size hr3.size)) (bag_SD (bag_OR hb1 hb2) hr3) hb3 (fun t => List.mem_of_mem_take) (by rw [List.length_take]; exact Nat.min_le_right _ _) (Int.le_refl _), by omega⟩, w.heap.size, play_SD (N0 := w.heap.size) (play_OR (N0 := w.heap.size) ?_ hb2) hr3⟩
      rw [← ids_rs]
      exact hI1.1
theorem jclose (h : PS w B q b m L last closed) (hI : PlayI w q b m w.heap.size [] []) :
    Calls Try.prog 14 #[.pointer (some ⟨b, 0, none⟩)] w fun e w1 => ∃ (v : Value) (y : Int) (Z : List Rs), e = .returned (.tuple #[v, .int .i64 y]) ∧ w1.ownsRow w.heap.size 83 5 v Z.length (rl Z) ∧ Rel B (TY w.heap.size) w w1 ∧ PlayI w1 q b m w.heap.size (Z.map (·.id)) (List.replicate Z.length 0) ∧ Z.length ≤ 256 ∧ ∀ w2, Rel B OR w1 w2 → Calls Try.prog 15 #[.pointer (some ⟨m, 0, none⟩)] w2 fun e w3 => ∃ u, e = .returned (.tuple #[u, .int .i64 y]) ∧ w3.ownsRow w2.heap.size 92 6 u Z.length (rc6 (Z.map toR)) ∧ Snd w2 B q b m last (Z.map (·.id)) (List.replicate Z.length 0) w3 := by
  cases closed with
  | true =>
    refine (close_done h.bag rfl).mono ?_
    rintro e w1 ⟨rfl, rfl⟩
    refine ⟨_, _, [], rfl, World.ownsRow_nil _ _ _ _, Rel.refl _ _ _, hI, by simp, fun w2 hb => (rclose_done (rbag_OR h.rbag hb)).mono ?_⟩
    rintro e w3 ⟨rfl, rfl⟩
    exact ⟨_, rfl, World.ownsRow_nil _ _ _ _, h.stay hI hb (Below.refl _ _)⟩
  | false =>
    refine (p_close h.bag h.len h.hBw h.hBq h.box hI).mono ?_
    rintro e w1 ⟨v, rfl, ho1, hb1, hI1, hr1⟩
    have hT : Rel B (TY w.heap.size) w w1 := hr1.mono (fun k o h => TY_SC h) (Nat.le_refl _)
    have hZ : (rsOf w L.reverse).length ≤ 256 := by
      have h1 : (rsOf w L.reverse).length ≤ L.reverse.length := by unfold rsOf; rw [List.length_map]; exact List.length_filter_le _ _
      rw [List.length_reverse] at h1
      have := h.len
      omega
    have hI1' : PlayI w1 q b m w.heap.size ((rsOf w L.reverse).map (·.id)) (List.replicate (rsOf w L.reverse).length 0) := by
      have := hI1.1
      rw [ids_rs w] at this
      simpa using this
    refine ⟨v, _, rsOf w L.reverse, rfl, ho1, hT, hI1', hZ, fun w2 hb2 => (rclose_any (rbag_OR (rbag_SC h.rbag hr1) hb2) (by rw [List.length_map]; exact h.len) (Nat.le_trans h.hBw (Nat.le_trans hT.size hb2.size))).mono ?_⟩
    rintro e w3 ⟨u, rfl, hb3, ho3, hr3⟩
    have hT3 : Rel B (TY w.heap.size) w2 w3 := hr3.mono (fun k o h => TY_SD h) (Nat.le_refl _)
    have ho : Old w w3 := old_TY (old_OR (old_TY (Old.refl w) hT) hb2) hT3
    rw [lastR_map, List.length_map] at ho3
    exact ⟨u, rfl, ho3, hr3, ⟨[], last, true, h.to ho (Nat.le_trans hT.size (Nat.le_trans hb2.size hr3.size)) (bag_SD (bag_OR hb1 hb2) hr3) hb3 (fun t ht => by cases ht) (by simp) (Int.le_refl _), by omega⟩, _, play_SD (play_OR hI1' hb2) hr3⟩
def rzero : Rs := ⟨0, ⟨#[]⟩, .ret 0⟩
theorem jundo (h : PS w B q b m L last closed) (hI : PlayI w q b m w.heap.size [] []) (id : Int) :
    Calls Try.prog 33 #[.pointer (some ⟨b, 0, none⟩), .int .i64 id] w fun e w1 => ∃ (r : Rs) (y : Int) (cs fs : List Int), e = .returned (.tuple #[.agg (rcells r.id r.name r.bh).toArray, .int .i64 y]) ∧ Rel B (TY w.heap.size) w w1 ∧ PlayI w1 q b m w.heap.size cs fs ∧ (y ≠ 0 ∧ r = rzero ∧ cs = [] ∧ fs = [] ∨ y = 0 ∧ cs = [r.id] ∧ fs = [((cntT L : Nat) : Int) - 1]) ∧ (∃ LR lr cr, RBagAt w1 B m LR lr cr) ∧ ∀ w2, Rel B OR w1 w2 → Calls Try.prog 38 #[.pointer (some ⟨m, 0, none⟩), .int .i64 id] w2 fun e w3 => ∃ t : RT, (∀ p, p < w2.heap.size → RowNe w2 m p → RowNe w3 m p) ∧ e = .returned (.tuple #[.agg t.cells.toArray, .int .i64 y]) ∧ (y = 0 → t = toR r) ∧ Rel B (SM m) w2 w3 ∧ Snd w2 B q b m last cs fs w3 := by
  cases closed with
  | true =>
    refine (undo_done h.bag rfl id).mono ?_
    rintro e w1 ⟨rfl, hb1⟩
    refine ⟨rzero, 5, [], [], rfl, Rel.below hb1, hI.below hb1, .inl ⟨by decide, rfl, rfl, rfl⟩, ⟨_, _, _, h.rbag.below hb1⟩, fun w2 hb => (rundo_done (rbag_OR (h.rbag.below hb1) hb) id).mono ?_⟩
    rintro e w3 ⟨rfl, h3⟩
    obtain ⟨_, vm, HMB, _⟩ := rbag_OR (h.rbag.below hb1) hb
    exact ⟨⟨0, false, ⟨#[]⟩, 0, false, ⟨#[]⟩⟩, fun p _ hn => hn.below HMB h3, rfl, fun e => absurd e (by decide), Rel.below h3, h.stay hI ((Rel.below hb1).trans hb) h3⟩
  | false =>
    cases hp : posT L id false with
    | none =>
      refine (undo_none h.bag h.len id hp).mono ?_
      rintro e w1 ⟨rfl, hb1⟩
      refine ⟨rzero, 6, [], [], rfl, Rel.below hb1, hI.below hb1, .inl ⟨by decide, rfl, rfl, rfl⟩, ⟨_, _, _, h.rbag.below hb1⟩, fun w2 hb => (rundo_none (rbag_OR (h.rbag.below hb1) hb) (by rw [List.length_map]; exact h.len) id (by rw [posR_map]; exact hp)).mono ?_⟩
      rintro e w3 ⟨rfl, h3⟩
      obtain ⟨_, vm, HMB, _⟩ := rbag_OR (h.rbag.below hb1) hb
      exact ⟨⟨0, false, ⟨#[]⟩, 0, false, ⟨#[]⟩⟩, fun p _ hn => hn.below HMB h3, rfl, fun e => absurd e (by decide), Rel.below h3, h.stay hI ((Rel.below hb1).trans hb) h3⟩
    | some i =>
      obtain ⟨hi, hm⟩ := posT_lt hp
      refine (p_undo h.bag h.len h.hBw h.hBq h.box hI id i hp).mono ?_
      rintro e w1 ⟨t, hti, rfl, hts, rfl, hb1, hI1, hr1⟩
      have hT : Rel B (TY w.heap.size) w w1 := hr1.mono (fun k o h => TY_SX h) (Nat.le_refl _)
      have hcnt : ((cntT (L.eraseIdx i) : Nat) : Int) = ((cntT L : Nat) : Int) - 1 := by
        have e1 : L = L.take i ++ t :: L.drop (i + 1) := by
          have hget : L[i] = t := by
            have := List.getElem?_eq_getElem hi
            rw [hti] at this
            exact (Option.some.inj this).symm
          rw [← hget, List.getElem_cons_drop hi, List.take_append_drop]
        have e2 : L.eraseIdx i = L.take i ++ L.drop (i + 1) := by rw [List.eraseIdx_eq_take_drop_succ]
        have e3 : cntT (t :: L.drop (i + 1)) = cntT (L.drop (i + 1)) + 1 := by simp [cntT, heldN, hts]
        have e4 : cntT L = cntT (L.take i) + (cntT (L.drop (i + 1)) + 1) := by
          conv => lhs; rw [e1]
          rw [cnt_append, e3]
        rw [e2, e4, cnt_append]
        omega
      rw [hcnt] at hI1
      refine ⟨⟨t.id, t.name, readBeh w t⟩, 0, _, _, rfl, hT, hI1.1, .inr ⟨rfl, rfl, rfl⟩, ⟨_, _, _, rbag_SX h.rbag hr1⟩, fun w2 hb2 => (rundo_some (rbag_OR (rbag_SX h.rbag hr1) hb2) (by rw [List.length_map]; exact h.len) (Nat.le_trans h.hBw (Nat.le_trans hT.size hb2.size)) t.id i (by rw [posR_map]; exact hp) (rtOf w t) (by rw [List.getElem?_map, hti]; rfl)).mono ?_⟩
      rintro e w3 ⟨rfl, hb3, hr3, hnew⟩
      have hs3 : Rel B (SD m) w2 w3 := hr3.mono (fun _ _ h => SM_SD h) (Nat.le_refl _)
      have hT3 : Rel B (TY w.heap.size) w2 w3 := hs3.mono (fun k o h => TY_SD h) (Nat.le_refl _)
      have ho : Old w w3 := old_TY (old_OR (old_TY (Old.refl w) hT) hb2) hT3
      rw [keep_erase] at hb3
      refine ⟨_, fun p hp _ v l c hv hg => absurd (hnew v l c hv p hg) (by omega), rfl, fun _ => ?_, hr3, hr3.mono (fun _ _ h => SM_SD h) (Nat.le_refl _), ⟨_, last, false, h.to ho (Nat.le_trans hT.size (Nat.le_trans hb2.size hr3.size)) (bag_SD (bag_OR hb1 hb2) hs3) hb3 (fun t => mem_erase) (List.length_eraseIdx_le _ _) (Int.le_refl _), by omega⟩, _, play_SD (play_OR hI1.1 hb2) hs3⟩
      unfold rtOf toR
      have : t.fn.isNone = false := by
        have := isT_none t
        unfold isT at this
        rw [hts] at this
        simpa using this.symm
      simp only [this]
end
/-- The play when a step begins: both lists are nil. -/
def PlayNil (w : World) (q b m : Nat) : Prop := w.heap[q]? = some (.cells #[.pointer (some ⟨b, 0, none⟩), .pointer (some ⟨m, 0, none⟩), .slice none 0 0, .slice none 0 0, .bool false] 32 (0, 0))
theorem PlayNil.to {w : World} {q b m : Nat} (h : PlayNil w q b m) (N0 : Nat) : PlayI w q b m N0 [] [] :=
  ⟨.slice none 0 0, .slice none 0 0, h, World.ownsRow_nil _ _ _ _, World.ownsRow_nil _ _ _ _, fun g e => by cases e⟩
theorem PlayNil.below {w w' : World} {q b m : Nat} (h : PlayNil w q b m) (hb : Below w.heap.size w w') : PlayNil w' q b m := (hb.block _ (Array.getElem?_eq_some_iff.1 h).1).trans h
/-- A step's end. -/
def Fin (w : World) (B q b m : Nat) (last : Int) (x : World) : Prop := (∃ L' last' closed', PS x B q b m L' last' closed' ∧ last' ≤ last + 1) ∧ (∃ N0 c f, PlayI x q b m N0 c f) ∧ Below B w x
theorem Fin.or {w x x' : World} {B q b m : Nat} {last : Int} (h : Fin w B q b m last x) (hr : Rel B OR x x') (hB : B ≤ x.heap.size) : Fin w B q b m last x' := by
  obtain ⟨⟨L, l, c, h1, h2⟩, ⟨N0, cs, fs, h3⟩, h4⟩ := h
  exact ⟨⟨L, l, c, h1.or hr, h2⟩, ⟨N0, cs, fs, play_OR h3 hr⟩, hr.out h4 hB⟩
theorem rel_SRs {Nr B : Nat} {x x' : World} (h : Rel 0 (SRs Nr) x x') (hB : B ≤ Nr) : Rel B OR x x' :=
  Kept.mono h (fun k _ ⟨_, o, h2, h3⟩ => ⟨Nat.le_trans hB h3.1, o, h2, h3.2⟩)
/-- A thing of the law's own is written. -/
theorem Fin.lay {w x : World} {B q b m p : Nat} {last : Int} {C : Array Value} (h : Fin w B q b m last x) (hB : B ≤ x.heap.size) (hp : x.heap[p]? = some (.cells C 92 (0, 0))) (hBp : B ≤ p) (hr : RowNe x m p) (vs : List Value) : Fin w B q b m last (x.setCells p 0 vs) := by
  obtain ⟨⟨L, l, c, h1, h2⟩, ⟨N0, cs, fs, h3⟩, h4⟩ := h
  have r : Rel B (OT p) x (x.setCells p 0 vs) := rel_lay hBp (fun C => ⟨rfl, C, _, rfl⟩) _ _ _ _ hp
  have hpm : p ≠ m := fun e => by
    obtain ⟨_, v, hb, _⟩ := h1.rbag
    rw [← e, hp] at hb
    injection hb with hb
    injection hb with _ e2 _
    exact absurd e2 (by decide)
  refine ⟨⟨L, l, c, h1.to ((Old.refl x).rel r (fun k C z _ => ⟨OT_not (by decide) _ _ _, OT_not (by decide) _ _ _, OT_not (by decide) _ _ _⟩)) r.size (h1.bag.rel r (fun C z => OT_not (by decide) _ _ _) (fun k C z => OT_not (by decide) _ _ _)) (h1.rbag.far hr hpm (fun k hk => heap_setCells_far hk _ _ _)) (fun _ h => h) (Nat.le_refl _) (Int.le_refl _), h2⟩, ⟨N0, cs, fs, h3.rel r (fun C z => OT_not (by decide) _ _ _) (fun k C z _ => OT_not (by decide) _ _ _)⟩, r.out h4 hB⟩
theorem fin_ok {w w1 x1 x2 x3 : World} {B q b m N : Nat} {last : Int} {c f : List Int} (hb1 : Below B w w1) (hB : B ≤ w1.heap.size) (hT : Rel B (TY N) w1 x1) (h12 : Rel B OR x1 x2) (hs : Snd x2 B q b m last c f x3) : Fin w B q b m last x3 := by
  obtain ⟨h1, h2, N0, h3⟩ := hs
  have z1 := hT.size
  have z2 := h12.size
  exact ⟨h2, ⟨N0, c, f, h3⟩, h1.out (h12.out (hT.out hb1 hB) (by omega)) (by omega)⟩
def OP (_ : Nat) (o : Obj) : Prop := ∃ C z, o = .cells C 32 z
theorem OP_not {t : Nat} (ht : t ≠ 32) (k : Nat) (C : Array Value) (z : Nat × Nat) : ¬ OP k (.cells C t z) := fun ⟨C', z', e⟩ => by
  injection e with _ e2 _
  exact ht e2
theorem PS.start {w w1 : World} {B q b m : Nat} {L : List Th} {last : Int} {closed : Bool} (h : PS w B q b m L last closed) (hI : ∃ N0 c f, PlayI w q b m N0 c f) (C : Array Value) (hw : w1 = ((w.alloc (.cells C 36)).setCell ⟨q, 2, none⟩ (.slice none 0 0)).setCell ⟨q, 3, none⟩ (.slice none 0 0)) :
    PS w1 B q b m L last closed ∧ PlayNil w1 q b m ∧ w1.heap[w.heap.size]? = some (.cells C 36 (0, 0)) ∧ Below B w w1 := by
  obtain ⟨N0, c, f, hI⟩ := hI
  have hba : Below w.heap.size w (w.alloc (.cells C 36)) := (Below.refl _ w).alloc (Nat.le_refl _) _
  have ha := hI.below hba
  obtain ⟨vc, vf, hb, _⟩ := ha
  have h1 := heap_setCell_same _ q 2 _ _ (.slice none 0 0) hb
  have h2 := heap_setCell_same _ q 3 _ _ (.slice none 0 0) h1
  have hq := hI.lt
  have e0 := heap_alloc_new w (.cells C 36)
  have hne : w.heap.size ≠ q := by omega
  have r1 : Rel B OP (w.alloc (.cells C 36)) ((w.alloc (.cells C 36)).setCell ⟨q, 2, none⟩ (.slice none 0 0)) := Rel.set (a := ⟨q, 2, none⟩) h.hBq hb ⟨_, _, rfl⟩ _
  have r2 : Rel B OP ((w.alloc (.cells C 36)).setCell ⟨q, 2, none⟩ (.slice none 0 0)) (((w.alloc (.cells C 36)).setCell ⟨q, 2, none⟩ (.slice none 0 0)).setCell ⟨q, 3, none⟩ (.slice none 0 0)) := Rel.set (a := ⟨q, 3, none⟩) h.hBq h1 ⟨_, _, rfl⟩ _
  have r := r1.trans r2
  rw [← hw] at r h2
  have ha' := h.below hba
  refine ⟨?_, h2, ?_, ?_⟩
  · exact ha'.to ((Old.refl _).rel r (fun k C z _ => ⟨OP_not (by decide) _ _ _, OP_not (by decide) _ _ _, OP_not (by decide) _ _ _⟩)) r.size (ha'.bag.rel r (fun C z => OP_not (by decide) _ _ _) (fun k C z => OP_not (by decide) _ _ _)) (ha'.rbag.rel r (fun C z => OP_not (by decide) _ _ _) (fun k C z => OP_not (by decide) _ _ _)) (fun _ h => h) (Nat.le_refl _) (Int.le_refl _)
  · exact r.block e0 (fun _ => OP_not (by decide) _ _ _)
  · exact r.out (hba.mono h.hBw) (Nat.le_trans h.hBw hba.size)
end Go.Proofs.Ytnkababhgloclaa
