/- Back to a mark; a bag is closed. -/
import Derived.Test.YtnkababhgloclaaHeldB
namespace Go.Proofs.Ytnkababhgloclaa
open Go.RowKit Go.ChangeShapes
set_option maxHeartbeats 1000000 in
theorem bback_nil (id : Int) (w : World) : Calls Try.prog 28 #[.pointer none, .int .i64 id] w fun e w' => e = .returned (.tuple #[.slice none 0 0, .int .i64 2]) ∧ w' = w := by
  have CW := Lib.hid (wrong_nil w)
  go_enter Try.func28, Try.ntmps28
  go_wp2_with fail
  refine CW.out.mono ?_
  rintro e w1 ⟨rfl, rfl⟩
  go_wp2_with fail
  go_ret2
  exact ⟨rfl, rfl⟩
set_option maxHeartbeats 4000000 in
theorem bback_done {w : World} {B b : Nat} {L : List Th} {last : Int} {busy closed : Bool} (h : BagAt w B b L last busy closed) (hd : (closed || busy) = true) (id : Int) :
    Calls Try.prog 28 #[.pointer (some ⟨b, 0, none⟩), .int .i64 id] w fun e w' => e = .returned (.tuple #[.slice none 0 0, .int .i64 5]) ∧ w' = w := by
  have CW := wrong_any h
  rw [hd] at CW
  have CW := Lib.hid CW
  clear h hd
  go_enter Try.func28, Try.ntmps28
  go_wp2_with fail
  refine CW.out.mono ?_
  rintro e w1 ⟨rfl, rfl⟩
  go_wp2_with fail
  go_ret2
  exact ⟨rfl, rfl⟩
set_option maxHeartbeats 4000000 in
theorem bback_none {w : World} {B b : Nat} {L : List Th} {last : Int} (h : BagAt w B b L last false false) (hl : L.length ≤ 256) (id : Int) (hp : posT L id true = none) :
    Calls Try.prog 28 #[.pointer (some ⟨b, 0, none⟩), .int .i64 id] w fun e w' => e = .returned (.tuple #[.slice none 0 0, .int .i64 6]) ∧ Below w.heap.size w w' := by
  have CW := Lib.hid (wrong_any h)
  have CF := find_any h hl id true
  rw [hp] at CF
  have CF := Lib.hid CF
  clear h hp hl
  go_enter Try.func28, Try.ntmps28
  go_wp2_with fail
  refine CW.out.mono ?_
  rintro e w1 ⟨rfl, rfl⟩
  go_wp2_with fail
  refine CF.out.mono ?_
  rintro e w2 ⟨rfl, hb⟩
  have HB := Lib.hid hb
  clear hb
  simp only [placeI]
  go_wp2_with fail
  go_ret2
  exact ⟨rfl, HB.out⟩
set_option maxHeartbeats 8000000 in
set_option maxRecDepth 100000 in
theorem bback_some {σ : Type} (bhF : σ → Th → List Th → Beh) (next : σ → Th → List Th → σ) (I : σ → World → Prop) (S : Nat → Obj → Prop) {w : World} {B b : Nat} {L : List Th} {last : Int} (s0 : σ) (h : BagAt w B b L last false false) (hl : L.length ≤ 256) (id : Int) (i : Nat) (hp : posT L id true = some i) (hB : B ≤ w.heap.size) (h0 : I s0 w)
    (hs : ∀ q C z, ¬ S q (.cells C 24 z) ∧ ¬ S q (.cells C 101 z) ∧ ¬ S q (.cells C 83 z) ∧ ¬ S q (.cells C 89 z))
    (HI : ∀ s w w', I s w → Rel B (SX b 0 fun _ _ => False) w w' → I s w')
    (HE : ∀ t ∈ L, ∀ k c, t.fn = some (k, c) → ∀ w : World, (callFunc k c).run Try.prog w = .ok (.enter k c) w)
    (HU : ∀ t ∈ L, ∀ k c, t.fn = some (k, c) → ∀ s R w, (R.length ≤ 256 ∧ ∃ j, j < 256 ∧ Rch next s0 j s) → I s w → BagAt w B b R last true false → B ≤ w.heap.size → Calls Try.prog k c w fun e w' => e = (bhF s t R).ending ∧ Rel B S w w' ∧ I (next s t R) w') :
    Calls Try.prog 28 #[.pointer (some ⟨b, 0, none⟩), .int .i64 id] w fun e w' => ∃ v, e = .returned (.tuple #[v, .int .i64 0]) ∧ w'.ownsRow w.heap.size 83 5 v (runB bhF next (L.take i) (L.drop i).reverse s0).2.length (rl (runB bhF next (L.take i) (L.drop i).reverse s0).2) ∧ BagAt w' B b (L.take i) last false false ∧ I (runB bhF next (L.take i) (L.drop i).reverse s0).1 w' ∧ Rel B (SX b w.heap.size S) w w' := by
  have CW := Lib.hid (wrong_any h)
  have CF := find_any h hl id true
  rw [hp] at CF
  have CF := Lib.hid CF
  have hi := (posT_lt hp).1
  have hti : (L.take i).length = i := by rw [List.length_take]; omega
  have hdi : (L.drop i).reverse.length = L.length - i := by simp
  have CB := Lib.hid (fun w1 (hb : Below w.heap.size w w1) => back_any bhF next I S (w := w1) (B := B) (b := b) (L0 := L.take i) (M := (L.drop i).reverse) (last := last) (closed := false) s0 (by rw [List.reverse_reverse, List.take_append_drop]; exact h.below hb) (Nat.le_trans hB hb.size) (by rw [hti, hdi]; omega) (HI _ _ _ h0 (Rel.below hb)) hs HI (fun t ht => HE t (List.mem_of_mem_drop (List.mem_reverse.1 ht))) (fun t ht => HU t (List.mem_of_mem_drop (List.mem_reverse.1 ht))))
  rw [hti] at CB
  clear h hp hl hB h0 hs HI HE HU hi hti hdi
  have hi0 : ¬ ((i : Int) < 0) := by omega
  go_enter Try.func28, Try.ntmps28
  go_wp2_with fail
  refine CW.out.mono ?_
  rintro e w1 ⟨rfl, rfl⟩
  go_wp2_with fail
  refine CF.out.mono ?_
  rintro e w2 ⟨rfl, hb⟩
  have HB := Lib.hid hb
  have C2 := Lib.hid (CB.out w2 hb)
  clear hb CB
  simp only [placeI]
  go_wp2_with fail
  refine C2.out.mono ?_
  rintro e w3 ⟨v, rfl, h1, h2, h3, h4⟩
  have H1 := Lib.hid (own_base h1 HB.out.size)
  have H2 := Lib.hid h2
  have H3 := Lib.hid h3
  have H4 : Hid (Rel B (SX b w1.heap.size S) w1 w3) := Lib.hid ((Rel.below HB.out).trans (h4.mono (fun k o h => h.imp (fun e => e) (Or.imp (fun e => ⟨Nat.le_trans HB.out.size e.1, e.2⟩) (fun e => e))) (Nat.le_refl _)))
  clear h1 h2 h3 h4
  go_wp2_with fail
  go_ret2
  exact ⟨v, rfl, H1.out, H2.out, H3.out, H4.out⟩
set_option maxHeartbeats 1000000 in
theorem close_nil (w : World) : Calls Try.prog 14 #[.pointer none] w fun e w' => e = .returned (.tuple #[.slice none 0 0, .int .i64 2]) ∧ w' = w := by
  have CW := Lib.hid (wrong_nil w)
  go_enter Try.func14, Try.ntmps14
  go_wp2_with fail
  refine CW.out.mono ?_
  rintro e w1 ⟨rfl, rfl⟩
  go_wp2_with fail
  go_ret2
  exact ⟨rfl, rfl⟩
set_option maxHeartbeats 4000000 in
theorem close_done {w : World} {B b : Nat} {L : List Th} {last : Int} {busy closed : Bool} (h : BagAt w B b L last busy closed) (hd : (closed || busy) = true) :
    Calls Try.prog 14 #[.pointer (some ⟨b, 0, none⟩)] w fun e w' => e = .returned (.tuple #[.slice none 0 0, .int .i64 5]) ∧ w' = w := by
  have CW := wrong_any h
  rw [hd] at CW
  have CW := Lib.hid CW
  clear h hd
  go_enter Try.func14, Try.ntmps14
  go_wp2_with fail
  refine CW.out.mono ?_
  rintro e w1 ⟨rfl, rfl⟩
  go_wp2_with fail
  go_ret2
  exact ⟨rfl, rfl⟩
/-- A bag that is closed and empty. -/
def Shut (b : Nat) (last : Int) (w : World) : Prop := w.heap[b]? = some (.cells #[.slice none 0 0, .int .i64 last, .bool false, .bool true] 89 (0, 0))
theorem Shut.bag {b : Nat} {last : Int} {w : World} {B : Nat} (h : Shut b last w) (hB : B ≤ b) : BagAt w B b [] last false true := ⟨hB, _, h, ⟨by simp [hc], .inl ⟨rfl, rfl⟩⟩⟩
/-- What Close writes: the bag's block; rows of things, of results; what the things' functions write. -/
def SC (b N : Nat) (S : Nat → Obj → Prop) (k : Nat) (o : Obj) : Prop := (∃ C z, o = .cells C 89 z) ∨ (∃ C z, o = .cells C 101 z) ∨ (N ≤ k ∧ ∃ C z, o = .cells C 83 z) ∨ S k o
set_option maxHeartbeats 8000000 in
set_option maxRecDepth 100000 in
/-- The things' functions find the bag closed and empty; the one that is busy is another. -/
theorem close_some {σ : Type} (bhF : σ → Th → List Th → Beh) (next : σ → Th → List Th → σ) (I : σ → World → Prop) (S : Nat → Obj → Prop) {w : World} {B b : Nat} {L : List Th} {last : Int} (s0 : σ) (h : BagAt w B b L last false false) (hl : L.length ≤ 256) (hB : B ≤ w.heap.size) (h0 : I s0 w)
    (hs : ∀ q C z, ¬ S q (.cells C 24 z) ∧ ¬ S q (.cells C 101 z) ∧ ¬ S q (.cells C 83 z) ∧ ¬ S q (.cells C 89 z))
    (HI : ∀ s w w', I s w → Rel B (SC b 0 fun _ _ => False) w w' → I s w')
    (HE : ∀ t ∈ L, ∀ k c, t.fn = some (k, c) → ∀ w : World, (callFunc k c).run Try.prog w = .ok (.enter k c) w)
    (HU : ∀ t ∈ L, ∀ k c, t.fn = some (k, c) → ∀ s R w, (∃ j, j < 256 ∧ Rch next s0 j s) → I s w → BagAt w B b [] last false true → B ≤ w.heap.size → Calls Try.prog k c w fun e w' => e = (bhF s t R).ending ∧ Rel B S w w' ∧ I (next s t R) w') :
    Calls Try.prog 14 #[.pointer (some ⟨b, 0, none⟩)] w fun e w' => ∃ v, e = .returned (.tuple #[v, .int .i64 0]) ∧ w'.ownsRow w.heap.size 83 5 v (runB bhF next [] L.reverse s0).2.length (rl (runB bhF next [] L.reverse s0).2) ∧ BagAt w' B b [] last false true ∧ I (runB bhF next [] L.reverse s0).1 w' ∧ Rel B (SC b w.heap.size S) w w' := by
  have CW := Lib.hid (wrong_any h)
  obtain ⟨a, c, c0, c1, c2, c3, ho⟩ := h.cells
  have f3 := h.frozen 3
  have f0 := h.frozen 0
  have HH := Lib.hid h
  have HHB := Lib.hid hB
  have h1 := h.setClosed true
  have r1 := h.relSet 3 (.bool true) (fun _ o => ∃ C z, o = .cells C 89 z) (fun C z => ⟨C, z, rfl⟩) (Nat.le_refl _)
  have h2 : BagAt ((w.setCell ⟨b, 3, none⟩ (.bool true)).setCell ⟨b, 0, none⟩ (.slice none 0 0)) B b [] last false true := h1.setRow ⟨by simp [hc], .inl ⟨rfl, rfl⟩⟩
  have r2 := h1.relSet 0 (.slice none 0 0) (fun _ o => ∃ C z, o = .cells C 89 z) (fun C z => ⟨C, z, rfl⟩) (Nat.le_refl _)
  have hs2 : Shut b last ((w.setCell ⟨b, 3, none⟩ (.bool true)).setCell ⟨b, 0, none⟩ (.slice none 0 0)) := by
    obtain ⟨_, v, g1, _⟩ := h
    exact heap_setCell_same _ b 0 _ _ _ (heap_setCell_same _ b 3 _ _ _ g1)
  have hBb := h.1
  obtain ⟨w2, hw2⟩ : ∃ x, x = (w.setCell ⟨b, 3, none⟩ (.bool true)).setCell ⟨b, 0, none⟩ (.slice none 0 0) := ⟨_, rfl⟩
  have hz2 : w2.heap.size = w.heap.size := by rw [hw2]; simp
  have ho2 : w2.ownsRow B 101 3 (.slice a L.length c) L.length (hc L) := by
    rw [hw2]
    have g1 := own_setBag (p := 3) ho (by decide) h.2.choose_spec.1 (.bool true)
    exact own_setBag (p := 0) g1 (by decide) h1.2.choose_spec.1 _
  rw [← hw2] at h2 r2 hs2
  have ba : Below w2.heap.size w2 (w2.alloc (.cells #[.slice a L.length c, .int .i64 0, .bool false, .bool false] 89 (0, 0))) := (Below.refl _ w2).alloc (Nat.le_refl _) _
  have hc3 : BagAt (w2.alloc (.cells #[.slice a L.length c, .int .i64 0, .bool false, .bool false] 89 (0, 0))) B w2.heap.size L 0 false false := ⟨by rw [hz2]; exact hB, _, heap_alloc_new w2 _, own_below ho2 ba⟩
  have hne : w2.heap.size ≠ b := by have := h2.lt; omega
  have r3 : Rel B (SC b w.heap.size S) w (w2.alloc (.cells #[.slice a L.length c, .int .i64 0, .bool false, .bool false] 89 (0, 0))) := ((r1.trans r2).mono (fun k o ho => Or.inl ho) (Nat.le_refl _)).trans (Rel.below ba)
  have CB := back_any bhF next (fun s w => I s w ∧ Shut b last w) S (w := w2.alloc (.cells #[.slice a L.length c, .int .i64 0, .bool false, .bool false] 89 (0, 0))) (B := B) (b := w2.heap.size) (L0 := []) (M := L.reverse) (last := 0) (closed := false) s0 (by simpa using hc3) (by have := ba.size; omega) (by simpa using hl) ⟨HI _ _ _ (HI _ _ _ (HI _ _ _ h0 (r1.mono (fun k o ho => Or.inl ho) (Nat.le_refl _))) (r2.mono (fun k o ho => Or.inl ho) (Nat.le_refl _))) (Rel.below ba), (ba.block b h2.lt).trans hs2⟩ hs
    (fun s x x' hx hr => ⟨HI _ _ _ hx.1 (hr.mono (fun k o ho => by
      rcases ho with (⟨_, C, z, e⟩ | ⟨C, z, e⟩) | ⟨_, C, z, e⟩ | e
      · exact Or.inl ⟨C, z, e⟩
      · exact Or.inr (Or.inl ⟨C, z, e⟩)
      · exact Or.inr (Or.inr (Or.inl ⟨Nat.zero_le _, C, z, e⟩))
      · exact e.elim) (Nat.le_refl _)), hr.block hx.2 (fun _ ho => by
      rcases ho with (⟨e, _⟩ | ⟨C, z, e⟩) | ⟨_, C, z, e⟩ | e
      · exact hne e.symm
      · cases e
      · cases e
      · exact e)⟩)
    (fun t ht => HE t (List.mem_reverse.1 ht)) (fun t ht k c hf s R x hj hx hb hBx => (HU t (List.mem_reverse.1 ht) k c hf s R x hj.2 hx.1 (hx.2.bag hBb) hBx).mono (fun e x' he => ⟨he.1, he.2.1, he.2.2, he.2.1.block hx.2 (fun _ => (hs b _ _).2.2.2)⟩))
  have CB := Lib.hid CB
  have R3 := Lib.hid r3
  have HZ := Lib.hid hz2
  have HBA := Lib.hid ba
  have HBb := Lib.hid hBb
  have HWW := Lib.hid hw2
  clear h h0 hs HI HE HU h1 r1 h2 r2 hs2 ho2 ho hc3 hne r3 ba hBb hz2 hB hl
  go_enter Try.func14, Try.ntmps14
  go_wp2_with fail
  refine CW.out.mono ?_
  rintro e w1 ⟨rfl, rfl⟩
  clear hw2
  go_upto_region 7 with fail
  rw [← HWW.out]
  go_wp2_with fail
  refine CB.out.mono ?_
  rintro e w3 ⟨v, rfl, h1, h2, h3, h4⟩
  have H1 := Lib.hid (own_base h1 R3.out.size)
  have H2 := Lib.hid (h3.2.bag HBb.out)
  have H3 := Lib.hid h3.1
  have H4 := Lib.hid (R3.out.trans (h4.mono (fun k o ho => by
      rcases ho with (⟨_, C, z, e⟩ | ⟨C, z, e⟩) | ⟨hk, C, z, e⟩ | e
      · exact Or.inl ⟨C, z, e⟩
      · exact Or.inr (Or.inl ⟨C, z, e⟩)
      · exact Or.inr (Or.inr (Or.inl ⟨Nat.le_trans R3.out.size hk, C, z, e⟩))
      · exact Or.inr (Or.inr (Or.inr e))) (Nat.le_refl _)))
  clear h1 h2 h3 h4
  go_wp2_with fail
  go_ret2
  exact ⟨v, rfl, H1.out, H2.out, H3.out, H4.out⟩
end Go.Proofs.Ytnkababhgloclaa
