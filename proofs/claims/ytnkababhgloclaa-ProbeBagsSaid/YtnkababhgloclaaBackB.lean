/- All from a place on is undone, the last one first: the bag's back. (Printed by tools/genback.py.) -/
import Derived.Test.YtnkababhgloclaaCallB
namespace Go.Proofs.Ytnkababhgloclaa
open Go.RowKit Go.ChangeShapes
/-- A result: whose, and what it came to. -/
structure Rs where
  id : Int
  name : ByteArray
  bh : Beh
def rl : List Rs → List Value
  | [] => []
  | r :: l => rcells r.id r.name r.bh ++ rl l
theorem rl_len : ∀ l : List Rs, (rl l).length = l.length * 5
  | [] => rfl
  | r :: l => by simp [rl, rcells, rl_len l]; omega
theorem rl_append : ∀ l m : List Rs, rl (l ++ m) = rl l ++ rl m
  | [], _ => rfl
  | t :: l, m => by simp [rl, rl_append l m]
theorem rl_at : ∀ (l : List Rs) (i : Nat) (h : i < l.length) (j : Nat) (u : Value), (rcells l[i].id l[i].name l[i].bh)[j]? = some u → (rl l)[i * 5 + j]? = some u
  | [], i, h, _, _, _ => by simp at h
  | t :: l, 0, _, j, u, hj => by
    have h3 : j < 5 := by
      have := (List.getElem?_eq_some_iff.1 hj).1
      simpa [rcells] using this
    simp only [Nat.zero_mul, Nat.zero_add, rl]
    rw [List.getElem?_append_left (by simp [rcells]; omega)]
    exact hj
  | t :: l, i + 1, h, j, u, hj => by
    have h' : i < l.length := by simpa using h
    rw [rl, List.getElem?_append_right (by simp [rcells]; omega)]
    have e : (i + 1) * 5 + j - (rcells t.id t.name t.bh).length = i * 5 + j := by simp [rcells]; omega
    rw [e]
    exact rl_at l i h' j u (by simpa using hj)
section
variable {σ : Type} (bhF : σ → Th → List Th → Beh) (next : σ → Th → List Th → σ) (L0 : List Th)
/-- Things undone one by one, the first of the list first (it stood last in the bag). -/
def runB : List Th → σ → σ × List Rs
  | [], s => (s, [])
  | t :: rest, s => match t.fn with
    | none => runB rest s
    | some _ => ((runB rest (next s t (L0 ++ rest.reverse))).1, ⟨t.id, t.name, bhF s t (L0 ++ rest.reverse)⟩ :: (runB rest (next s t (L0 ++ rest.reverse))).2)
end
/-- Reached in so many steps. -/
inductive Rch {σ : Type} (next : σ → Th → List Th → σ) (s0 : σ) : Nat → σ → Prop
  | zero : Rch next s0 0 s0
  | succ {n : Nat} {s : σ} {t : Th} {R : List Th} : Rch next s0 n s → Rch next s0 (n + 1) (next s t R)
/-- The bag's block. -/
def SOne (b : Nat) (k : Nat) (o : Obj) : Prop := k = b ∧ ∃ C z, o = .cells C 89 z
/-- What back writes of a bag's: its block; rows of things, of results. -/
def SX (b N : Nat) (S : Nat → Obj → Prop) (k : Nat) (o : Obj) : Prop := SB b k o ∨ (N ≤ k ∧ ∃ C z, o = .cells C 83 z) ∨ S k o
theorem Rel.row' {B : Nat} {S : Nat → Obj → Prop} {w w' : World} {B' e z n : Nat} {v : Value} {xs : List Value} (h : w.ownsRow B' e z v n xs) (hB : B ≤ B') (hg : w.grownBy w' v.ownBlock) (hs : ∀ k C z, B' ≤ k → S k (.cells C e z)) : Rel B S w w' := ⟨hg.os, hg.tape, hg.output, hg.size, fun j hj hx => hg.block j hj (by
  intro e
  rcases h.2 with ⟨rfl, _⟩ | ⟨g, cap, cur, rfl, hb, hc, _⟩
  · cases e
  · simp only [Value.ownBlock, Option.some.injEq] at e
    subst e
    exact hx ⟨by omega, _, hc, hs _ _ _ hb⟩)⟩
theorem below_lay {B g : Nat} (hB : B ≤ g) : ∀ (vs : List Value) (w : World) (o : Nat), Below B w (w.setCells g o vs)
  | [], w, _ => Below.refl _ _
  | v :: r, w, o => (Below.setCell (Below.refl B w) (p := ⟨g, o, none⟩) hB v).trans (below_lay hB r _ (o + 1))
theorem infoR : (Try.prog.info? 83).map (fun i => (i.zero, i.size, i.bytes)) = some (some (.agg #[.int .i64 0, .string .empty, .int .i64 0, .bool false, .string .empty]), 5, 56) := by kernel_rfl
/-- A thing is the last of a bag: its cells in memory. -/
theorem last_at {w : World} {B : Nat} {L : List Th} {t : Th} {g c : Nat} (h : w.ownsRow B 101 3 (.slice (some ⟨g, 0, none⟩) (L.length + 1) c) (L.length + 1) (hc (L ++ [t]))) : ∀ j (u : Value), t.cells[j]? = some u → w.cell? ⟨g, L.length * 3 + j, none⟩ = some u := fun j u hj => by
  have h3 := tcell_lt hj
  rw [h.cellAt (L.length * 3 + j) (by omega)]
  exact hc_at (L ++ [t]) L.length (by simp) j u (by simpa using hj)
/-- The last one leaves the bag. -/
theorem BagAt.pop {w : World} {B b : Nat} {L : List Th} {t : Th} {last : Int} {busy closed : Bool} {g c : Nat} (h : BagAt w B b (L ++ [t]) last busy closed) (hv : w.cell? ⟨b, 0, none⟩ = some (.slice (some ⟨g, 0, none⟩) (L.length + 1) c)) : BagAt (w.setCell ⟨b, 0, none⟩ (.slice (some ⟨g, 0, none⟩) L.length c)) B b L last busy closed := by
  obtain ⟨a, c', c0, _, _, _, ho⟩ := h.cells
  rw [hv] at c0
  simp only [List.length_append, List.length_singleton, Option.some.injEq, Value.slice.injEq, true_and] at c0
  obtain ⟨rfl, rfl⟩ := c0
  refine h.setRow ?_
  rw [List.length_append, List.length_singleton] at ho
  have := own_take (n' := L.length) ho (by omega)
  rwa [hc_take, List.take_left'] at this
  rfl

set_option maxHeartbeats 16000000 in
set_option maxRecDepth 100000 in
theorem back_any {σ : Type} (bhF : σ → Th → List Th → Beh) (next : σ → Th → List Th → σ) (I : σ → World → Prop) (S : Nat → Obj → Prop) {w : World} {B b : Nat} {L0 : List Th} {M : List Th} {last : Int} {closed : Bool} (s0 : σ) (h : BagAt w B b (L0 ++ M.reverse) last false closed) (hB : B ≤ w.heap.size) (hlen : L0.length + M.length ≤ 256) (h0 : I s0 w)
    (hs : ∀ q C z, ¬ S q (.cells C 24 z) ∧ ¬ S q (.cells C 101 z) ∧ ¬ S q (.cells C 83 z) ∧ ¬ S q (.cells C 89 z))
    (HI : ∀ s w w', I s w → Rel B (SX b 0 fun _ _ => False) w w' → I s w')
    (HE : ∀ t ∈ M, ∀ k c, t.fn = some (k, c) → ∀ w : World, (callFunc k c).run Try.prog w = .ok (.enter k c) w)
    (HU : ∀ t ∈ M, ∀ k c, t.fn = some (k, c) → ∀ s R w, (R.length ≤ 256 ∧ ∃ j, j < 256 ∧ Rch next s0 j s) → I s w → BagAt w B b R last true closed → B ≤ w.heap.size → Calls Try.prog k c w fun e w' => e = (bhF s t R).ending ∧ Rel B S w w' ∧ I (next s t R) w') :
    Calls Try.prog 46 #[.pointer (some ⟨b, 0, none⟩), .int .i64 L0.length] w fun e w' => ∃ v, e = .returned v ∧ w'.ownsRow w.heap.size 83 5 v (runB bhF next L0 M s0).2.length (rl (runB bhF next L0 M s0).2) ∧ BagAt w' B b L0 last false closed ∧ I (runB bhF next L0 M s0).1 w' ∧ Rel B (SX b w.heap.size S) w w' := by
  obtain ⟨ir, hir, hz0, hz1, hz2⟩ := info_parts infoR
  have HB := Lib.hid hB
  have HL := Lib.hid hlen
  have HSS := Lib.hid hs
  have HII := Lib.hid HI
  have HEE := Lib.hid HE
  have HUU := Lib.hid HU
  have H0 := Lib.hid h
  have I0 := Lib.hid h0
  obtain ⟨n0, hn0⟩ : ∃ n, L0.length = n := ⟨_, rfl⟩
  have HN0 := Lib.hid hn0
  rw [hn0]
  clear h hs HI HE HU h0 hn0 hB
  go_enter Try.func46, Try.ntmps46
  go_wp2_with fail
  go_loopg [5] M.length (fun r v5 wr => ∃ (rest : List Th) (s1 : σ) (o1 : List Rs), r = rest.length ∧ Hid ((∀ t ∈ rest, t ∈ M) ∧ (o1.length + rest.length ≤ M.length ∧ Rch next s0 o1.length s1) ∧ BagAt wr B b (L0 ++ rest.reverse) last false closed ∧ I s1 wr ∧ (runB bhF next L0 M s0).1 = (runB bhF next L0 rest s1).1 ∧ (runB bhF next L0 M s0).2 = o1 ++ (runB bhF next L0 rest s1).2 ∧ wr.ownsRow w.heap.size 83 5 v5 o1.length (rl o1) ∧ Rel B (SX b w.heap.size S) w wr))
  case atStart => exact ⟨M, s0, [], rfl, Lib.hid ⟨fun _ h => h, ⟨by simp, .zero⟩, H0.out, I0.out, rfl, rfl, ⟨by simp [rl], .inl ⟨rfl, rfl⟩⟩, Rel.refl _ _ _⟩⟩
  case round =>
    clear H0 I0
    obtain ⟨rest, s1, o1, hr, hq⟩ := hrel
    have HR := Lib.hid hr
    have HQ := Lib.hid hq.out
    clear hr hq
    obtain ⟨a5, c5, rfl⟩ := own_slice HQ.out.2.2.2.2.2.2.1
    cases rest with
    | nil =>
      obtain ⟨a, c, c0, _⟩ := HQ.out.2.2.1.cells
      simp only [List.reverse_nil, List.append_nil, HN0.out] at c0
      have FIN := Lib.hid HQ.out
      go_wp2_with fail
      go_ret
      obtain ⟨_, _, q1, q2, q3, q4, q5, q6⟩ := FIN.out
      simp only [runB, List.append_nil] at q3 q4
      refine ⟨_, rfl, ?_, ?_, ?_, q6⟩
      · rw [q4]; exact q5
      · simpa using q1
      · rw [q3]; exact q2
    | cons t rest =>
      obtain ⟨m, hm⟩ : ∃ m, (L0 ++ rest.reverse).length = m := ⟨_, rfl⟩
      obtain ⟨R, hR⟩ : ∃ R, R = L0 ++ rest.reverse := ⟨_, rfl⟩
      have BQ : Hid (BagAt wr B b (R ++ [t]) last false closed) := Lib.hid (by
        have := HQ.out.2.2.1
        rw [List.reverse_cons, ← List.append_assoc, ← hR] at this
        exact this)
      have hmR : R.length = m := by rw [hR]; exact hm
      have hm1 : n0 ≤ m ∧ m < 256 := by
        have h1 := HQ.out.2.1.1
        have h2 := HN0.out
        simp only [List.length_cons] at h1
        simp only [List.length_append, List.length_reverse] at hm
        omega
      have RLN : Hid (R.length ≤ 256) := Lib.hid (by rw [hmR]; exact Nat.le_of_lt hm1.2)
      obtain ⟨hm1, hm2⟩ := hm1
      have HMR := Lib.hid hmR
      have HRR := Lib.hid hR
      obtain ⟨a, c, c0, _, _, _, ho⟩ := BQ.out.cells
      rw [List.length_append, List.length_singleton, hmR] at c0 ho
      obtain ⟨g, cap', hform, hgB, hgl⟩ := ho.form (by omega)
      injection hform with e1 _ e3
      subst e1 e3
      have hcap := own_cap ho
      have HO := Lib.hid ho
      have gx := last_at (L := R) (by rw [hmR]; exact ho)
      rw [hmR] at gx
      clear hm hR hmR ho
      obtain ⟨tid, nm, fn⟩ := t
      have HT := Lib.hid (HQ.out.1 _ (List.mem_cons_self))
      rcases fn with _ | ⟨kf, cf⟩

      · skip
        have g0 : wr.cell? ⟨g, m * 3, none⟩ = some (.int .i64 tid) := gx 0 _ rfl
        have g1 : wr.cell? ⟨g, m * 3 + 1, none⟩ = some (.string nm) := gx 1 _ rfl
        have g2 : wr.cell? ⟨g, m * 3 + 2, none⟩ = some (.nilFunc) := gx 2 _ rfl
        have hmi : ((m : Int) + 1) > (n0 : Int) := by omega
        have ww : IntKind.i64.wrap (m : Int) = (m : Int) := by rw [IntKind.wrap_i64]; omega
        have hmi2 : (0 : Int) ≤ (m : Int) ∧ (m : Int) < (m : Int) + 1 := by omega
        have C0 := Lib.hid c0
        clear gx
        go_upto_region 3 with fail
        go_cut [6] (fun v6 wx => ∃ p : Nat, v6 = .pointer (some ⟨p, 0, none⟩) ∧ Hid (Below wr.heap.size wr wx ∧ wx.heap[p]? = some (.cells #[.int .i64 tid, .string nm, .nilFunc] 101 (0, 0)) ∧ wr.heap.size ≤ p))
        case first => as_aux_lemma => --ok
          refine wp_region_any (by kernel_rfl) ?_
          obtain ⟨wd, hwd⟩ : ∃ x, x = wr.drew := ⟨_, rfl⟩
          change wpAny _ _ _ _ _ _ _ wr.drew
          rw [← hwd]
          have bd : Below wr.heap.size wr wd := by rw [hwd]; exact (Below.refl _ _).drew
          have d0 : wd.cell? ⟨b, 0, none⟩ = some (.slice (some ⟨g, 0, none⟩) (m + 1) c) := by rw [hwd]; exact c0
          have d1 : wd.cell? ⟨g, m * 3, none⟩ = some (.int .i64 tid) := by rw [hwd]; exact g0
          have d2 : wd.cell? ⟨g, m * 3 + 1, none⟩ = some (.string nm) := by rw [hwd]; exact g1
          have d3 : wd.cell? ⟨g, m * 3 + 2, none⟩ = some (.nilFunc) := by rw [hwd]; exact g2
          have ba : Below wd.heap.size wd (wd.alloc (.cells #[.int .i64 0, .string ⟨#[]⟩, .nilFunc] 101)) := (Below.refl _ wd).alloc (Nat.le_refl _) _
          have e0 := (ba.cell (p := ⟨b, 0, none⟩) (World.block_lt_of_cell? wd _ d0)).trans d0
          have e1 := (ba.cell (p := ⟨g, m * 3, none⟩) (World.block_lt_of_cell? wd _ d1)).trans d1
          have e2 := (ba.cell (p := ⟨g, m * 3 + 1, none⟩) (World.block_lt_of_cell? wd _ d2)).trans d2
          have e3 := (ba.cell (p := ⟨g, m * 3 + 2, none⟩) (World.block_lt_of_cell? wd _ d3)).trans d3
          have TZ : Hid ((wd.alloc (.cells #[.int .i64 0, .string ⟨#[]⟩, .nilFunc] 101)).there wd.heap.size 0 3) := Lib.hid (fun j hj => ⟨by
            rw [cell_of_row _ _ _ _ _ _ (heap_alloc_new wd (.cells #[.int .i64 0, .string ⟨#[]⟩, .nilFunc] 101))]
            exact Option.isSome_iff_exists.2 ⟨_, Array.getElem?_eq_getElem (by simp; omega)⟩, frozen_of_row _ _ _ _ _ (heap_alloc_new wd (.cells #[.int .i64 0, .string ⟨#[]⟩, .nilFunc] 101))⟩)
          have FB : ∀ W, W = (wd.alloc (.cells #[.int .i64 0, .string ⟨#[]⟩, .nilFunc] 101)).setCells wd.heap.size 0 #[.int .i64 tid, .string nm, .nilFunc].toList → (Below wr.heap.size wr W ∧ W.heap[wd.heap.size]? = some (.cells #[.int .i64 tid, .string nm, .nilFunc] 101 (0, 0)) ∧ wr.heap.size ≤ wd.heap.size) := by
            rintro W rfl
            exact ⟨(bd.trans (ba.mono bd.size)).trans (below_lay bd.size _ _ _), heap_setCells_same _ _ 0 _ (heap_alloc_new wd (.cells #[.int .i64 0, .string ⟨#[]⟩, .nilFunc] 101)), bd.size⟩
          clear hwd bd ba c0 g0 g1 g2

          refine wpAny_take (i := 0) (v := ?_) rfl (by kernel_rfl) (by kernel_rfl) (by kernel_rfl) (fun _ _ _ h => h) (Or.inl ⟨by kernel_rfl, ?_⟩) ?_
          rotate_left
          · intro w
            go_simp
            try with_reducible rfl
          simp only [Act.put, List.getElem_toArray, List.getElem_cons_zero, List.getElem_cons_succ, List.setIfInBounds_toArray, List.set_cons_zero, List.set_cons_succ]
          refine wpAny_take (i := 1) (v := ?_) rfl (by kernel_rfl) (by kernel_rfl) (by kernel_rfl) (fun _ _ _ h => h) (Or.inl ⟨by kernel_rfl, ?_⟩) ?_
          rotate_left
          · intro w
            go_simp
            try with_reducible rfl
          simp only [Act.put, List.getElem_toArray, List.getElem_cons_zero, List.getElem_cons_succ, List.setIfInBounds_toArray, List.set_cons_zero, List.set_cons_succ]
          refine wpAny_take (i := 2) (v := ?_) rfl (by kernel_rfl) (by kernel_rfl) (by kernel_rfl) (fun _ _ _ h => h) (Or.inl ⟨by kernel_rfl, ?_⟩) ?_
          rotate_left
          · intro w
            go_simp
            try with_reducible rfl
          simp only [Act.put, List.getElem_toArray, List.getElem_cons_zero, List.getElem_cons_succ, List.setIfInBounds_toArray, List.set_cons_zero, List.set_cons_succ]
          refine wpAny_take (i := 4) (v := ?_) rfl (by kernel_rfl) (by kernel_rfl) (by kernel_rfl) (fun _ _ _ h => h) (Or.inl ⟨by kernel_rfl, ?_⟩) ?_
          rotate_left
          · intro w
            go_simp
            try with_reducible rfl
          simp only [Act.put, List.getElem_toArray, List.getElem_cons_zero, List.getElem_cons_succ, List.setIfInBounds_toArray, List.set_cons_zero, List.set_cons_succ]
          refine wpAny_take (i := 5) (v := ?_) rfl (by kernel_rfl) (by kernel_rfl) (by kernel_rfl) (fun _ _ _ h => h) (Or.inl ⟨by kernel_rfl, ?_⟩) ?_
          rotate_left
          · intro w
            go_simp
            try with_reducible rfl
          simp only [Act.put, List.getElem_toArray, List.getElem_cons_zero, List.getElem_cons_succ, List.setIfInBounds_toArray, List.set_cons_zero, List.set_cons_succ]
          refine wpAny_take (i := 6) (v := ?_) rfl (by kernel_rfl) (by kernel_rfl) (by kernel_rfl) (fun _ _ _ h => h) (Or.inl ⟨by kernel_rfl, ?_⟩) ?_
          rotate_left
          · intro w
            go_simp
            try with_reducible rfl
          simp only [Act.put, List.getElem_toArray, List.getElem_cons_zero, List.getElem_cons_succ, List.setIfInBounds_toArray, List.set_cons_zero, List.set_cons_succ]
          refine wpAny_ready (rs := [3, 7, 12]) (by kernel_rfl) (by simp) (AllReady.cons rfl (fun K hK => ?_) (AllReady.cons rfl (fun K hK => ?_) (AllReady.cons rfl (fun K hK => ?_) AllReady.nil)))
          · skip
            go_simp
            refine hK _ _ ?_
            clear hK K
            try simp only [Act.put, List.setIfInBounds_toArray, List.set_cons_zero, List.set_cons_succ]
            refine wpAny_ready (rs := [7, 12]) (by kernel_rfl) (by simp) (AllReady.cons rfl (fun K hK => ?_) (AllReady.cons rfl (fun K hK => ?_) AllReady.nil))
            · skip
              go_simp
              refine hK _ _ ?_
              clear hK K
              try simp only [Act.put, List.setIfInBounds_toArray, List.set_cons_zero, List.set_cons_succ]
              refine wpAny_take (i := 8) (v := ?_) rfl (by kernel_rfl) (by kernel_rfl) (by kernel_rfl) (fun _ _ _ h => h) (Or.inl ⟨by kernel_rfl, ?_⟩) ?_
              rotate_left
              · intro w
                go_simp
                try with_reducible rfl
              simp only [Act.put, List.getElem_toArray, List.getElem_cons_zero, List.getElem_cons_succ, List.setIfInBounds_toArray, List.set_cons_zero, List.set_cons_succ]
              refine wpAny_take (i := 9) (v := ?_) rfl (by kernel_rfl) (by kernel_rfl) (by kernel_rfl) (fun _ _ _ h => h) (Or.inl ⟨by kernel_rfl, ?_⟩) ?_
              rotate_left
              · intro w
                go_simp
                try with_reducible rfl
              simp only [Act.put, List.getElem_toArray, List.getElem_cons_zero, List.getElem_cons_succ, List.setIfInBounds_toArray, List.set_cons_zero, List.set_cons_succ]
              refine wpAny_take (i := 10) (v := ?_) rfl (by kernel_rfl) (by kernel_rfl) (by kernel_rfl) (fun _ _ _ h => h) (Or.inl ⟨by kernel_rfl, ?_⟩) ?_
              rotate_left
              · intro w
                go_simp
                try with_reducible rfl
              simp only [Act.put, List.getElem_toArray, List.getElem_cons_zero, List.getElem_cons_succ, List.setIfInBounds_toArray, List.set_cons_zero, List.set_cons_succ]
              refine wpAny_ready (rs := [11, 12]) (by kernel_rfl) (by simp) (AllReady.cons rfl (fun K hK => ?_) (AllReady.cons rfl (fun K hK => ?_) AllReady.nil))
              · skip
                go_simp
                refine hK _ _ ?_
                clear hK K
                try simp only [Act.put, List.setIfInBounds_toArray, List.set_cons_zero, List.set_cons_succ]
                refine wpAny_ready (rs := [12]) (by kernel_rfl) (by simp) (AllReady.cons rfl (fun K hK => ?_) AllReady.nil)
                go_simp
                refine hK _ _ ?_
                clear hK K
                try simp only [Act.put, List.setIfInBounds_toArray, List.set_cons_zero, List.set_cons_succ]
                refine wpAny_ready (rs := [13]) (by kernel_rfl) (by simp) (Go.BigFrame.allReady_want rfl (by kernel_rfl) (fun K hK => ?_) AllReady.nil)
                refine wp_store_mid 101 (.tmp 6) (.tmp 25) (by rfl) wd.heap.size 0 #[.int .i64 tid, .string nm, .nilFunc] (by kernel_rfl) (by kernel_rfl) TZ.out (by kernel_rfl) (by simp [Value.oneCell']) ?_
                refine hK _ _ ?_
                clear hK K
                try simp only [Act.put, List.setIfInBounds_toArray, List.set_cons_zero, List.set_cons_succ]
                refine wpAny_done (by kernel_rfl) ?_ _
                go_wp2_with fail
                go_meet
                exact ⟨wd.heap.size, rfl, Lib.hid (FB _ rfl)⟩
              · skip
                go_simp
                refine hK _ _ ?_
                clear hK K
                try simp only [Act.put, List.setIfInBounds_toArray, List.set_cons_zero, List.set_cons_succ]
                refine wpAny_ready (rs := [11]) (by kernel_rfl) (by simp) (AllReady.cons rfl (fun K hK => ?_) AllReady.nil)
                go_simp
                refine hK _ _ ?_
                clear hK K
                try simp only [Act.put, List.setIfInBounds_toArray, List.set_cons_zero, List.set_cons_succ]
                refine wpAny_ready (rs := [13]) (by kernel_rfl) (by simp) (Go.BigFrame.allReady_want rfl (by kernel_rfl) (fun K hK => ?_) AllReady.nil)
                refine wp_store_mid 101 (.tmp 6) (.tmp 25) (by rfl) wd.heap.size 0 #[.int .i64 tid, .string nm, .nilFunc] (by kernel_rfl) (by kernel_rfl) TZ.out (by kernel_rfl) (by simp [Value.oneCell']) ?_
                refine hK _ _ ?_
                clear hK K
                try simp only [Act.put, List.setIfInBounds_toArray, List.set_cons_zero, List.set_cons_succ]
                refine wpAny_done (by kernel_rfl) ?_ _
                go_wp2_with fail
                go_meet
                exact ⟨wd.heap.size, rfl, Lib.hid (FB _ rfl)⟩
            · skip
              go_simp
              refine hK _ _ ?_
              clear hK K
              try simp only [Act.put, List.setIfInBounds_toArray, List.set_cons_zero, List.set_cons_succ]
              refine wpAny_ready (rs := [7]) (by kernel_rfl) (by simp) (AllReady.cons rfl (fun K hK => ?_) AllReady.nil)
              go_simp
              refine hK _ _ ?_
              clear hK K
              try simp only [Act.put, List.setIfInBounds_toArray, List.set_cons_zero, List.set_cons_succ]
              refine wpAny_take (i := 8) (v := ?_) rfl (by kernel_rfl) (by kernel_rfl) (by kernel_rfl) (fun _ _ _ h => h) (Or.inl ⟨by kernel_rfl, ?_⟩) ?_
              rotate_left
              · intro w
                go_simp
                try with_reducible rfl
              simp only [Act.put, List.getElem_toArray, List.getElem_cons_zero, List.getElem_cons_succ, List.setIfInBounds_toArray, List.set_cons_zero, List.set_cons_succ]
              refine wpAny_take (i := 9) (v := ?_) rfl (by kernel_rfl) (by kernel_rfl) (by kernel_rfl) (fun _ _ _ h => h) (Or.inl ⟨by kernel_rfl, ?_⟩) ?_
              rotate_left
              · intro w
                go_simp
                try with_reducible rfl
              simp only [Act.put, List.getElem_toArray, List.getElem_cons_zero, List.getElem_cons_succ, List.setIfInBounds_toArray, List.set_cons_zero, List.set_cons_succ]
              refine wpAny_take (i := 10) (v := ?_) rfl (by kernel_rfl) (by kernel_rfl) (by kernel_rfl) (fun _ _ _ h => h) (Or.inl ⟨by kernel_rfl, ?_⟩) ?_
              rotate_left
              · intro w
                go_simp
                try with_reducible rfl
              simp only [Act.put, List.getElem_toArray, List.getElem_cons_zero, List.getElem_cons_succ, List.setIfInBounds_toArray, List.set_cons_zero, List.set_cons_succ]
              refine wpAny_ready (rs := [11]) (by kernel_rfl) (by simp) (AllReady.cons rfl (fun K hK => ?_) AllReady.nil)
              go_simp
              refine hK _ _ ?_
              clear hK K
              try simp only [Act.put, List.setIfInBounds_toArray, List.set_cons_zero, List.set_cons_succ]
              refine wpAny_ready (rs := [13]) (by kernel_rfl) (by simp) (Go.BigFrame.allReady_want rfl (by kernel_rfl) (fun K hK => ?_) AllReady.nil)
              refine wp_store_mid 101 (.tmp 6) (.tmp 25) (by rfl) wd.heap.size 0 #[.int .i64 tid, .string nm, .nilFunc] (by kernel_rfl) (by kernel_rfl) TZ.out (by kernel_rfl) (by simp [Value.oneCell']) ?_
              refine hK _ _ ?_
              clear hK K
              try simp only [Act.put, List.setIfInBounds_toArray, List.set_cons_zero, List.set_cons_succ]
              refine wpAny_done (by kernel_rfl) ?_ _
              go_wp2_with fail
              go_meet
              exact ⟨wd.heap.size, rfl, Lib.hid (FB _ rfl)⟩
          · skip
            go_simp
            refine hK _ _ ?_
            clear hK K
            try simp only [Act.put, List.setIfInBounds_toArray, List.set_cons_zero, List.set_cons_succ]
            refine wpAny_take (i := 8) (v := ?_) rfl (by kernel_rfl) (by kernel_rfl) (by kernel_rfl) (fun _ _ _ h => h) (Or.inl ⟨by kernel_rfl, ?_⟩) ?_
            rotate_left
            · intro w
              go_simp
              try with_reducible rfl
            simp only [Act.put, List.getElem_toArray, List.getElem_cons_zero, List.getElem_cons_succ, List.setIfInBounds_toArray, List.set_cons_zero, List.set_cons_succ]
            refine wpAny_take (i := 9) (v := ?_) rfl (by kernel_rfl) (by kernel_rfl) (by kernel_rfl) (fun _ _ _ h => h) (Or.inl ⟨by kernel_rfl, ?_⟩) ?_
            rotate_left
            · intro w
              go_simp
              try with_reducible rfl
            simp only [Act.put, List.getElem_toArray, List.getElem_cons_zero, List.getElem_cons_succ, List.setIfInBounds_toArray, List.set_cons_zero, List.set_cons_succ]
            refine wpAny_ready (rs := [3, 12]) (by kernel_rfl) (by simp) (AllReady.cons rfl (fun K hK => ?_) (AllReady.cons rfl (fun K hK => ?_) AllReady.nil))
            · skip
              go_simp
              refine hK _ _ ?_
              clear hK K
              try simp only [Act.put, List.setIfInBounds_toArray, List.set_cons_zero, List.set_cons_succ]
              refine wpAny_take (i := 10) (v := ?_) rfl (by kernel_rfl) (by kernel_rfl) (by kernel_rfl) (fun _ _ _ h => h) (Or.inl ⟨by kernel_rfl, ?_⟩) ?_
              rotate_left
              · intro w
                go_simp
                try with_reducible rfl
              simp only [Act.put, List.getElem_toArray, List.getElem_cons_zero, List.getElem_cons_succ, List.setIfInBounds_toArray, List.set_cons_zero, List.set_cons_succ]
              refine wpAny_ready (rs := [11, 12]) (by kernel_rfl) (by simp) (AllReady.cons rfl (fun K hK => ?_) (AllReady.cons rfl (fun K hK => ?_) AllReady.nil))
              · skip
                go_simp
                refine hK _ _ ?_
                clear hK K
                try simp only [Act.put, List.setIfInBounds_toArray, List.set_cons_zero, List.set_cons_succ]
                refine wpAny_ready (rs := [12]) (by kernel_rfl) (by simp) (AllReady.cons rfl (fun K hK => ?_) AllReady.nil)
                go_simp
                refine hK _ _ ?_
                clear hK K
                try simp only [Act.put, List.setIfInBounds_toArray, List.set_cons_zero, List.set_cons_succ]
                refine wpAny_ready (rs := [13]) (by kernel_rfl) (by simp) (Go.BigFrame.allReady_want rfl (by kernel_rfl) (fun K hK => ?_) AllReady.nil)
                refine wp_store_mid 101 (.tmp 6) (.tmp 25) (by rfl) wd.heap.size 0 #[.int .i64 tid, .string nm, .nilFunc] (by kernel_rfl) (by kernel_rfl) TZ.out (by kernel_rfl) (by simp [Value.oneCell']) ?_
                refine hK _ _ ?_
                clear hK K
                try simp only [Act.put, List.setIfInBounds_toArray, List.set_cons_zero, List.set_cons_succ]
                refine wpAny_done (by kernel_rfl) ?_ _
                go_wp2_with fail
                go_meet
                exact ⟨wd.heap.size, rfl, Lib.hid (FB _ rfl)⟩
              · skip
                go_simp
                refine hK _ _ ?_
                clear hK K
                try simp only [Act.put, List.setIfInBounds_toArray, List.set_cons_zero, List.set_cons_succ]
                refine wpAny_ready (rs := [11]) (by kernel_rfl) (by simp) (AllReady.cons rfl (fun K hK => ?_) AllReady.nil)
                go_simp
                refine hK _ _ ?_
                clear hK K
                try simp only [Act.put, List.setIfInBounds_toArray, List.set_cons_zero, List.set_cons_succ]
                refine wpAny_ready (rs := [13]) (by kernel_rfl) (by simp) (Go.BigFrame.allReady_want rfl (by kernel_rfl) (fun K hK => ?_) AllReady.nil)
                refine wp_store_mid 101 (.tmp 6) (.tmp 25) (by rfl) wd.heap.size 0 #[.int .i64 tid, .string nm, .nilFunc] (by kernel_rfl) (by kernel_rfl) TZ.out (by kernel_rfl) (by simp [Value.oneCell']) ?_
                refine hK _ _ ?_
                clear hK K
                try simp only [Act.put, List.setIfInBounds_toArray, List.set_cons_zero, List.set_cons_succ]
                refine wpAny_done (by kernel_rfl) ?_ _
                go_wp2_with fail
                go_meet
                exact ⟨wd.heap.size, rfl, Lib.hid (FB _ rfl)⟩
            · skip
              go_simp
              refine hK _ _ ?_
              clear hK K
              try simp only [Act.put, List.setIfInBounds_toArray, List.set_cons_zero, List.set_cons_succ]
              refine wpAny_ready (rs := [3]) (by kernel_rfl) (by simp) (AllReady.cons rfl (fun K hK => ?_) AllReady.nil)
              go_simp
              refine hK _ _ ?_
              clear hK K
              try simp only [Act.put, List.setIfInBounds_toArray, List.set_cons_zero, List.set_cons_succ]
              refine wpAny_take (i := 10) (v := ?_) rfl (by kernel_rfl) (by kernel_rfl) (by kernel_rfl) (fun _ _ _ h => h) (Or.inl ⟨by kernel_rfl, ?_⟩) ?_
              rotate_left
              · intro w
                go_simp
                try with_reducible rfl
              simp only [Act.put, List.getElem_toArray, List.getElem_cons_zero, List.getElem_cons_succ, List.setIfInBounds_toArray, List.set_cons_zero, List.set_cons_succ]
              refine wpAny_ready (rs := [11]) (by kernel_rfl) (by simp) (AllReady.cons rfl (fun K hK => ?_) AllReady.nil)
              go_simp
              refine hK _ _ ?_
              clear hK K
              try simp only [Act.put, List.setIfInBounds_toArray, List.set_cons_zero, List.set_cons_succ]
              refine wpAny_ready (rs := [13]) (by kernel_rfl) (by simp) (Go.BigFrame.allReady_want rfl (by kernel_rfl) (fun K hK => ?_) AllReady.nil)
              refine wp_store_mid 101 (.tmp 6) (.tmp 25) (by rfl) wd.heap.size 0 #[.int .i64 tid, .string nm, .nilFunc] (by kernel_rfl) (by kernel_rfl) TZ.out (by kernel_rfl) (by simp [Value.oneCell']) ?_
              refine hK _ _ ?_
              clear hK K
              try simp only [Act.put, List.setIfInBounds_toArray, List.set_cons_zero, List.set_cons_succ]
              refine wpAny_done (by kernel_rfl) ?_ _
              go_wp2_with fail
              go_meet
              exact ⟨wd.heap.size, rfl, Lib.hid (FB _ rfl)⟩
          · skip
            go_simp
            refine hK _ _ ?_
            clear hK K
            try simp only [Act.put, List.setIfInBounds_toArray, List.set_cons_zero, List.set_cons_succ]
            refine wpAny_ready (rs := [3, 7]) (by kernel_rfl) (by simp) (AllReady.cons rfl (fun K hK => ?_) (AllReady.cons rfl (fun K hK => ?_) AllReady.nil))
            · skip
              go_simp
              refine hK _ _ ?_
              clear hK K
              try simp only [Act.put, List.setIfInBounds_toArray, List.set_cons_zero, List.set_cons_succ]
              refine wpAny_ready (rs := [7]) (by kernel_rfl) (by simp) (AllReady.cons rfl (fun K hK => ?_) AllReady.nil)
              go_simp
              refine hK _ _ ?_
              clear hK K
              try simp only [Act.put, List.setIfInBounds_toArray, List.set_cons_zero, List.set_cons_succ]
              refine wpAny_take (i := 8) (v := ?_) rfl (by kernel_rfl) (by kernel_rfl) (by kernel_rfl) (fun _ _ _ h => h) (Or.inl ⟨by kernel_rfl, ?_⟩) ?_
              rotate_left
              · intro w
                go_simp
                try with_reducible rfl
              simp only [Act.put, List.getElem_toArray, List.getElem_cons_zero, List.getElem_cons_succ, List.setIfInBounds_toArray, List.set_cons_zero, List.set_cons_succ]
              refine wpAny_take (i := 9) (v := ?_) rfl (by kernel_rfl) (by kernel_rfl) (by kernel_rfl) (fun _ _ _ h => h) (Or.inl ⟨by kernel_rfl, ?_⟩) ?_
              rotate_left
              · intro w
                go_simp
                try with_reducible rfl
              simp only [Act.put, List.getElem_toArray, List.getElem_cons_zero, List.getElem_cons_succ, List.setIfInBounds_toArray, List.set_cons_zero, List.set_cons_succ]
              refine wpAny_take (i := 10) (v := ?_) rfl (by kernel_rfl) (by kernel_rfl) (by kernel_rfl) (fun _ _ _ h => h) (Or.inl ⟨by kernel_rfl, ?_⟩) ?_
              rotate_left
              · intro w
                go_simp
                try with_reducible rfl
              simp only [Act.put, List.getElem_toArray, List.getElem_cons_zero, List.getElem_cons_succ, List.setIfInBounds_toArray, List.set_cons_zero, List.set_cons_succ]
              refine wpAny_ready (rs := [11]) (by kernel_rfl) (by simp) (AllReady.cons rfl (fun K hK => ?_) AllReady.nil)
              go_simp
              refine hK _ _ ?_
              clear hK K
              try simp only [Act.put, List.setIfInBounds_toArray, List.set_cons_zero, List.set_cons_succ]
              refine wpAny_ready (rs := [13]) (by kernel_rfl) (by simp) (Go.BigFrame.allReady_want rfl (by kernel_rfl) (fun K hK => ?_) AllReady.nil)
              refine wp_store_mid 101 (.tmp 6) (.tmp 25) (by rfl) wd.heap.size 0 #[.int .i64 tid, .string nm, .nilFunc] (by kernel_rfl) (by kernel_rfl) TZ.out (by kernel_rfl) (by simp [Value.oneCell']) ?_
              refine hK _ _ ?_
              clear hK K
              try simp only [Act.put, List.setIfInBounds_toArray, List.set_cons_zero, List.set_cons_succ]
              refine wpAny_done (by kernel_rfl) ?_ _
              go_wp2_with fail
              go_meet
              exact ⟨wd.heap.size, rfl, Lib.hid (FB _ rfl)⟩
            · skip
              go_simp
              refine hK _ _ ?_
              clear hK K
              try simp only [Act.put, List.setIfInBounds_toArray, List.set_cons_zero, List.set_cons_succ]
              refine wpAny_take (i := 8) (v := ?_) rfl (by kernel_rfl) (by kernel_rfl) (by kernel_rfl) (fun _ _ _ h => h) (Or.inl ⟨by kernel_rfl, ?_⟩) ?_
              rotate_left
              · intro w
                go_simp
                try with_reducible rfl
              simp only [Act.put, List.getElem_toArray, List.getElem_cons_zero, List.getElem_cons_succ, List.setIfInBounds_toArray, List.set_cons_zero, List.set_cons_succ]
              refine wpAny_take (i := 9) (v := ?_) rfl (by kernel_rfl) (by kernel_rfl) (by kernel_rfl) (fun _ _ _ h => h) (Or.inl ⟨by kernel_rfl, ?_⟩) ?_
              rotate_left
              · intro w
                go_simp
                try with_reducible rfl
              simp only [Act.put, List.getElem_toArray, List.getElem_cons_zero, List.getElem_cons_succ, List.setIfInBounds_toArray, List.set_cons_zero, List.set_cons_succ]
              refine wpAny_ready (rs := [3]) (by kernel_rfl) (by simp) (AllReady.cons rfl (fun K hK => ?_) AllReady.nil)
              go_simp
              refine hK _ _ ?_
              clear hK K
              try simp only [Act.put, List.setIfInBounds_toArray, List.set_cons_zero, List.set_cons_succ]
              refine wpAny_take (i := 10) (v := ?_) rfl (by kernel_rfl) (by kernel_rfl) (by kernel_rfl) (fun _ _ _ h => h) (Or.inl ⟨by kernel_rfl, ?_⟩) ?_
              rotate_left
              · intro w
                go_simp
                try with_reducible rfl
              simp only [Act.put, List.getElem_toArray, List.getElem_cons_zero, List.getElem_cons_succ, List.setIfInBounds_toArray, List.set_cons_zero, List.set_cons_succ]
              refine wpAny_ready (rs := [11]) (by kernel_rfl) (by simp) (AllReady.cons rfl (fun K hK => ?_) AllReady.nil)
              go_simp
              refine hK _ _ ?_
              clear hK K
              try simp only [Act.put, List.setIfInBounds_toArray, List.set_cons_zero, List.set_cons_succ]
              refine wpAny_ready (rs := [13]) (by kernel_rfl) (by simp) (Go.BigFrame.allReady_want rfl (by kernel_rfl) (fun K hK => ?_) AllReady.nil)
              refine wp_store_mid 101 (.tmp 6) (.tmp 25) (by rfl) wd.heap.size 0 #[.int .i64 tid, .string nm, .nilFunc] (by kernel_rfl) (by kernel_rfl) TZ.out (by kernel_rfl) (by simp [Value.oneCell']) ?_
              refine hK _ _ ?_
              clear hK K
              try simp only [Act.put, List.setIfInBounds_toArray, List.set_cons_zero, List.set_cons_succ]
              refine wpAny_done (by kernel_rfl) ?_ _
              go_wp2_with fail
              go_meet
              exact ⟨wd.heap.size, rfl, Lib.hid (FB _ rfl)⟩
        case rest =>
          obtain ⟨p6, rfl, hcut⟩ := hcut
          have BW := Lib.hid hcut.out.1
          have BX := Lib.hid hcut.out.2.1
          have BP := Lib.hid hcut.out.2.2

          have B3 := Lib.hid (BQ.out.below BW.out)
          clear hcut c0 g0 g1 g2 hmi2
          have c0 : wc.cell? ⟨b, 0, none⟩ = some (.slice (some ⟨g, 0, none⟩) (m + 1) c) := (BW.out.cell (p := ⟨b, 0, none⟩) (World.block_lt_of_cell? wr _ C0.out)).trans C0.out
          have hmi3 : (0 : Int) ≤ (m : Int) ∧ (m : Int) ≤ (c : Int) := by omega
          have hmi4 : m ≤ c := by omega
          have f0 := B3.out.frozen 0
          have POP : Hid (∀ W, Below wc.heap.size wc W → BagAt (W.setCell ⟨b, 0, none⟩ (.slice (some ⟨g, 0, none⟩) m c)) B b R last false closed ∧ Rel B (SOne b) W (W.setCell ⟨b, 0, none⟩ (.slice (some ⟨g, 0, none⟩) m c))) := Lib.hid (fun W hb => by
            have h1 := B3.out.below hb
            have h2 : W.cell? ⟨b, 0, none⟩ = some (.slice (some ⟨g, 0, none⟩) (R.length + 1) c) := by
              rw [HMR.out]
              exact (hb.cell (p := ⟨b, 0, none⟩) (World.block_lt_of_cell? wc _ ((BW.out.cell (p := ⟨b, 0, none⟩) (World.block_lt_of_cell? wr _ C0.out)).trans C0.out))).trans ((BW.out.cell (p := ⟨b, 0, none⟩) (World.block_lt_of_cell? wr _ C0.out)).trans C0.out)
            have h3 := h1.pop h2
            rw [HMR.out] at h3
            exact ⟨h3, h1.relSet 0 _ _ (fun C z => ⟨rfl, C, z, rfl⟩) (Nat.le_refl _)⟩)
          go_upto_region 4 with fail
          go_cut [] (fun wx => Hid (BagAt wx B b R last false closed ∧ Rel B (SOne b) wr wx ∧ wx.heap[p6]? = some (.cells #[.int .i64 tid, .string nm, .nilFunc] 101 (0, 0))))
          case first => as_aux_lemma => --ok
            refine wp_region_any (by kernel_rfl) ?_
            obtain ⟨wd, hwd⟩ : ∃ x, x = wc.drew := ⟨_, rfl⟩
            change wpAny _ _ _ _ _ _ _ wc.drew
            rw [← hwd]
            have bd : Below wc.heap.size wc wd := by rw [hwd]; exact (Below.refl _ _).drew
            have d0 : wd.cell? ⟨b, 0, none⟩ = some (.slice (some ⟨g, 0, none⟩) (m + 1) c) := by rw [hwd]; exact c0
            have df : wd.frozen? ⟨b, 0, none⟩ = false := by rw [hwd]; exact f0
            have FB : Hid (BagAt (wd.setCell ⟨b, 0, none⟩ (.slice (some ⟨g, 0, none⟩) m c)) B b R last false closed ∧ Rel B (SOne b) wr (wd.setCell ⟨b, 0, none⟩ (.slice (some ⟨g, 0, none⟩) m c)) ∧ (wd.setCell ⟨b, 0, none⟩ (.slice (some ⟨g, 0, none⟩) m c)).heap[p6]? = some (.cells #[.int .i64 tid, .string nm, .nilFunc] 101 (0, 0))) := Lib.hid (by
              obtain ⟨z1, z2⟩ := POP.out wd bd
              refine ⟨z1, ((Rel.below BW.out).trans (Rel.below bd)).trans z2, ?_⟩
              have hb := BQ.out.lt
              have hp := BP.out
              rw [Below.heap_setCell _ _ _ _ (by simp; omega)]
              exact (bd.block p6 (Array.getElem?_eq_some_iff.1 BX.out).1).trans BX.out)
            clear hwd bd c0 f0

            refine wpAny_take (i := 0) (v := ?_) rfl (by kernel_rfl) (by kernel_rfl) (by kernel_rfl) (fun _ _ _ h => h) (Or.inl ⟨by kernel_rfl, ?_⟩) ?_
            rotate_left
            · intro w
              go_simp
              try with_reducible rfl
            simp only [Act.put, List.getElem_toArray, List.getElem_cons_zero, List.getElem_cons_succ, List.setIfInBounds_toArray, List.set_cons_zero, List.set_cons_succ]
            refine wpAny_take (i := 1) (v := ?_) rfl (by kernel_rfl) (by kernel_rfl) (by kernel_rfl) (fun _ _ _ h => h) (Or.inl ⟨by kernel_rfl, ?_⟩) ?_
            rotate_left
            · intro w
              go_simp
              try with_reducible rfl
            simp only [Act.put, List.getElem_toArray, List.getElem_cons_zero, List.getElem_cons_succ, List.setIfInBounds_toArray, List.set_cons_zero, List.set_cons_succ]
            refine wpAny_take (i := 2) (v := ?_) rfl (by kernel_rfl) (by kernel_rfl) (by kernel_rfl) (fun _ _ _ h => h) (Or.inl ⟨by kernel_rfl, ?_⟩) ?_
            rotate_left
            · intro w
              go_simp
              try with_reducible rfl
            simp only [Act.put, List.getElem_toArray, List.getElem_cons_zero, List.getElem_cons_succ, List.setIfInBounds_toArray, List.set_cons_zero, List.set_cons_succ]
            refine wpAny_take (i := 3) (v := ?_) rfl (by kernel_rfl) (by kernel_rfl) (by kernel_rfl) (fun _ _ _ h => h) (Or.inl ⟨by kernel_rfl, ?_⟩) ?_
            rotate_left
            · intro w
              go_simp
              try with_reducible rfl
            simp only [Act.put, List.getElem_toArray, List.getElem_cons_zero, List.getElem_cons_succ, List.setIfInBounds_toArray, List.set_cons_zero, List.set_cons_succ]
            refine wpAny_take (i := 5) (v := ?_) rfl (by kernel_rfl) (by kernel_rfl) (by kernel_rfl) (fun _ _ _ h => h) (Or.inl ⟨by kernel_rfl, ?_⟩) ?_
            rotate_left
            · intro w
              go_simp
              try with_reducible rfl
            simp only [Act.put, List.getElem_toArray, List.getElem_cons_zero, List.getElem_cons_succ, List.setIfInBounds_toArray, List.set_cons_zero, List.set_cons_succ]
            refine wpAny_take (i := 6) (v := ?_) rfl (by kernel_rfl) (by kernel_rfl) (by kernel_rfl) (fun _ _ _ h => h) (Or.inl ⟨by kernel_rfl, ?_⟩) ?_
            rotate_left
            · intro w
              go_simp
              try with_reducible rfl
            simp only [Act.put, List.getElem_toArray, List.getElem_cons_zero, List.getElem_cons_succ, List.setIfInBounds_toArray, List.set_cons_zero, List.set_cons_succ]
            refine wpAny_take (i := 7) (v := ?_) rfl (by kernel_rfl) (by kernel_rfl) (by kernel_rfl) (fun _ _ _ h => h) (Or.inl ⟨by kernel_rfl, ?_⟩) ?_
            rotate_left
            · intro w
              go_simp
              try with_reducible rfl
            simp only [Act.put, List.getElem_toArray, List.getElem_cons_zero, List.getElem_cons_succ, List.setIfInBounds_toArray, List.set_cons_zero, List.set_cons_succ]
            refine wpAny_ready (rs := [4, 8]) (by kernel_rfl) (by simp) (AllReady.cons rfl (fun K hK => ?_) (AllReady.cons rfl (fun K hK => ?_) AllReady.nil))
            · skip
              go_simp
              refine hK _ _ ?_
              clear hK K
              try simp only [Act.put, List.setIfInBounds_toArray, List.set_cons_zero, List.set_cons_succ]
              refine wpAny_ready (rs := [8]) (by kernel_rfl) (by simp) (AllReady.cons rfl (fun K hK => ?_) AllReady.nil)
              go_simp
              refine hK _ _ ?_
              clear hK K
              try simp only [Act.put, List.setIfInBounds_toArray, List.set_cons_zero, List.set_cons_succ]
              refine wpAny_take (i := 9) (v := ?_) rfl (by kernel_rfl) (by kernel_rfl) (by kernel_rfl) (fun _ _ _ h => h) (Or.inl ⟨by kernel_rfl, ?_⟩) ?_
              rotate_left
              · intro w
                go_simp
                try with_reducible rfl
              simp only [Act.put, List.getElem_toArray, List.getElem_cons_zero, List.getElem_cons_succ, List.setIfInBounds_toArray, List.set_cons_zero, List.set_cons_succ]
              refine wpAny_take (i := 10) (v := ?_) rfl (by kernel_rfl) (by kernel_rfl) (by kernel_rfl) (fun _ _ _ h => h) (Or.inl ⟨by kernel_rfl, ?_⟩) ?_
              rotate_left
              · intro w
                go_simp
                try with_reducible rfl
              simp only [Act.put, List.getElem_toArray, List.getElem_cons_zero, List.getElem_cons_succ, List.setIfInBounds_toArray, List.set_cons_zero, List.set_cons_succ]
              refine wpAny_take (i := 11) (v := ?_) rfl (by kernel_rfl) (by kernel_rfl) (by kernel_rfl) (fun _ _ _ h => h) (Or.inl ⟨by kernel_rfl, ?_⟩) ?_
              rotate_left
              · intro w
                go_simp
                try with_reducible rfl
              simp only [Act.put, List.getElem_toArray, List.getElem_cons_zero, List.getElem_cons_succ, List.setIfInBounds_toArray, List.set_cons_zero, List.set_cons_succ]
              refine wpAny_take (i := 12) (v := ?_) rfl (by kernel_rfl) (by kernel_rfl) (by kernel_rfl) (fun _ _ _ h => h) (Or.inl ⟨by kernel_rfl, ?_⟩) ?_
              rotate_left
              · intro w
                go_simp
                try with_reducible rfl
              simp only [Act.put, List.getElem_toArray, List.getElem_cons_zero, List.getElem_cons_succ, List.setIfInBounds_toArray, List.set_cons_zero, List.set_cons_succ]
              refine wpAny_take (i := 13) (v := ?_) rfl (by kernel_rfl) (by kernel_rfl) (by kernel_rfl) (fun _ _ _ h => h) (Or.inl ⟨by kernel_rfl, ?_⟩) ?_
              rotate_left
              · intro w
                go_simp
                try with_reducible rfl
              simp only [Act.put, List.getElem_toArray, List.getElem_cons_zero, List.getElem_cons_succ, List.setIfInBounds_toArray, List.set_cons_zero, List.set_cons_succ]
              refine wpAny_ready (rs := [14]) (by kernel_rfl) (by simp) (AllReady.cons rfl (fun K hK => ?_) AllReady.nil)
              go_simp
              refine hK _ _ ?_
              clear hK K
              try simp only [Act.put, List.setIfInBounds_toArray, List.set_cons_zero, List.set_cons_succ]
              refine wpAny_done (by kernel_rfl) ?_ _
              go_wp2_with fail
              go_meet
              exact FB
            · skip
              go_simp
              refine hK _ _ ?_
              clear hK K
              try simp only [Act.put, List.setIfInBounds_toArray, List.set_cons_zero, List.set_cons_succ]
              refine wpAny_take (i := 9) (v := ?_) rfl (by kernel_rfl) (by kernel_rfl) (by kernel_rfl) (fun _ _ _ h => h) (Or.inl ⟨by kernel_rfl, ?_⟩) ?_
              rotate_left
              · intro w
                go_simp
                try with_reducible rfl
              simp only [Act.put, List.getElem_toArray, List.getElem_cons_zero, List.getElem_cons_succ, List.setIfInBounds_toArray, List.set_cons_zero, List.set_cons_succ]
              refine wpAny_take (i := 10) (v := ?_) rfl (by kernel_rfl) (by kernel_rfl) (by kernel_rfl) (fun _ _ _ h => h) (Or.inl ⟨by kernel_rfl, ?_⟩) ?_
              rotate_left
              · intro w
                go_simp
                try with_reducible rfl
              simp only [Act.put, List.getElem_toArray, List.getElem_cons_zero, List.getElem_cons_succ, List.setIfInBounds_toArray, List.set_cons_zero, List.set_cons_succ]
              refine wpAny_ready (rs := [4]) (by kernel_rfl) (by simp) (AllReady.cons rfl (fun K hK => ?_) AllReady.nil)
              go_simp
              refine hK _ _ ?_
              clear hK K
              try simp only [Act.put, List.setIfInBounds_toArray, List.set_cons_zero, List.set_cons_succ]
              refine wpAny_take (i := 11) (v := ?_) rfl (by kernel_rfl) (by kernel_rfl) (by kernel_rfl) (fun _ _ _ h => h) (Or.inl ⟨by kernel_rfl, ?_⟩) ?_
              rotate_left
              · intro w
                go_simp
                try with_reducible rfl
              simp only [Act.put, List.getElem_toArray, List.getElem_cons_zero, List.getElem_cons_succ, List.setIfInBounds_toArray, List.set_cons_zero, List.set_cons_succ]
              refine wpAny_take (i := 12) (v := ?_) rfl (by kernel_rfl) (by kernel_rfl) (by kernel_rfl) (fun _ _ _ h => h) (Or.inl ⟨by kernel_rfl, ?_⟩) ?_
              rotate_left
              · intro w
                go_simp
                try with_reducible rfl
              simp only [Act.put, List.getElem_toArray, List.getElem_cons_zero, List.getElem_cons_succ, List.setIfInBounds_toArray, List.set_cons_zero, List.set_cons_succ]
              refine wpAny_take (i := 13) (v := ?_) rfl (by kernel_rfl) (by kernel_rfl) (by kernel_rfl) (fun _ _ _ h => h) (Or.inl ⟨by kernel_rfl, ?_⟩) ?_
              rotate_left
              · intro w
                go_simp
                try with_reducible rfl
              simp only [Act.put, List.getElem_toArray, List.getElem_cons_zero, List.getElem_cons_succ, List.setIfInBounds_toArray, List.set_cons_zero, List.set_cons_succ]
              refine wpAny_ready (rs := [14]) (by kernel_rfl) (by simp) (AllReady.cons rfl (fun K hK => ?_) AllReady.nil)
              go_simp
              refine hK _ _ ?_
              clear hK K
              try simp only [Act.put, List.setIfInBounds_toArray, List.set_cons_zero, List.set_cons_succ]
              refine wpAny_done (by kernel_rfl) ?_ _
              go_wp2_with fail
              go_meet
              exact FB
          case rest =>
            obtain ⟨w4, rfl⟩ : ∃ x : World, x = wc := ⟨_, rfl⟩
            have Q1 := Lib.hid hcut.out.1
            have Q2 := Lib.hid hcut.out.2.1
            have Q3 := Lib.hid hcut.out.2.2
            clear hcut c0 f0 B3 POP BW BX hmi3 hmi4
            have q0 := (cell_of_row _ p6 0 _ _ _ Q3.out).trans (show (#[.int .i64 tid, .string nm, .nilFunc] : Array Value)[0]? = some (.int .i64 tid) from rfl)
            have q1 := (cell_of_row _ p6 1 _ _ _ Q3.out).trans (show (#[.int .i64 tid, .string nm, .nilFunc] : Array Value)[1]? = some (.string nm) from rfl)
            have q2 := (cell_of_row _ p6 2 _ _ _ Q3.out).trans (show (#[.int .i64 tid, .string nm, .nilFunc] : Array Value)[2]? = some (.nilFunc) from rfl)

            have fnn := fn_none'
            have IS := Lib.hid (HII.out _ _ _ HQ.out.2.2.2.1 (Q2.out.mono (fun k o h => Or.inl (Or.inl h)) (Nat.le_refl _)))
            go_wp2_with fail
            go_roundg rest.length
            case measure => rw [HR.out]; simp
            case rel =>
              obtain ⟨z1, z2, z3, z4, z5, z6, z7, z8⟩ := HQ.out
              refine ⟨rest, s1, o1, rfl, Lib.hid ⟨fun t ht => z1 t (List.mem_cons_of_mem _ ht), ⟨by have z2 := z2.1; simp only [List.length_cons] at z2; omega, z2.2⟩, by rw [← HRR.out]; exact Q1.out, IS.out, ?_, ?_, ?_, z8.trans (Q2.out.mono (fun k o h => Or.inl (Or.inl h)) (Nat.le_refl _))⟩⟩
              · rw [z5]; simp only [runB]
              · rw [z6]; simp only [runB]
              · exact own_rel z7 Q2.out (fun k C _ _ h => by
                  obtain ⟨_, C', z', h⟩ := h
                  cases h)

      · skip
        have g0 : wr.cell? ⟨g, m * 3, none⟩ = some (.int .i64 tid) := gx 0 _ rfl
        have g1 : wr.cell? ⟨g, m * 3 + 1, none⟩ = some (.string nm) := gx 1 _ rfl
        have g2 : wr.cell? ⟨g, m * 3 + 2, none⟩ = some (.func (.func kf) #[] cf) := gx 2 _ rfl
        have hmi : ((m : Int) + 1) > (n0 : Int) := by omega
        have ww : IntKind.i64.wrap (m : Int) = (m : Int) := by rw [IntKind.wrap_i64]; omega
        have hmi2 : (0 : Int) ≤ (m : Int) ∧ (m : Int) < (m : Int) + 1 := by omega
        have C0 := Lib.hid c0
        clear gx
        go_upto_region 3 with fail
        go_cut [6] (fun v6 wx => ∃ p : Nat, v6 = .pointer (some ⟨p, 0, none⟩) ∧ Hid (Below wr.heap.size wr wx ∧ wx.heap[p]? = some (.cells #[.int .i64 tid, .string nm, .func (.func kf) #[] cf] 101 (0, 0)) ∧ wr.heap.size ≤ p))
        case first => as_aux_lemma => --ok
          refine wp_region_any (by kernel_rfl) ?_
          obtain ⟨wd, hwd⟩ : ∃ x, x = wr.drew := ⟨_, rfl⟩
          change wpAny _ _ _ _ _ _ _ wr.drew
          rw [← hwd]
          have bd : Below wr.heap.size wr wd := by rw [hwd]; exact (Below.refl _ _).drew
          have d0 : wd.cell? ⟨b, 0, none⟩ = some (.slice (some ⟨g, 0, none⟩) (m + 1) c) := by rw [hwd]; exact c0
          have d1 : wd.cell? ⟨g, m * 3, none⟩ = some (.int .i64 tid) := by rw [hwd]; exact g0
          have d2 : wd.cell? ⟨g, m * 3 + 1, none⟩ = some (.string nm) := by rw [hwd]; exact g1
          have d3 : wd.cell? ⟨g, m * 3 + 2, none⟩ = some (.func (.func kf) #[] cf) := by rw [hwd]; exact g2
          have ba : Below wd.heap.size wd (wd.alloc (.cells #[.int .i64 0, .string ⟨#[]⟩, .nilFunc] 101)) := (Below.refl _ wd).alloc (Nat.le_refl _) _
          have e0 := (ba.cell (p := ⟨b, 0, none⟩) (World.block_lt_of_cell? wd _ d0)).trans d0
          have e1 := (ba.cell (p := ⟨g, m * 3, none⟩) (World.block_lt_of_cell? wd _ d1)).trans d1
          have e2 := (ba.cell (p := ⟨g, m * 3 + 1, none⟩) (World.block_lt_of_cell? wd _ d2)).trans d2
          have e3 := (ba.cell (p := ⟨g, m * 3 + 2, none⟩) (World.block_lt_of_cell? wd _ d3)).trans d3
          have TZ : Hid ((wd.alloc (.cells #[.int .i64 0, .string ⟨#[]⟩, .nilFunc] 101)).there wd.heap.size 0 3) := Lib.hid (fun j hj => ⟨by
            rw [cell_of_row _ _ _ _ _ _ (heap_alloc_new wd (.cells #[.int .i64 0, .string ⟨#[]⟩, .nilFunc] 101))]
            exact Option.isSome_iff_exists.2 ⟨_, Array.getElem?_eq_getElem (by simp; omega)⟩, frozen_of_row _ _ _ _ _ (heap_alloc_new wd (.cells #[.int .i64 0, .string ⟨#[]⟩, .nilFunc] 101))⟩)
          have FB : ∀ W, W = (wd.alloc (.cells #[.int .i64 0, .string ⟨#[]⟩, .nilFunc] 101)).setCells wd.heap.size 0 #[.int .i64 tid, .string nm, .func (.func kf) #[] cf].toList → (Below wr.heap.size wr W ∧ W.heap[wd.heap.size]? = some (.cells #[.int .i64 tid, .string nm, .func (.func kf) #[] cf] 101 (0, 0)) ∧ wr.heap.size ≤ wd.heap.size) := by
            rintro W rfl
            exact ⟨(bd.trans (ba.mono bd.size)).trans (below_lay bd.size _ _ _), heap_setCells_same _ _ 0 _ (heap_alloc_new wd (.cells #[.int .i64 0, .string ⟨#[]⟩, .nilFunc] 101)), bd.size⟩
          clear hwd bd ba c0 g0 g1 g2

          refine wpAny_take (i := 0) (v := ?_) rfl (by kernel_rfl) (by kernel_rfl) (by kernel_rfl) (fun _ _ _ h => h) (Or.inl ⟨by kernel_rfl, ?_⟩) ?_
          rotate_left
          · intro w
            go_simp
            try with_reducible rfl
          simp only [Act.put, List.getElem_toArray, List.getElem_cons_zero, List.getElem_cons_succ, List.setIfInBounds_toArray, List.set_cons_zero, List.set_cons_succ]
          refine wpAny_take (i := 1) (v := ?_) rfl (by kernel_rfl) (by kernel_rfl) (by kernel_rfl) (fun _ _ _ h => h) (Or.inl ⟨by kernel_rfl, ?_⟩) ?_
          rotate_left
          · intro w
            go_simp
            try with_reducible rfl
          simp only [Act.put, List.getElem_toArray, List.getElem_cons_zero, List.getElem_cons_succ, List.setIfInBounds_toArray, List.set_cons_zero, List.set_cons_succ]
          refine wpAny_take (i := 2) (v := ?_) rfl (by kernel_rfl) (by kernel_rfl) (by kernel_rfl) (fun _ _ _ h => h) (Or.inl ⟨by kernel_rfl, ?_⟩) ?_
          rotate_left
          · intro w
            go_simp
            try with_reducible rfl
          simp only [Act.put, List.getElem_toArray, List.getElem_cons_zero, List.getElem_cons_succ, List.setIfInBounds_toArray, List.set_cons_zero, List.set_cons_succ]
          refine wpAny_take (i := 4) (v := ?_) rfl (by kernel_rfl) (by kernel_rfl) (by kernel_rfl) (fun _ _ _ h => h) (Or.inl ⟨by kernel_rfl, ?_⟩) ?_
          rotate_left
          · intro w
            go_simp
            try with_reducible rfl
          simp only [Act.put, List.getElem_toArray, List.getElem_cons_zero, List.getElem_cons_succ, List.setIfInBounds_toArray, List.set_cons_zero, List.set_cons_succ]
          refine wpAny_take (i := 5) (v := ?_) rfl (by kernel_rfl) (by kernel_rfl) (by kernel_rfl) (fun _ _ _ h => h) (Or.inl ⟨by kernel_rfl, ?_⟩) ?_
          rotate_left
          · intro w
            go_simp
            try with_reducible rfl
          simp only [Act.put, List.getElem_toArray, List.getElem_cons_zero, List.getElem_cons_succ, List.setIfInBounds_toArray, List.set_cons_zero, List.set_cons_succ]
          refine wpAny_take (i := 6) (v := ?_) rfl (by kernel_rfl) (by kernel_rfl) (by kernel_rfl) (fun _ _ _ h => h) (Or.inl ⟨by kernel_rfl, ?_⟩) ?_
          rotate_left
          · intro w
            go_simp
            try with_reducible rfl
          simp only [Act.put, List.getElem_toArray, List.getElem_cons_zero, List.getElem_cons_succ, List.setIfInBounds_toArray, List.set_cons_zero, List.set_cons_succ]
          refine wpAny_ready (rs := [3, 7, 12]) (by kernel_rfl) (by simp) (AllReady.cons rfl (fun K hK => ?_) (AllReady.cons rfl (fun K hK => ?_) (AllReady.cons rfl (fun K hK => ?_) AllReady.nil)))
          · skip
            go_simp
            refine hK _ _ ?_
            clear hK K
            try simp only [Act.put, List.setIfInBounds_toArray, List.set_cons_zero, List.set_cons_succ]
            refine wpAny_ready (rs := [7, 12]) (by kernel_rfl) (by simp) (AllReady.cons rfl (fun K hK => ?_) (AllReady.cons rfl (fun K hK => ?_) AllReady.nil))
            · skip
              go_simp
              refine hK _ _ ?_
              clear hK K
              try simp only [Act.put, List.setIfInBounds_toArray, List.set_cons_zero, List.set_cons_succ]
              refine wpAny_take (i := 8) (v := ?_) rfl (by kernel_rfl) (by kernel_rfl) (by kernel_rfl) (fun _ _ _ h => h) (Or.inl ⟨by kernel_rfl, ?_⟩) ?_
              rotate_left
              · intro w
                go_simp
                try with_reducible rfl
              simp only [Act.put, List.getElem_toArray, List.getElem_cons_zero, List.getElem_cons_succ, List.setIfInBounds_toArray, List.set_cons_zero, List.set_cons_succ]
              refine wpAny_take (i := 9) (v := ?_) rfl (by kernel_rfl) (by kernel_rfl) (by kernel_rfl) (fun _ _ _ h => h) (Or.inl ⟨by kernel_rfl, ?_⟩) ?_
              rotate_left
              · intro w
                go_simp
                try with_reducible rfl
              simp only [Act.put, List.getElem_toArray, List.getElem_cons_zero, List.getElem_cons_succ, List.setIfInBounds_toArray, List.set_cons_zero, List.set_cons_succ]
              refine wpAny_take (i := 10) (v := ?_) rfl (by kernel_rfl) (by kernel_rfl) (by kernel_rfl) (fun _ _ _ h => h) (Or.inl ⟨by kernel_rfl, ?_⟩) ?_
              rotate_left
              · intro w
                go_simp
                try with_reducible rfl
              simp only [Act.put, List.getElem_toArray, List.getElem_cons_zero, List.getElem_cons_succ, List.setIfInBounds_toArray, List.set_cons_zero, List.set_cons_succ]
              refine wpAny_ready (rs := [11, 12]) (by kernel_rfl) (by simp) (AllReady.cons rfl (fun K hK => ?_) (AllReady.cons rfl (fun K hK => ?_) AllReady.nil))
              · skip
                go_simp
                refine hK _ _ ?_
                clear hK K
                try simp only [Act.put, List.setIfInBounds_toArray, List.set_cons_zero, List.set_cons_succ]
                refine wpAny_ready (rs := [12]) (by kernel_rfl) (by simp) (AllReady.cons rfl (fun K hK => ?_) AllReady.nil)
                go_simp
                refine hK _ _ ?_
                clear hK K
                try simp only [Act.put, List.setIfInBounds_toArray, List.set_cons_zero, List.set_cons_succ]
                refine wpAny_ready (rs := [13]) (by kernel_rfl) (by simp) (Go.BigFrame.allReady_want rfl (by kernel_rfl) (fun K hK => ?_) AllReady.nil)
                refine wp_store_mid 101 (.tmp 6) (.tmp 25) (by rfl) wd.heap.size 0 #[.int .i64 tid, .string nm, .func (.func kf) #[] cf] (by kernel_rfl) (by kernel_rfl) TZ.out (by kernel_rfl) (by simp [Value.oneCell']) ?_
                refine hK _ _ ?_
                clear hK K
                try simp only [Act.put, List.setIfInBounds_toArray, List.set_cons_zero, List.set_cons_succ]
                refine wpAny_done (by kernel_rfl) ?_ _
                go_wp2_with fail
                go_meet
                exact ⟨wd.heap.size, rfl, Lib.hid (FB _ rfl)⟩
              · skip
                go_simp
                refine hK _ _ ?_
                clear hK K
                try simp only [Act.put, List.setIfInBounds_toArray, List.set_cons_zero, List.set_cons_succ]
                refine wpAny_ready (rs := [11]) (by kernel_rfl) (by simp) (AllReady.cons rfl (fun K hK => ?_) AllReady.nil)
                go_simp
                refine hK _ _ ?_
                clear hK K
                try simp only [Act.put, List.setIfInBounds_toArray, List.set_cons_zero, List.set_cons_succ]
                refine wpAny_ready (rs := [13]) (by kernel_rfl) (by simp) (Go.BigFrame.allReady_want rfl (by kernel_rfl) (fun K hK => ?_) AllReady.nil)
                refine wp_store_mid 101 (.tmp 6) (.tmp 25) (by rfl) wd.heap.size 0 #[.int .i64 tid, .string nm, .func (.func kf) #[] cf] (by kernel_rfl) (by kernel_rfl) TZ.out (by kernel_rfl) (by simp [Value.oneCell']) ?_
                refine hK _ _ ?_
                clear hK K
                try simp only [Act.put, List.setIfInBounds_toArray, List.set_cons_zero, List.set_cons_succ]
                refine wpAny_done (by kernel_rfl) ?_ _
                go_wp2_with fail
                go_meet
                exact ⟨wd.heap.size, rfl, Lib.hid (FB _ rfl)⟩
            · skip
              go_simp
              refine hK _ _ ?_
              clear hK K
              try simp only [Act.put, List.setIfInBounds_toArray, List.set_cons_zero, List.set_cons_succ]
              refine wpAny_ready (rs := [7]) (by kernel_rfl) (by simp) (AllReady.cons rfl (fun K hK => ?_) AllReady.nil)
              go_simp
              refine hK _ _ ?_
              clear hK K
              try simp only [Act.put, List.setIfInBounds_toArray, List.set_cons_zero, List.set_cons_succ]
              refine wpAny_take (i := 8) (v := ?_) rfl (by kernel_rfl) (by kernel_rfl) (by kernel_rfl) (fun _ _ _ h => h) (Or.inl ⟨by kernel_rfl, ?_⟩) ?_
              rotate_left
              · intro w
                go_simp
                try with_reducible rfl
              simp only [Act.put, List.getElem_toArray, List.getElem_cons_zero, List.getElem_cons_succ, List.setIfInBounds_toArray, List.set_cons_zero, List.set_cons_succ]
              refine wpAny_take (i := 9) (v := ?_) rfl (by kernel_rfl) (by kernel_rfl) (by kernel_rfl) (fun _ _ _ h => h) (Or.inl ⟨by kernel_rfl, ?_⟩) ?_
              rotate_left
              · intro w
                go_simp
                try with_reducible rfl
              simp only [Act.put, List.getElem_toArray, List.getElem_cons_zero, List.getElem_cons_succ, List.setIfInBounds_toArray, List.set_cons_zero, List.set_cons_succ]
              refine wpAny_take (i := 10) (v := ?_) rfl (by kernel_rfl) (by kernel_rfl) (by kernel_rfl) (fun _ _ _ h => h) (Or.inl ⟨by kernel_rfl, ?_⟩) ?_
              rotate_left
              · intro w
                go_simp
                try with_reducible rfl
              simp only [Act.put, List.getElem_toArray, List.getElem_cons_zero, List.getElem_cons_succ, List.setIfInBounds_toArray, List.set_cons_zero, List.set_cons_succ]
              refine wpAny_ready (rs := [11]) (by kernel_rfl) (by simp) (AllReady.cons rfl (fun K hK => ?_) AllReady.nil)
              go_simp
              refine hK _ _ ?_
              clear hK K
              try simp only [Act.put, List.setIfInBounds_toArray, List.set_cons_zero, List.set_cons_succ]
              refine wpAny_ready (rs := [13]) (by kernel_rfl) (by simp) (Go.BigFrame.allReady_want rfl (by kernel_rfl) (fun K hK => ?_) AllReady.nil)
              refine wp_store_mid 101 (.tmp 6) (.tmp 25) (by rfl) wd.heap.size 0 #[.int .i64 tid, .string nm, .func (.func kf) #[] cf] (by kernel_rfl) (by kernel_rfl) TZ.out (by kernel_rfl) (by simp [Value.oneCell']) ?_
              refine hK _ _ ?_
              clear hK K
              try simp only [Act.put, List.setIfInBounds_toArray, List.set_cons_zero, List.set_cons_succ]
              refine wpAny_done (by kernel_rfl) ?_ _
              go_wp2_with fail
              go_meet
              exact ⟨wd.heap.size, rfl, Lib.hid (FB _ rfl)⟩
          · skip
            go_simp
            refine hK _ _ ?_
            clear hK K
            try simp only [Act.put, List.setIfInBounds_toArray, List.set_cons_zero, List.set_cons_succ]
            refine wpAny_take (i := 8) (v := ?_) rfl (by kernel_rfl) (by kernel_rfl) (by kernel_rfl) (fun _ _ _ h => h) (Or.inl ⟨by kernel_rfl, ?_⟩) ?_
            rotate_left
            · intro w
              go_simp
              try with_reducible rfl
            simp only [Act.put, List.getElem_toArray, List.getElem_cons_zero, List.getElem_cons_succ, List.setIfInBounds_toArray, List.set_cons_zero, List.set_cons_succ]
            refine wpAny_take (i := 9) (v := ?_) rfl (by kernel_rfl) (by kernel_rfl) (by kernel_rfl) (fun _ _ _ h => h) (Or.inl ⟨by kernel_rfl, ?_⟩) ?_
            rotate_left
            · intro w
              go_simp
              try with_reducible rfl
            simp only [Act.put, List.getElem_toArray, List.getElem_cons_zero, List.getElem_cons_succ, List.setIfInBounds_toArray, List.set_cons_zero, List.set_cons_succ]
            refine wpAny_ready (rs := [3, 12]) (by kernel_rfl) (by simp) (AllReady.cons rfl (fun K hK => ?_) (AllReady.cons rfl (fun K hK => ?_) AllReady.nil))
            · skip
              go_simp
              refine hK _ _ ?_
              clear hK K
              try simp only [Act.put, List.setIfInBounds_toArray, List.set_cons_zero, List.set_cons_succ]
              refine wpAny_take (i := 10) (v := ?_) rfl (by kernel_rfl) (by kernel_rfl) (by kernel_rfl) (fun _ _ _ h => h) (Or.inl ⟨by kernel_rfl, ?_⟩) ?_
              rotate_left
              · intro w
                go_simp
                try with_reducible rfl
              simp only [Act.put, List.getElem_toArray, List.getElem_cons_zero, List.getElem_cons_succ, List.setIfInBounds_toArray, List.set_cons_zero, List.set_cons_succ]
              refine wpAny_ready (rs := [11, 12]) (by kernel_rfl) (by simp) (AllReady.cons rfl (fun K hK => ?_) (AllReady.cons rfl (fun K hK => ?_) AllReady.nil))
              · skip
                go_simp
                refine hK _ _ ?_
                clear hK K
                try simp only [Act.put, List.setIfInBounds_toArray, List.set_cons_zero, List.set_cons_succ]
                refine wpAny_ready (rs := [12]) (by kernel_rfl) (by simp) (AllReady.cons rfl (fun K hK => ?_) AllReady.nil)
                go_simp
                refine hK _ _ ?_
                clear hK K
                try simp only [Act.put, List.setIfInBounds_toArray, List.set_cons_zero, List.set_cons_succ]
                refine wpAny_ready (rs := [13]) (by kernel_rfl) (by simp) (Go.BigFrame.allReady_want rfl (by kernel_rfl) (fun K hK => ?_) AllReady.nil)
                refine wp_store_mid 101 (.tmp 6) (.tmp 25) (by rfl) wd.heap.size 0 #[.int .i64 tid, .string nm, .func (.func kf) #[] cf] (by kernel_rfl) (by kernel_rfl) TZ.out (by kernel_rfl) (by simp [Value.oneCell']) ?_
                refine hK _ _ ?_
                clear hK K
                try simp only [Act.put, List.setIfInBounds_toArray, List.set_cons_zero, List.set_cons_succ]
                refine wpAny_done (by kernel_rfl) ?_ _
                go_wp2_with fail
                go_meet
                exact ⟨wd.heap.size, rfl, Lib.hid (FB _ rfl)⟩
              · skip
                go_simp
                refine hK _ _ ?_
                clear hK K
                try simp only [Act.put, List.setIfInBounds_toArray, List.set_cons_zero, List.set_cons_succ]
                refine wpAny_ready (rs := [11]) (by kernel_rfl) (by simp) (AllReady.cons rfl (fun K hK => ?_) AllReady.nil)
                go_simp
                refine hK _ _ ?_
                clear hK K
                try simp only [Act.put, List.setIfInBounds_toArray, List.set_cons_zero, List.set_cons_succ]
                refine wpAny_ready (rs := [13]) (by kernel_rfl) (by simp) (Go.BigFrame.allReady_want rfl (by kernel_rfl) (fun K hK => ?_) AllReady.nil)
                refine wp_store_mid 101 (.tmp 6) (.tmp 25) (by rfl) wd.heap.size 0 #[.int .i64 tid, .string nm, .func (.func kf) #[] cf] (by kernel_rfl) (by kernel_rfl) TZ.out (by kernel_rfl) (by simp [Value.oneCell']) ?_
                refine hK _ _ ?_
                clear hK K
                try simp only [Act.put, List.setIfInBounds_toArray, List.set_cons_zero, List.set_cons_succ]
                refine wpAny_done (by kernel_rfl) ?_ _
                go_wp2_with fail
                go_meet
                exact ⟨wd.heap.size, rfl, Lib.hid (FB _ rfl)⟩
            · skip
              go_simp
              refine hK _ _ ?_
              clear hK K
              try simp only [Act.put, List.setIfInBounds_toArray, List.set_cons_zero, List.set_cons_succ]
              refine wpAny_ready (rs := [3]) (by kernel_rfl) (by simp) (AllReady.cons rfl (fun K hK => ?_) AllReady.nil)
              go_simp
              refine hK _ _ ?_
              clear hK K
              try simp only [Act.put, List.setIfInBounds_toArray, List.set_cons_zero, List.set_cons_succ]
              refine wpAny_take (i := 10) (v := ?_) rfl (by kernel_rfl) (by kernel_rfl) (by kernel_rfl) (fun _ _ _ h => h) (Or.inl ⟨by kernel_rfl, ?_⟩) ?_
              rotate_left
              · intro w
                go_simp
                try with_reducible rfl
              simp only [Act.put, List.getElem_toArray, List.getElem_cons_zero, List.getElem_cons_succ, List.setIfInBounds_toArray, List.set_cons_zero, List.set_cons_succ]
              refine wpAny_ready (rs := [11]) (by kernel_rfl) (by simp) (AllReady.cons rfl (fun K hK => ?_) AllReady.nil)
              go_simp
              refine hK _ _ ?_
              clear hK K
              try simp only [Act.put, List.setIfInBounds_toArray, List.set_cons_zero, List.set_cons_succ]
              refine wpAny_ready (rs := [13]) (by kernel_rfl) (by simp) (Go.BigFrame.allReady_want rfl (by kernel_rfl) (fun K hK => ?_) AllReady.nil)
              refine wp_store_mid 101 (.tmp 6) (.tmp 25) (by rfl) wd.heap.size 0 #[.int .i64 tid, .string nm, .func (.func kf) #[] cf] (by kernel_rfl) (by kernel_rfl) TZ.out (by kernel_rfl) (by simp [Value.oneCell']) ?_
              refine hK _ _ ?_
              clear hK K
              try simp only [Act.put, List.setIfInBounds_toArray, List.set_cons_zero, List.set_cons_succ]
              refine wpAny_done (by kernel_rfl) ?_ _
              go_wp2_with fail
              go_meet
              exact ⟨wd.heap.size, rfl, Lib.hid (FB _ rfl)⟩
          · skip
            go_simp
            refine hK _ _ ?_
            clear hK K
            try simp only [Act.put, List.setIfInBounds_toArray, List.set_cons_zero, List.set_cons_succ]
            refine wpAny_ready (rs := [3, 7]) (by kernel_rfl) (by simp) (AllReady.cons rfl (fun K hK => ?_) (AllReady.cons rfl (fun K hK => ?_) AllReady.nil))
            · skip
              go_simp
              refine hK _ _ ?_
              clear hK K
              try simp only [Act.put, List.setIfInBounds_toArray, List.set_cons_zero, List.set_cons_succ]
              refine wpAny_ready (rs := [7]) (by kernel_rfl) (by simp) (AllReady.cons rfl (fun K hK => ?_) AllReady.nil)
              go_simp
              refine hK _ _ ?_
              clear hK K
              try simp only [Act.put, List.setIfInBounds_toArray, List.set_cons_zero, List.set_cons_succ]
              refine wpAny_take (i := 8) (v := ?_) rfl (by kernel_rfl) (by kernel_rfl) (by kernel_rfl) (fun _ _ _ h => h) (Or.inl ⟨by kernel_rfl, ?_⟩) ?_
              rotate_left
              · intro w
                go_simp
                try with_reducible rfl
              simp only [Act.put, List.getElem_toArray, List.getElem_cons_zero, List.getElem_cons_succ, List.setIfInBounds_toArray, List.set_cons_zero, List.set_cons_succ]
              refine wpAny_take (i := 9) (v := ?_) rfl (by kernel_rfl) (by kernel_rfl) (by kernel_rfl) (fun _ _ _ h => h) (Or.inl ⟨by kernel_rfl, ?_⟩) ?_
              rotate_left
              · intro w
                go_simp
                try with_reducible rfl
              simp only [Act.put, List.getElem_toArray, List.getElem_cons_zero, List.getElem_cons_succ, List.setIfInBounds_toArray, List.set_cons_zero, List.set_cons_succ]
              refine wpAny_take (i := 10) (v := ?_) rfl (by kernel_rfl) (by kernel_rfl) (by kernel_rfl) (fun _ _ _ h => h) (Or.inl ⟨by kernel_rfl, ?_⟩) ?_
              rotate_left
              · intro w
                go_simp
                try with_reducible rfl
              simp only [Act.put, List.getElem_toArray, List.getElem_cons_zero, List.getElem_cons_succ, List.setIfInBounds_toArray, List.set_cons_zero, List.set_cons_succ]
              refine wpAny_ready (rs := [11]) (by kernel_rfl) (by simp) (AllReady.cons rfl (fun K hK => ?_) AllReady.nil)
              go_simp
              refine hK _ _ ?_
              clear hK K
              try simp only [Act.put, List.setIfInBounds_toArray, List.set_cons_zero, List.set_cons_succ]
              refine wpAny_ready (rs := [13]) (by kernel_rfl) (by simp) (Go.BigFrame.allReady_want rfl (by kernel_rfl) (fun K hK => ?_) AllReady.nil)
              refine wp_store_mid 101 (.tmp 6) (.tmp 25) (by rfl) wd.heap.size 0 #[.int .i64 tid, .string nm, .func (.func kf) #[] cf] (by kernel_rfl) (by kernel_rfl) TZ.out (by kernel_rfl) (by simp [Value.oneCell']) ?_
              refine hK _ _ ?_
              clear hK K
              try simp only [Act.put, List.setIfInBounds_toArray, List.set_cons_zero, List.set_cons_succ]
              refine wpAny_done (by kernel_rfl) ?_ _
              go_wp2_with fail
              go_meet
              exact ⟨wd.heap.size, rfl, Lib.hid (FB _ rfl)⟩
            · skip
              go_simp
              refine hK _ _ ?_
              clear hK K
              try simp only [Act.put, List.setIfInBounds_toArray, List.set_cons_zero, List.set_cons_succ]
              refine wpAny_take (i := 8) (v := ?_) rfl (by kernel_rfl) (by kernel_rfl) (by kernel_rfl) (fun _ _ _ h => h) (Or.inl ⟨by kernel_rfl, ?_⟩) ?_
              rotate_left
              · intro w
                go_simp
                try with_reducible rfl
              simp only [Act.put, List.getElem_toArray, List.getElem_cons_zero, List.getElem_cons_succ, List.setIfInBounds_toArray, List.set_cons_zero, List.set_cons_succ]
              refine wpAny_take (i := 9) (v := ?_) rfl (by kernel_rfl) (by kernel_rfl) (by kernel_rfl) (fun _ _ _ h => h) (Or.inl ⟨by kernel_rfl, ?_⟩) ?_
              rotate_left
              · intro w
                go_simp
                try with_reducible rfl
              simp only [Act.put, List.getElem_toArray, List.getElem_cons_zero, List.getElem_cons_succ, List.setIfInBounds_toArray, List.set_cons_zero, List.set_cons_succ]
              refine wpAny_ready (rs := [3]) (by kernel_rfl) (by simp) (AllReady.cons rfl (fun K hK => ?_) AllReady.nil)
              go_simp
              refine hK _ _ ?_
              clear hK K
              try simp only [Act.put, List.setIfInBounds_toArray, List.set_cons_zero, List.set_cons_succ]
              refine wpAny_take (i := 10) (v := ?_) rfl (by kernel_rfl) (by kernel_rfl) (by kernel_rfl) (fun _ _ _ h => h) (Or.inl ⟨by kernel_rfl, ?_⟩) ?_
              rotate_left
              · intro w
                go_simp
                try with_reducible rfl
              simp only [Act.put, List.getElem_toArray, List.getElem_cons_zero, List.getElem_cons_succ, List.setIfInBounds_toArray, List.set_cons_zero, List.set_cons_succ]
              refine wpAny_ready (rs := [11]) (by kernel_rfl) (by simp) (AllReady.cons rfl (fun K hK => ?_) AllReady.nil)
              go_simp
              refine hK _ _ ?_
              clear hK K
              try simp only [Act.put, List.setIfInBounds_toArray, List.set_cons_zero, List.set_cons_succ]
              refine wpAny_ready (rs := [13]) (by kernel_rfl) (by simp) (Go.BigFrame.allReady_want rfl (by kernel_rfl) (fun K hK => ?_) AllReady.nil)
              refine wp_store_mid 101 (.tmp 6) (.tmp 25) (by rfl) wd.heap.size 0 #[.int .i64 tid, .string nm, .func (.func kf) #[] cf] (by kernel_rfl) (by kernel_rfl) TZ.out (by kernel_rfl) (by simp [Value.oneCell']) ?_
              refine hK _ _ ?_
              clear hK K
              try simp only [Act.put, List.setIfInBounds_toArray, List.set_cons_zero, List.set_cons_succ]
              refine wpAny_done (by kernel_rfl) ?_ _
              go_wp2_with fail
              go_meet
              exact ⟨wd.heap.size, rfl, Lib.hid (FB _ rfl)⟩
        case rest =>
          obtain ⟨p6, rfl, hcut⟩ := hcut
          have BW := Lib.hid hcut.out.1
          have BX := Lib.hid hcut.out.2.1
          have BP := Lib.hid hcut.out.2.2

          have B3 := Lib.hid (BQ.out.below BW.out)
          clear hcut c0 g0 g1 g2 hmi2
          have c0 : wc.cell? ⟨b, 0, none⟩ = some (.slice (some ⟨g, 0, none⟩) (m + 1) c) := (BW.out.cell (p := ⟨b, 0, none⟩) (World.block_lt_of_cell? wr _ C0.out)).trans C0.out
          have hmi3 : (0 : Int) ≤ (m : Int) ∧ (m : Int) ≤ (c : Int) := by omega
          have hmi4 : m ≤ c := by omega
          have f0 := B3.out.frozen 0
          have POP : Hid (∀ W, Below wc.heap.size wc W → BagAt (W.setCell ⟨b, 0, none⟩ (.slice (some ⟨g, 0, none⟩) m c)) B b R last false closed ∧ Rel B (SOne b) W (W.setCell ⟨b, 0, none⟩ (.slice (some ⟨g, 0, none⟩) m c))) := Lib.hid (fun W hb => by
            have h1 := B3.out.below hb
            have h2 : W.cell? ⟨b, 0, none⟩ = some (.slice (some ⟨g, 0, none⟩) (R.length + 1) c) := by
              rw [HMR.out]
              exact (hb.cell (p := ⟨b, 0, none⟩) (World.block_lt_of_cell? wc _ ((BW.out.cell (p := ⟨b, 0, none⟩) (World.block_lt_of_cell? wr _ C0.out)).trans C0.out))).trans ((BW.out.cell (p := ⟨b, 0, none⟩) (World.block_lt_of_cell? wr _ C0.out)).trans C0.out)
            have h3 := h1.pop h2
            rw [HMR.out] at h3
            exact ⟨h3, h1.relSet 0 _ _ (fun C z => ⟨rfl, C, z, rfl⟩) (Nat.le_refl _)⟩)
          go_upto_region 4 with fail
          go_cut [] (fun wx => Hid (BagAt wx B b R last false closed ∧ Rel B (SOne b) wr wx ∧ wx.heap[p6]? = some (.cells #[.int .i64 tid, .string nm, .func (.func kf) #[] cf] 101 (0, 0))))
          case first => as_aux_lemma => --ok
            refine wp_region_any (by kernel_rfl) ?_
            obtain ⟨wd, hwd⟩ : ∃ x, x = wc.drew := ⟨_, rfl⟩
            change wpAny _ _ _ _ _ _ _ wc.drew
            rw [← hwd]
            have bd : Below wc.heap.size wc wd := by rw [hwd]; exact (Below.refl _ _).drew
            have d0 : wd.cell? ⟨b, 0, none⟩ = some (.slice (some ⟨g, 0, none⟩) (m + 1) c) := by rw [hwd]; exact c0
            have df : wd.frozen? ⟨b, 0, none⟩ = false := by rw [hwd]; exact f0
            have FB : Hid (BagAt (wd.setCell ⟨b, 0, none⟩ (.slice (some ⟨g, 0, none⟩) m c)) B b R last false closed ∧ Rel B (SOne b) wr (wd.setCell ⟨b, 0, none⟩ (.slice (some ⟨g, 0, none⟩) m c)) ∧ (wd.setCell ⟨b, 0, none⟩ (.slice (some ⟨g, 0, none⟩) m c)).heap[p6]? = some (.cells #[.int .i64 tid, .string nm, .func (.func kf) #[] cf] 101 (0, 0))) := Lib.hid (by
              obtain ⟨z1, z2⟩ := POP.out wd bd
              refine ⟨z1, ((Rel.below BW.out).trans (Rel.below bd)).trans z2, ?_⟩
              have hb := BQ.out.lt
              have hp := BP.out
              rw [Below.heap_setCell _ _ _ _ (by simp; omega)]
              exact (bd.block p6 (Array.getElem?_eq_some_iff.1 BX.out).1).trans BX.out)
            clear hwd bd c0 f0

            refine wpAny_take (i := 0) (v := ?_) rfl (by kernel_rfl) (by kernel_rfl) (by kernel_rfl) (fun _ _ _ h => h) (Or.inl ⟨by kernel_rfl, ?_⟩) ?_
            rotate_left
            · intro w
              go_simp
              try with_reducible rfl
            simp only [Act.put, List.getElem_toArray, List.getElem_cons_zero, List.getElem_cons_succ, List.setIfInBounds_toArray, List.set_cons_zero, List.set_cons_succ]
            refine wpAny_take (i := 1) (v := ?_) rfl (by kernel_rfl) (by kernel_rfl) (by kernel_rfl) (fun _ _ _ h => h) (Or.inl ⟨by kernel_rfl, ?_⟩) ?_
            rotate_left
            · intro w
              go_simp
              try with_reducible rfl
            simp only [Act.put, List.getElem_toArray, List.getElem_cons_zero, List.getElem_cons_succ, List.setIfInBounds_toArray, List.set_cons_zero, List.set_cons_succ]
            refine wpAny_take (i := 2) (v := ?_) rfl (by kernel_rfl) (by kernel_rfl) (by kernel_rfl) (fun _ _ _ h => h) (Or.inl ⟨by kernel_rfl, ?_⟩) ?_
            rotate_left
            · intro w
              go_simp
              try with_reducible rfl
            simp only [Act.put, List.getElem_toArray, List.getElem_cons_zero, List.getElem_cons_succ, List.setIfInBounds_toArray, List.set_cons_zero, List.set_cons_succ]
            refine wpAny_take (i := 3) (v := ?_) rfl (by kernel_rfl) (by kernel_rfl) (by kernel_rfl) (fun _ _ _ h => h) (Or.inl ⟨by kernel_rfl, ?_⟩) ?_
            rotate_left
            · intro w
              go_simp
              try with_reducible rfl
            simp only [Act.put, List.getElem_toArray, List.getElem_cons_zero, List.getElem_cons_succ, List.setIfInBounds_toArray, List.set_cons_zero, List.set_cons_succ]
            refine wpAny_take (i := 5) (v := ?_) rfl (by kernel_rfl) (by kernel_rfl) (by kernel_rfl) (fun _ _ _ h => h) (Or.inl ⟨by kernel_rfl, ?_⟩) ?_
            rotate_left
            · intro w
              go_simp
              try with_reducible rfl
            simp only [Act.put, List.getElem_toArray, List.getElem_cons_zero, List.getElem_cons_succ, List.setIfInBounds_toArray, List.set_cons_zero, List.set_cons_succ]
            refine wpAny_take (i := 6) (v := ?_) rfl (by kernel_rfl) (by kernel_rfl) (by kernel_rfl) (fun _ _ _ h => h) (Or.inl ⟨by kernel_rfl, ?_⟩) ?_
            rotate_left
            · intro w
              go_simp
              try with_reducible rfl
            simp only [Act.put, List.getElem_toArray, List.getElem_cons_zero, List.getElem_cons_succ, List.setIfInBounds_toArray, List.set_cons_zero, List.set_cons_succ]
            refine wpAny_take (i := 7) (v := ?_) rfl (by kernel_rfl) (by kernel_rfl) (by kernel_rfl) (fun _ _ _ h => h) (Or.inl ⟨by kernel_rfl, ?_⟩) ?_
            rotate_left
            · intro w
              go_simp
              try with_reducible rfl
            simp only [Act.put, List.getElem_toArray, List.getElem_cons_zero, List.getElem_cons_succ, List.setIfInBounds_toArray, List.set_cons_zero, List.set_cons_succ]
            refine wpAny_ready (rs := [4, 8]) (by kernel_rfl) (by simp) (AllReady.cons rfl (fun K hK => ?_) (AllReady.cons rfl (fun K hK => ?_) AllReady.nil))
            · skip
              go_simp
              refine hK _ _ ?_
              clear hK K
              try simp only [Act.put, List.setIfInBounds_toArray, List.set_cons_zero, List.set_cons_succ]
              refine wpAny_ready (rs := [8]) (by kernel_rfl) (by simp) (AllReady.cons rfl (fun K hK => ?_) AllReady.nil)
              go_simp
              refine hK _ _ ?_
              clear hK K
              try simp only [Act.put, List.setIfInBounds_toArray, List.set_cons_zero, List.set_cons_succ]
              refine wpAny_take (i := 9) (v := ?_) rfl (by kernel_rfl) (by kernel_rfl) (by kernel_rfl) (fun _ _ _ h => h) (Or.inl ⟨by kernel_rfl, ?_⟩) ?_
              rotate_left
              · intro w
                go_simp
                try with_reducible rfl
              simp only [Act.put, List.getElem_toArray, List.getElem_cons_zero, List.getElem_cons_succ, List.setIfInBounds_toArray, List.set_cons_zero, List.set_cons_succ]
              refine wpAny_take (i := 10) (v := ?_) rfl (by kernel_rfl) (by kernel_rfl) (by kernel_rfl) (fun _ _ _ h => h) (Or.inl ⟨by kernel_rfl, ?_⟩) ?_
              rotate_left
              · intro w
                go_simp
                try with_reducible rfl
              simp only [Act.put, List.getElem_toArray, List.getElem_cons_zero, List.getElem_cons_succ, List.setIfInBounds_toArray, List.set_cons_zero, List.set_cons_succ]
              refine wpAny_take (i := 11) (v := ?_) rfl (by kernel_rfl) (by kernel_rfl) (by kernel_rfl) (fun _ _ _ h => h) (Or.inl ⟨by kernel_rfl, ?_⟩) ?_
              rotate_left
              · intro w
                go_simp
                try with_reducible rfl
              simp only [Act.put, List.getElem_toArray, List.getElem_cons_zero, List.getElem_cons_succ, List.setIfInBounds_toArray, List.set_cons_zero, List.set_cons_succ]
              refine wpAny_take (i := 12) (v := ?_) rfl (by kernel_rfl) (by kernel_rfl) (by kernel_rfl) (fun _ _ _ h => h) (Or.inl ⟨by kernel_rfl, ?_⟩) ?_
              rotate_left
              · intro w
                go_simp
                try with_reducible rfl
              simp only [Act.put, List.getElem_toArray, List.getElem_cons_zero, List.getElem_cons_succ, List.setIfInBounds_toArray, List.set_cons_zero, List.set_cons_succ]
              refine wpAny_take (i := 13) (v := ?_) rfl (by kernel_rfl) (by kernel_rfl) (by kernel_rfl) (fun _ _ _ h => h) (Or.inl ⟨by kernel_rfl, ?_⟩) ?_
              rotate_left
              · intro w
                go_simp
                try with_reducible rfl
              simp only [Act.put, List.getElem_toArray, List.getElem_cons_zero, List.getElem_cons_succ, List.setIfInBounds_toArray, List.set_cons_zero, List.set_cons_succ]
              refine wpAny_ready (rs := [14]) (by kernel_rfl) (by simp) (AllReady.cons rfl (fun K hK => ?_) AllReady.nil)
              go_simp
              refine hK _ _ ?_
              clear hK K
              try simp only [Act.put, List.setIfInBounds_toArray, List.set_cons_zero, List.set_cons_succ]
              refine wpAny_done (by kernel_rfl) ?_ _
              go_wp2_with fail
              go_meet
              exact FB
            · skip
              go_simp
              refine hK _ _ ?_
              clear hK K
              try simp only [Act.put, List.setIfInBounds_toArray, List.set_cons_zero, List.set_cons_succ]
              refine wpAny_take (i := 9) (v := ?_) rfl (by kernel_rfl) (by kernel_rfl) (by kernel_rfl) (fun _ _ _ h => h) (Or.inl ⟨by kernel_rfl, ?_⟩) ?_
              rotate_left
              · intro w
                go_simp
                try with_reducible rfl
              simp only [Act.put, List.getElem_toArray, List.getElem_cons_zero, List.getElem_cons_succ, List.setIfInBounds_toArray, List.set_cons_zero, List.set_cons_succ]
              refine wpAny_take (i := 10) (v := ?_) rfl (by kernel_rfl) (by kernel_rfl) (by kernel_rfl) (fun _ _ _ h => h) (Or.inl ⟨by kernel_rfl, ?_⟩) ?_
              rotate_left
              · intro w
                go_simp
                try with_reducible rfl
              simp only [Act.put, List.getElem_toArray, List.getElem_cons_zero, List.getElem_cons_succ, List.setIfInBounds_toArray, List.set_cons_zero, List.set_cons_succ]
              refine wpAny_ready (rs := [4]) (by kernel_rfl) (by simp) (AllReady.cons rfl (fun K hK => ?_) AllReady.nil)
              go_simp
              refine hK _ _ ?_
              clear hK K
              try simp only [Act.put, List.setIfInBounds_toArray, List.set_cons_zero, List.set_cons_succ]
              refine wpAny_take (i := 11) (v := ?_) rfl (by kernel_rfl) (by kernel_rfl) (by kernel_rfl) (fun _ _ _ h => h) (Or.inl ⟨by kernel_rfl, ?_⟩) ?_
              rotate_left
              · intro w
                go_simp
                try with_reducible rfl
              simp only [Act.put, List.getElem_toArray, List.getElem_cons_zero, List.getElem_cons_succ, List.setIfInBounds_toArray, List.set_cons_zero, List.set_cons_succ]
              refine wpAny_take (i := 12) (v := ?_) rfl (by kernel_rfl) (by kernel_rfl) (by kernel_rfl) (fun _ _ _ h => h) (Or.inl ⟨by kernel_rfl, ?_⟩) ?_
              rotate_left
              · intro w
                go_simp
                try with_reducible rfl
              simp only [Act.put, List.getElem_toArray, List.getElem_cons_zero, List.getElem_cons_succ, List.setIfInBounds_toArray, List.set_cons_zero, List.set_cons_succ]
              refine wpAny_take (i := 13) (v := ?_) rfl (by kernel_rfl) (by kernel_rfl) (by kernel_rfl) (fun _ _ _ h => h) (Or.inl ⟨by kernel_rfl, ?_⟩) ?_
              rotate_left
              · intro w
                go_simp
                try with_reducible rfl
              simp only [Act.put, List.getElem_toArray, List.getElem_cons_zero, List.getElem_cons_succ, List.setIfInBounds_toArray, List.set_cons_zero, List.set_cons_succ]
              refine wpAny_ready (rs := [14]) (by kernel_rfl) (by simp) (AllReady.cons rfl (fun K hK => ?_) AllReady.nil)
              go_simp
              refine hK _ _ ?_
              clear hK K
              try simp only [Act.put, List.setIfInBounds_toArray, List.set_cons_zero, List.set_cons_succ]
              refine wpAny_done (by kernel_rfl) ?_ _
              go_wp2_with fail
              go_meet
              exact FB
          case rest =>
            obtain ⟨w4, rfl⟩ : ∃ x : World, x = wc := ⟨_, rfl⟩
            have Q1 := Lib.hid hcut.out.1
            have Q2 := Lib.hid hcut.out.2.1
            have Q3 := Lib.hid hcut.out.2.2
            clear hcut c0 f0 B3 POP BW BX hmi3 hmi4
            have q0 := (cell_of_row _ p6 0 _ _ _ Q3.out).trans (show (#[.int .i64 tid, .string nm, .func (.func kf) #[] cf] : Array Value)[0]? = some (.int .i64 tid) from rfl)
            have q1 := (cell_of_row _ p6 1 _ _ _ Q3.out).trans (show (#[.int .i64 tid, .string nm, .func (.func kf) #[] cf] : Array Value)[1]? = some (.string nm) from rfl)
            have q2 := (cell_of_row _ p6 2 _ _ _ Q3.out).trans (show (#[.int .i64 tid, .string nm, .func (.func kf) #[] cf] : Array Value)[2]? = some (.func (.func kf) #[] cf) from rfl)

            have fnn := fn_some'
            have IS := Lib.hid (HII.out _ _ _ HQ.out.2.2.2.1 (Q2.out.mono (fun k o h => Or.inl (Or.inl h)) (Nat.le_refl _)))
            have hB4 : B ≤ w4.heap.size := Nat.le_trans HB.out (Nat.le_trans HQ.out.2.2.2.2.2.2.2.size Q2.out.size)
            have O4 := Lib.hid (own_rel HQ.out.2.2.2.2.2.2.1 Q2.out (fun k C _ _ h => by
              obtain ⟨_, C', z', h⟩ := h
              cases h))
            have R4 := Lib.hid (HQ.out.2.2.2.2.2.2.2.trans (Q2.out.mono (S' := SX b w.heap.size S) (fun k o h => Or.inl (Or.inl h)) (Nat.le_refl _)))
            have RCB : Hid (o1.length < 256) := Lib.hid (by have z2 := HQ.out.2.1.1; simp only [List.length_cons] at z2; have := HL.out; omega)
            have CC := Lib.hid (call_any Q1.out hB4 tid nm kf cf (HEE.out _ HT.out kf cf rfl) S (fun w1 bh w2 => bh = bhF s1 ⟨tid, nm, some (kf, cf)⟩ R ∧ I (next s1 ⟨tid, nm, some (kf, cf)⟩ R) w2) HSS.out (fun w1 hb hr => (HUU.out _ HT.out kf cf rfl s1 R w1 ⟨RLN.out, o1.length, RCB.out, HQ.out.2.1.2⟩ (HII.out _ _ _ IS.out (hr.mono (fun k o h => by
              rcases h with h | h
              · exact Or.inl (Or.inl h)
              · exact Or.inr (Or.inl ⟨Nat.zero_le _, h.2⟩)) (Nat.le_refl _))) hb (Nat.le_trans hB4 hr.size)).mono (fun e w2 h => ⟨_, h.1, h.2.1, rfl, h.2.2⟩)))
            have hB4' := Lib.hid hB4
            clear hB4
            go_wp2_with fail
            refine CC.out.mono ?_
            rintro er w5 ⟨bh, w1, w2, rfl, hb1, hr1, hr2, ⟨hbh, hI⟩, hr3, hb3⟩
            have HBH := Lib.hid hbh
            have B5 := Lib.hid hb3
            have I5 := Lib.hid (HII.out _ _ _ hI (hr3.mono (fun k o h => by
              rcases h with h | h
              · exact Or.inl (Or.inl h)
              · exact Or.inr (Or.inl ⟨Nat.zero_le _, h.2⟩)) (Nat.le_refl _)))
            have O5 := Lib.hid (own_rel (own_rel (own_rel O4.out hr1 (fun k C _ hk h => by
              rcases h with ⟨_, C', z', h⟩ | ⟨h, _⟩
              · cases h
              · have := (O4.out.lt k hk).2
                omega)) hr2 (fun k C _ _ => (HSS.out k C (0, 0)).2.2.1)) hr3 (fun k C _ hk h => by
              rcases h with ⟨_, C', z', h⟩ | ⟨h, _⟩
              · cases h
              · have := (O4.out.lt k hk).2
                omega))
            have hN4 : w.heap.size ≤ w4.heap.size := Nat.le_trans HQ.out.2.2.2.2.2.2.2.size Q2.out.size
            have R5 : Hid (Rel B (SX b w.heap.size S) w w5) := Lib.hid (((R4.out.trans (hr1.mono (fun k o h => by
              rcases h with h | h
              · exact Or.inl (Or.inl h)
              · exact Or.inr (Or.inl ⟨Nat.le_trans hN4 h.1, h.2⟩)) (Nat.le_refl _))).trans (hr2.mono (fun k o h => Or.inr (Or.inr h)) (Nat.le_refl _))).trans (hr3.mono (fun k o h => by
              rcases h with h | h
              · exact Or.inl (Or.inl h)
              · exact Or.inr (Or.inl ⟨Nat.le_trans hN4 h.1, h.2⟩)) (Nat.le_refl _)))
            clear hN4
            clear hbh hb1 hr1 hr2 hI hr3 hb3 CC q0 q1 q2 fnn Q1 Q2 Q3 R4 IS O4
            simp only [rcells]
            have ho1 : o1.length + 1 ≤ 256 := by
              have h1 := HQ.out.2.1.1
              have h2 := HL.out
              simp only [List.length_cons] at h1
              omega
            go_wp2_with (refine wpList_append_lies _ (by rfl) (.tmp 43) (.tmp 47) 40 (by rfl) w.heap.size 83 ir _ 5 56 Try.underlying40 hir hz0 hz1 hz2 rfl (by omega) (.slice a5 o1.length c5) o1.length (rl o1) (by rfl) (O5.out.alloc _) ⟨w5.heap.size, 0, none⟩ 1 1 [.int .i64 tid, .string nm, .int .i64 bh.code, .bool bh.pan, .string bh.word] (by rfl) (by rfl) (World.news_of_block (cs := #[.int .i64 tid, .string nm, .int .i64 bh.code, .bool bh.pan, .string bh.word]) (t := 83) (fr := (0, 0)) (heap_alloc_new w5 _)) (by simp [Value.oneCell']) (by omega) (by unfold maxLen; omega) (by omega) (by have := R5.out.size; simp; omega) (w5.heap.size + 1) (by simp) ?_)
            intro g6 cap6 w6 hown hgrow hat hlt
            have RG : Hid (Rel B (fun k o => w.heap.size ≤ k ∧ ∃ C z, o = .cells C 83 z) w5 w6) := Lib.hid ((Rel.alloc w5 _).trans (Rel.row' (O5.out.alloc _) HB.out hgrow (fun k C z hk => ⟨hk, C, z, rfl⟩)))
            have O6 := Lib.hid hown
            clear hown hgrow hat hlt
            go_wp2_with fail
            go_roundg rest.length
            case measure => rw [HR.out]; simp
            case rel =>
              obtain ⟨z1, z2, z3, z4, z5, z6, z7, z8⟩ := HQ.out
              refine ⟨rest, next s1 ⟨tid, nm, some (kf, cf)⟩ R, o1 ++ [⟨tid, nm, bh⟩], rfl, Lib.hid ⟨fun t ht => z1 t (List.mem_cons_of_mem _ ht), ⟨by have z2 := z2.1; simp only [List.length_cons] at z2; simp only [List.length_append, List.length_singleton]; omega, by rw [List.length_append]; exact .succ z2.2⟩, ?_, HII.out _ _ _ I5.out (RG.out.mono (fun k o h => Or.inr (Or.inl ⟨Nat.zero_le _, h.2⟩)) (Nat.le_refl _)), ?_, ?_, ?_, R5.out.trans (RG.out.mono (fun k o h => Or.inr (Or.inl h)) (Nat.le_refl _))⟩⟩
              · rw [← HRR.out]
                exact B5.out.rel RG.out (fun C z h => by obtain ⟨_, C', z', h⟩ := h; cases h) (fun q C z h => by obtain ⟨_, C', z', h⟩ := h; cases h)
              · rw [z5, HRR.out]; simp only [runB]
              · rw [z6, HBH.out, HRR.out]; simp only [runB, List.append_assoc, List.singleton_append]
              · rw [rl_append, List.length_append]
                simpa [rl, rcells] using O6.out

end Go.Proofs.Ytnkababhgloclaa
