/- ProbeBags: the things' function: it notes itself and what it finds, calls the bag, and ends as its step says. (Printed by tools/genplay.py.) -/
import Derived.Test.YtnkababhgloclaaStD
import Derived.Test.YtnkababhgloclaaPlayB
import Derived.Test.YtnkababhgloclaaUndoC
import Derived.Deep.MidRow
import Derived.Deep.RegionHeld3
import Derived.Deep.DeepCutAuto
import Derived.Deep.CutBlock
namespace Go.Proofs.Ytnkababhgloclaa
open Go.RowKit Go.ChangeShapes
def behS (t : St) : Beh := if t.pan = 0 then .ret t.code else if t.pan = 1 then .str t.word else .num t.pan
def ic (l : List Int) : List Value := l.map (.int .i64 ·)
theorem ic_len (l : List Int) : (ic l).length = l.length := by simp [ic]
theorem ic_snoc (l : List Int) (x : Int) : ic (l ++ [x]) = ic l ++ [.int .i64 x] := by simp [ic]
theorem ic_at {l : List Int} {j : Nat} (h : j < l.length) : (ic l)[j]? = some (.int .i64 l[j]) := by simp [ic, h]
theorem infoI : (Try.prog.info? 3).map (fun i => (i.zero, i.size, i.bytes)) = some (some (.int .i64 0), 1, 8) := by kernel_rfl
theorem roomI {n : Nat} (h : n ≤ 60000) : n + 1 ≤ maxLen ∧ (n + 1) * 8 ≤ 140737488355328 := by unfold maxLen; omega
theorem sz_alloc (w : World) (o : Obj) : (w.alloc o).heap.size = w.heap.size + 1 := by simp
theorem ones (x : Int) : ∀ u ∈ [Value.int .i64 x], u.oneCell' = true := by simp [Value.oneCell']
/-- What the things' function writes: the play's block; rows of numbers made since the step began. -/
def SP (q N0 : Nat) (k : Nat) (o : Obj) : Prop := (k = q ∧ ∃ C z, o = .cells C 32 z) ∨ (N0 ≤ k ∧ ∃ C z, o = .cells C 3 z)
theorem SP_not {q N0 t : Nat} (h1 : t ≠ 32) (h2 : t ≠ 3) (k : Nat) (C : Array Value) (z : Nat × Nat) : ¬ SP q N0 k (.cells C t z) := fun h => by
  rcases h with ⟨_, C', z', e⟩ | ⟨_, C', z', e⟩
  · injection e with _ e2 _
    exact h1 e2
  · injection e with _ e2 _
    exact h2 e2
/-- A play under way: those called, what each found. -/
def PlayI (w : World) (q b m N0 : Nat) (calls found : List Int) : Prop :=
  ∃ vc vf, w.heap[q]? = some (.cells #[.pointer (some ⟨b, 0, none⟩), .pointer (some ⟨m, 0, none⟩), vc, vf, .bool false] 32 (0, 0)) ∧ w.ownsRow N0 3 1 vc calls.length (ic calls) ∧ w.ownsRow N0 3 1 vf found.length (ic found) ∧ ∀ g, vc.ownBlock = some g → vf.ownBlock ≠ some g
theorem type_ne {w : World} {p g t t' : Nat} {C C' : Array Value} {z z' : Nat × Nat} (h : w.heap[p]? = some (.cells C t z)) (h' : w.heap[g]? = some (.cells C' t' z')) (ht : t ≠ t') : p ≠ g := fun e => by
  subst e
  rw [h] at h'
  injection h' with h'
  injection h' with _ h2 _
  exact ht h2
theorem ownP_ne {w : World} {p t B n : Nat} {C : Array Value} {z : Nat × Nat} {v : Value} {xs : List Value} (h : w.heap[p]? = some (.cells C t z)) (ho : w.ownsRow B 3 1 v n xs) (ht : t ≠ 3) : some p ≠ v.ownBlock := fun e => by
  obtain ⟨C', hC'⟩ := own_type ho e.symm
  exact type_ne h hC' ht rfl
theorem own_setP {w : World} {B e z n g t p : Nat} {v : Value} {xs : List Value} {C : Array Value} (h : w.ownsRow B e z v n xs) (he : e ≠ t) (hm : w.heap[g]? = some (.cells C t (0, 0))) (u : Value) : (w.setCell ⟨g, p, none⟩ u).ownsRow B e z v n xs := by
  refine ownsRow_setCell_other h (a := ⟨g, p, none⟩) (fun hb => ?_) u
  obtain ⟨C', hC'⟩ := own_type h hb
  exact type_ne hC' hm he rfl
section
variable {w w' : World} {q b m N0 : Nat} {calls found : List Int}
theorem PlayI.rel {B : Nat} {S : Nat → Obj → Prop} (h : PlayI w q b m N0 calls found) (hr : Rel B S w w') (h1 : ∀ C z, ¬ S q (.cells C 32 z)) (h2 : ∀ k C z, N0 ≤ k → ¬ S k (.cells C 3 z)) : PlayI w' q b m N0 calls found := by
  obtain ⟨vc, vf, hb, hc, hf, hn⟩ := h
  exact ⟨vc, vf, hr.block hb (fun _ => h1 _ _), own_rel hc hr (fun k C _ hk => h2 _ _ _ (hc.lt k hk).1), own_rel hf hr (fun k C _ hk => h2 _ _ _ (hf.lt k hk).1), hn⟩
theorem PlayI.below (h : PlayI w q b m N0 calls found) (hb : Below w.heap.size w w') : PlayI w' q b m N0 calls found :=
  h.rel (B := 0) (S := fun _ _ => False) (Rel.below hb) (fun _ _ e => e) (fun _ _ _ _ e => e)
theorem PlayI.lt (h : PlayI w q b m N0 calls found) : q < w.heap.size := by
  obtain ⟨_, _, hb, _⟩ := h
  exact (Array.getElem?_eq_some_iff.1 hb).1
theorem PlayI.cells (h : PlayI w q b m N0 calls found) : ∃ ac cc af cf, w.cell? ⟨q, 0, none⟩ = some (.pointer (some ⟨b, 0, none⟩)) ∧ w.cell? ⟨q, 1, none⟩ = some (.pointer (some ⟨m, 0, none⟩)) ∧ w.cell? ⟨q, 2, none⟩ = some (.slice ac calls.length cc) ∧ w.cell? ⟨q, 3, none⟩ = some (.slice af found.length cf) ∧ w.cell? ⟨q, 4, none⟩ = some (.bool false) ∧ w.ownsRow N0 3 1 (.slice ac calls.length cc) calls.length (ic calls) ∧ w.ownsRow N0 3 1 (.slice af found.length cf) found.length (ic found) := by
  obtain ⟨vc, vf, hb, hc, hf, _⟩ := h
  obtain ⟨ac, cc, rfl⟩ := own_slice hc
  obtain ⟨af, cf, rfl⟩ := own_slice hf
  exact ⟨ac, cc, af, cf, (cell_of_row w q 0 _ _ _ hb).trans rfl, (cell_of_row w q 1 _ _ _ hb).trans rfl, (cell_of_row w q 2 _ _ _ hb).trans rfl, (cell_of_row w q 3 _ _ _ hb).trans rfl, (cell_of_row w q 4 _ _ _ hb).trans rfl, hc, hf⟩
theorem PlayI.frozen (h : PlayI w q b m N0 calls found) (j : Nat) : w.frozen? ⟨q, j, none⟩ = false := by
  obtain ⟨vc, vf, hb, _⟩ := h
  exact frozen_of_row _ _ _ _ _ hb
theorem PlayI.good {B : Nat} (h : PlayI w q b m N0 calls found) (hB : B ≤ q) : PlayI (w.setCell ⟨q, 4, none⟩ (.bool false)) q b m N0 calls found ∧ Rel B (SP q N0) w (w.setCell ⟨q, 4, none⟩ (.bool false)) := by
  obtain ⟨vc, vf, hb, hc, hf, hn⟩ := h
  exact ⟨⟨vc, vf, heap_setCell_same w q 4 _ _ _ hb, own_setP hc (by decide) hb _, own_setP hf (by decide) hb _, hn⟩, Rel.set (a := ⟨q, 4, none⟩) hB hb (.inl ⟨rfl, _, _, rfl⟩) _⟩
/-- The lists are emptied: a step begins. -/
theorem PlayI.fresh {B N1 : Nat} (h : PlayI w q b m N0 calls found) (hB : B ≤ q) (S : Nat → Obj → Prop) (hS : ∀ C, S q (.cells C 32 (0, 0))) : PlayI ((w.setCell ⟨q, 2, none⟩ (.slice none 0 0)).setCell ⟨q, 3, none⟩ (.slice none 0 0)) q b m N1 [] [] ∧ Rel B S w ((w.setCell ⟨q, 2, none⟩ (.slice none 0 0)).setCell ⟨q, 3, none⟩ (.slice none 0 0)) := by
  obtain ⟨vc, vf, hb, hc, hf, hn⟩ := h
  have h1 := heap_setCell_same w q 2 _ _ (.slice none 0 0) hb
  exact ⟨⟨.slice none 0 0, .slice none 0 0, heap_setCell_same _ q 3 _ _ _ h1, World.ownsRow_nil _ _ _ _, World.ownsRow_nil _ _ _ _, fun g e => by cases e⟩, (Rel.set (a := ⟨q, 2, none⟩) hB hb (hS _) _).trans (Rel.set (a := ⟨q, 3, none⟩) hB h1 (hS _) _)⟩
end
theorem PlayI.push1 {w4 w5 : World} {B q b m N0 : Nat} {calls found : List Int} {x : Int} {a : Option Addr} {c g2 cap2 : Nat} (h : PlayI w4 q b m N0 calls found) (hcell : w4.cell? ⟨q, 2, none⟩ = some (.slice a calls.length c))
    (ho : w5.ownsRow N0 3 1 (.slice (some ⟨g2, 0, none⟩) (calls.length + 1) cap2) (calls.length + 1) (ic calls ++ [.int .i64 x])) (hg : w4.grownBy w5 (Value.ownBlock (.slice a calls.length c))) (hat : Value.ownBlock (.slice a calls.length c) = some g2 ∨ g2 = w4.heap.size) (hB : B ≤ q) (hBN : B ≤ N0) :
    (w5.cell? ⟨q, 2, none⟩ = some (.slice a calls.length c) ∧ w5.frozen? ⟨q, 2, none⟩ = false ∧ w5.cell? ⟨q, 0, none⟩ = some (.pointer (some ⟨b, 0, none⟩)) ∧ Rel B (SP q N0) w4 w5) ∧ PlayI (w5.setCell ⟨q, 2, none⟩ (.slice (some ⟨g2, 0, none⟩) (calls.length + 1) cap2)) q b m N0 (calls ++ [x]) found ∧ Rel B (SP q N0) w4 (w5.setCell ⟨q, 2, none⟩ (.slice (some ⟨g2, 0, none⟩) (calls.length + 1) cap2)) := by
  obtain ⟨vc, vf, hb, hc, hf, hn⟩ := h
  have hv : vc = .slice a calls.length c := by
    have := (cell_of_row w4 q 2 _ _ _ hb).symm.trans hcell
    simpa using this
  subst hv
  have h5 := (hg.block q (Array.getElem?_eq_some_iff.1 hb).1 (ownP_ne hb hc (by decide))).trans hb
  have hf5 : w5.ownsRow N0 3 1 vf found.length (ic found) := own_same hf (fun g hgb => hg.block g (hf.lt g hgb).2 (fun e => hn g e.symm hgb))
  refine ⟨⟨(cell_of_row w5 q 2 _ _ _ h5).trans rfl, frozen_of_row w5 q 2 _ _ h5, (cell_of_row w5 q 0 _ _ _ h5).trans rfl, Rel.row' (e := 3) hc hBN hg (fun k C z hk => .inr ⟨hk, _, _, rfl⟩)⟩, ⟨_, vf, heap_setCell_same w5 q 2 _ _ _ h5, ?_, own_setP hf5 (by decide) h5 _, ?_⟩, (Rel.row' (e := 3) hc hBN hg (fun k C z hk => .inr ⟨hk, _, _, rfl⟩)).trans (Rel.set (S := SP q N0) (a := ⟨q, 2, none⟩) hB h5 (.inl ⟨rfl, _, _, rfl⟩) _)⟩
  · rw [ic_snoc, List.length_append]
    exact own_setP ho (by decide) h5 _
  · intro g e hgb
    simp only [Value.ownBlock, Option.some.injEq] at e
    subst e
    rcases hat with hat | hat
    · exact hn _ hat hgb
    · have := (hf.lt _ hgb).2
      omega
theorem PlayI.push2 {w4 w5 : World} {B q b m N0 : Nat} {calls found : List Int} {x : Int} {a : Option Addr} {c g2 cap2 : Nat} (h : PlayI w4 q b m N0 calls found) (hcell : w4.cell? ⟨q, 3, none⟩ = some (.slice a found.length c))
    (ho : w5.ownsRow N0 3 1 (.slice (some ⟨g2, 0, none⟩) (found.length + 1) cap2) (found.length + 1) (ic found ++ [.int .i64 x])) (hg : w4.grownBy w5 (Value.ownBlock (.slice a found.length c))) (hat : Value.ownBlock (.slice a found.length c) = some g2 ∨ g2 = w4.heap.size) (hB : B ≤ q) (hBN : B ≤ N0) :
    (w5.cell? ⟨q, 3, none⟩ = some (.slice a found.length c) ∧ w5.frozen? ⟨q, 3, none⟩ = false ∧ w5.cell? ⟨q, 0, none⟩ = some (.pointer (some ⟨b, 0, none⟩)) ∧ Rel B (SP q N0) w4 w5) ∧ PlayI (w5.setCell ⟨q, 3, none⟩ (.slice (some ⟨g2, 0, none⟩) (found.length + 1) cap2)) q b m N0 calls (found ++ [x]) ∧ Rel B (SP q N0) w4 (w5.setCell ⟨q, 3, none⟩ (.slice (some ⟨g2, 0, none⟩) (found.length + 1) cap2)) := by
  obtain ⟨vc, vf, hb, hc, hf, hn⟩ := h
  have hv : vf = .slice a found.length c := by
    have := (cell_of_row w4 q 3 _ _ _ hb).symm.trans hcell
    simpa using this
  subst hv
  have h5 := (hg.block q (Array.getElem?_eq_some_iff.1 hb).1 (ownP_ne hb hf (by decide))).trans hb
  have hc5 : w5.ownsRow N0 3 1 vc calls.length (ic calls) := own_same hc (fun g hgb => hg.block g (hc.lt g hgb).2 (fun e => hn g hgb e.symm))
  refine ⟨⟨(cell_of_row w5 q 3 _ _ _ h5).trans rfl, frozen_of_row w5 q 3 _ _ h5, (cell_of_row w5 q 0 _ _ _ h5).trans rfl, Rel.row' (e := 3) hf hBN hg (fun k C z hk => .inr ⟨hk, _, _, rfl⟩)⟩, ⟨vc, _, heap_setCell_same w5 q 3 _ _ _ h5, own_setP hc5 (by decide) h5 _, ?_, ?_⟩, (Rel.row' (e := 3) hf hBN hg (fun k C z hk => .inr ⟨hk, _, _, rfl⟩)).trans (Rel.set (S := SP q N0) (a := ⟨q, 3, none⟩) hB h5 (.inl ⟨rfl, _, _, rfl⟩) _)⟩
  · rw [ic_snoc, List.length_append]
    exact own_setP ho (by decide) h5 _
  · intro g e hgb
    simp only [Value.ownBlock, Option.some.injEq] at hgb
    subst hgb
    rcases hat with hat | hat
    · exact hn _ e hat
    · have := (hc.lt _ e).2
      omega
/-- What a thing's function leans on. -/
structure FnB (w : World) (B q b p0 p1 p2 : Nat) (R : List Th) (last : Int) (busy closed : Bool) (id : Int) (t : St) : Prop where
  bag : BagAt w B b R last busy closed
  h0 : w.heap[p0]? = some (.cells #[.pointer (some ⟨q, 0, none⟩)] 23 (0, 0))
  h1 : w.heap[p1]? = some (.cells #[.int .i64 id] 3 (0, 0))
  h2 : w.heap[p2]? = some (.cells t.cells.toArray 36 (0, 0))
theorem FnB.rel {w w' : World} {B q b p0 p1 p2 N0 : Nat} {R : List Th} {last : Int} {busy closed : Bool} {id : Int} {t : St} (h : FnB w B q b p0 p1 p2 R last busy closed id t) (hr : Rel B (SP q N0) w w') (h1 : p1 < N0) : FnB w' B q b p0 p1 p2 R last busy closed id t :=
  ⟨h.bag.rel hr (fun _ _ => SP_not (by decide) (by decide) _ _ _) (fun _ _ _ => SP_not (by decide) (by decide) _ _ _), hr.block h.h0 (fun _ => SP_not (by decide) (by decide) _ _ _), hr.block h.h1 (fun _ e => by
    rcases e with ⟨_, C', z', e⟩ | ⟨e, _⟩
    · injection e with _ e2 _
      exact absurd e2 (by decide)
    · omega), hr.block h.h2 (fun _ => SP_not (by decide) (by decide) _ _ _)⟩
theorem FnB.below {w w' : World} {B q b p0 p1 p2 : Nat} {R : List Th} {last : Int} {busy closed : Bool} {id : Int} {t : St} (h : FnB w B q b p0 p1 p2 R last busy closed id t) (hb : Below w.heap.size w w') : FnB w' B q b p0 p1 p2 R last busy closed id t :=
  ⟨h.bag.below hb, (hb.block _ (Array.getElem?_eq_some_iff.1 h.h0).1).trans h.h0, (hb.block _ (Array.getElem?_eq_some_iff.1 h.h1).1).trans h.h1, (hb.block _ (Array.getElem?_eq_some_iff.1 h.h2).1).trans h.h2⟩
theorem FnB.cells {w : World} {B q b p0 p1 p2 : Nat} {R : List Th} {last : Int} {busy closed : Bool} {id : Int} {t : St} (h : FnB w B q b p0 p1 p2 R last busy closed id t) : w.cell? ⟨p0, 0, none⟩ = some (.pointer (some ⟨q, 0, none⟩)) ∧ w.cell? ⟨p1, 0, none⟩ = some (.int .i64 id) ∧ w.cell? ⟨p2, 2, none⟩ = some (.int .i64 t.code) ∧ w.cell? ⟨p2, 3, none⟩ = some (.int .i64 t.pan) ∧ w.cell? ⟨p2, 4, none⟩ = some (.string t.word) :=
  ⟨(cell_of_row w p0 0 _ _ _ h.h0).trans rfl, (cell_of_row w p1 0 _ _ _ h.h1).trans rfl, (cell_of_row w p2 2 _ _ _ h.h2).trans rfl, (cell_of_row w p2 3 _ _ _ h.h2).trans rfl, (cell_of_row w p2 4 _ _ _ h.h2).trans rfl⟩
theorem keepS {w : World} {B q b m p0 p1 p2 N0 : Nat} {R : List Th} {last : Int} {busy closed : Bool} {id : Int} {t : St} {calls found : List Int} (h : FnB w B q b p0 p1 p2 R last busy closed id t) (hp : PlayI w q b m N0 calls found) : w.cell? ⟨p0, 0, none⟩ = some (.pointer (some ⟨q, 0, none⟩)) ∧ w.cell? ⟨q, 0, none⟩ = some (.pointer (some ⟨b, 0, none⟩)) ∧ w.cell? ⟨p1, 0, none⟩ = some (.int .i64 id) := by
  obtain ⟨_, _, _, _, e, _⟩ := hp.cells
  exact ⟨h.cells.1, e, h.cells.2.1⟩
set_option maxHeartbeats 16000000 in
set_option maxRecDepth 100000 in
theorem ufn_any {w : World} {B q b m p0 p1 p2 N0 : Nat} {R : List Th} {last : Int} {busy closed : Bool} {calls found : List Int} {id : Int} {t : St} (hP : PlayI w q b m N0 calls found) (hF : FnB w B q b p0 p1 p2 R last busy closed id t) (hd : (closed || busy) = true) (hR : R.length ≤ 256) (h1N : p1 < N0) (hc : calls.length ≤ 600) (hf : found.length ≤ 600) (hN : N0 ≤ w.heap.size) (hB : B ≤ q) (hBN : B ≤ N0) :
    Calls Try.prog 68 #[.pointer (some ⟨p0, 0, none⟩), .pointer (some ⟨p1, 0, none⟩), .pointer (some ⟨p2, 0, none⟩)] w fun e w' => e = (behS t).ending ∧ PlayI w' q b m N0 (calls ++ [id]) (found ++ [(((heldN R).length : Nat) : Int)]) ∧ Rel B (SP q N0) w w' := by
  obtain ⟨i0, hi, hz0, hz1, hz2⟩ := info_parts infoI
  have PP := Lib.hid hP
  have FF := Lib.hid hF
  have HR := Lib.hid hR
  have HD := Lib.hid hd
  have H1N := Lib.hid h1N
  have HBQ := Lib.hid hB
  have HBN := Lib.hid hBN
  have HN := Lib.hid hN
  obtain ⟨nc, hnc⟩ : ∃ n, calls.length = n := ⟨_, rfl⟩
  obtain ⟨nf, hnf⟩ : ∃ n, found.length = n := ⟨_, rfl⟩
  have HC := Lib.hid hnc
  have HF := Lib.hid hnf
  have RMnc := Lib.hid (roomI (n := nc) (by omega))
  have RMnf := Lib.hid (roomI (n := nf) (by omega))
  clear hP hF hR hd h1N hB hBN hN hnc hnf hc hf
  go_enter Try.func68, Try.ntmps68
  go_upto_region 1 with fail
  go_cut [] (fun wx => Hid (PlayI wx q b m N0 (calls ++ [id]) found ∧ Rel B (SP q N0) w wx))
  case first => as_aux_lemma => --ok
    refine wp_region_held_drew (S := fun w' => w'.cell? ⟨p0, 0, none⟩ = some (.pointer (some ⟨q, 0, none⟩)) ∧ w'.cell? ⟨q, 0, none⟩ = some (.pointer (some ⟨b, 0, none⟩)) ∧ w'.cell? ⟨p1, 0, none⟩ = some (.int .i64 id)) (by kernel_rfl) (keepS (FF.out.below (Below.refl w.heap.size w).drew) (PP.out.below (Below.refl w.heap.size w).drew)) (fun hS => ?_)
    have bd := (Below.refl w.heap.size w).drew
    have PD := Lib.hid (PP.out.below bd)
    have FD := Lib.hid (FF.out.below bd)
    have RD : Hid (Rel B (SP q N0) w w.drew) := Lib.hid (Rel.below bd)
    have HZ : Hid (N0 ≤ w.drew.heap.size) := Lib.hid HN.out
    generalize w.drew = wd at *
    clear bd
    obtain ⟨d0, d1, _, _, _⟩ := FD.out.cells
    obtain ⟨ac, cc, af, cf, e0, e1, e2, e3, e4, oc, of⟩ := PD.out.cells
    rw [HC.out] at e2 oc
    rw [HF.out] at e3 of
    have OC := Lib.hid oc
    have BA1 : Hid (Below wd.heap.size wd (wd.alloc (.cells #[.int .i64 id] 3))) := Lib.hid ((Below.refl _ wd).alloc (Nat.le_refl _) _)
    have E2 : Hid ((wd.alloc (.cells #[.int .i64 id] 3)).cell? ⟨q, 2, none⟩ = some (.slice ac nc cc)) := Lib.hid ((BA1.out.cell (p := ⟨q, 2, none⟩) (World.block_lt_of_cell? wd _ e2)).trans e2)
    clear oc of e0 e1 e3 e4
    refine wpAnyH_take (i := 0) (v := ?_) rfl (by kernel_rfl) (by kernel_rfl) (by kernel_rfl) (fun _ _ _ h => h) (Or.inl ⟨by kernel_rfl, ?_⟩) hS ?_
    rotate_left
    · intro w hSw
      try dsimp only at hSw
      go_split_ands
      go_simp
      try with_reducible rfl
    simp only [Act.put, List.getElem_toArray, List.getElem_cons_zero, List.getElem_cons_succ, List.setIfInBounds_toArray, List.set_cons_zero, List.set_cons_succ]
    refine wpAnyH_take (i := 1) (v := ?_) rfl (by kernel_rfl) (by kernel_rfl) (by kernel_rfl) (fun _ _ _ h => h) (Or.inl ⟨by kernel_rfl, ?_⟩) hS ?_
    rotate_left
    · intro w hSw
      try dsimp only at hSw
      go_split_ands
      go_simp
      try with_reducible rfl
    simp only [Act.put, List.getElem_toArray, List.getElem_cons_zero, List.getElem_cons_succ, List.setIfInBounds_toArray, List.set_cons_zero, List.set_cons_succ]
    refine wpAnyH_take (i := 2) (v := ?_) rfl (by kernel_rfl) (by kernel_rfl) (by kernel_rfl) (fun _ _ _ h => h) (Or.inl ⟨by kernel_rfl, ?_⟩) hS ?_
    rotate_left
    · intro w _
      go_simp
      try with_reducible rfl
    simp only [Act.put, List.getElem_toArray, List.getElem_cons_zero, List.getElem_cons_succ, List.setIfInBounds_toArray, List.set_cons_zero, List.set_cons_succ]
    refine wpAnyH_take (i := 3) (v := ?_) rfl (by kernel_rfl) (by kernel_rfl) (by kernel_rfl) (fun _ _ _ h => h) (Or.inl ⟨by kernel_rfl, ?_⟩) hS ?_
    rotate_left
    · intro w _
      go_simp
      try with_reducible rfl
    simp only [Act.put, List.getElem_toArray, List.getElem_cons_zero, List.getElem_cons_succ, List.setIfInBounds_toArray, List.set_cons_zero, List.set_cons_succ]
    refine wpAnyH_take (i := 5) (v := ?_) rfl (by kernel_rfl) (by kernel_rfl) (by kernel_rfl) (fun _ _ _ h => h) (Or.inl ⟨by kernel_rfl, ?_⟩) hS ?_
    rotate_left
    · intro w hSw
      try dsimp only at hSw
      go_split_ands
      go_simp
      try with_reducible rfl
    simp only [Act.put, List.getElem_toArray, List.getElem_cons_zero, List.getElem_cons_succ, List.setIfInBounds_toArray, List.set_cons_zero, List.set_cons_succ]
    refine wpAnyH_ready (rs := [4, 6]) (by kernel_rfl) (by simp) (AllReadyH.cons rfl (fun K hK => ?_) (AllReadyH.cons rfl (fun K hK => ?_) AllReadyH.nil))
    · skip
      go_simp
      refine hK.out _ _ (hS) (fun hS2 => ?_)
      clear hK K hS
      have hS := hS2
      clear hS2
      try simp only [Act.put, List.getElem_toArray, List.getElem_cons_zero, List.getElem_cons_succ, List.setIfInBounds_toArray, List.set_cons_zero, List.set_cons_succ]
      refine wpAnyH_ready (rs := [6]) (by kernel_rfl) (by simp) (AllReadyH.cons rfl (fun K hK => ?_) AllReadyH.nil)
      go_simp
      have e2a := E2.out
      refine hK.out _ _ (keepS (FD.out.below BA1.out) (PD.out.below BA1.out)) (fun hS2 => ?_)
      clear hK K hS
      have hS := hS2
      clear hS2
      try simp only [Act.put, List.getElem_toArray, List.getElem_cons_zero, List.getElem_cons_succ, List.setIfInBounds_toArray, List.set_cons_zero, List.set_cons_succ]
      refine wpAnyH_ready (rs := [7]) (by kernel_rfl) (by simp) (AllReadyH.cons rfl (fun K hK => ?_) AllReadyH.nil)
      refine step_append_lies _ (by rfl) (.tmp 19) (.tmp 21) 30 (by rfl) N0 3 i0 (.int .i64 0) 1 8 Try.underlying30 hi hz0 hz1 hz2 rfl (by decide) (.slice ac nc cc) nc (ic calls) (by kernel_rfl) (own_below OC.out BA1.out) ⟨wd.heap.size, 0, none⟩ 1 1 [.int .i64 id] (by kernel_rfl) (by rfl) (World.news_of_block (cs := #[.int .i64 id]) (t := 3) (fr := (0, 0)) (heap_alloc_new wd _)) (ones _) (by decide) RMnc.out.1 RMnc.out.2 (Nat.le_trans HZ.out (by simp)) (wd.heap.size + 1) (by simp) ?_
      intro g2 cap2 w5 hown2 hgrow2 hat2 hlt2
      have FIN := Lib.hid (PlayI.push1 (x := id) (PD.out.below (BA1.out)) (by rw [HC.out]; exact E2.out) (by rw [HC.out]; exact hown2) (by rw [HC.out]; exact hgrow2) (by rw [sz_alloc, HC.out]; exact hat2) HBQ.out HBN.out)
      rw [HC.out] at FIN
      have x5 := FIN.out.1.1
      have f5 := FIN.out.1.2.1
      clear hown2 hgrow2 hat2 hlt2
      refine hK.out _ _ (⟨((FD.out.below BA1.out).rel FIN.out.1.2.2.2 H1N.out).cells.1, FIN.out.1.2.2.1, ((FD.out.below BA1.out).rel FIN.out.1.2.2.2 H1N.out).cells.2.1⟩) (fun hS2 => ?_)
      clear hK K hS
      have hS := hS2
      clear hS2
      try simp only [Act.put, List.getElem_toArray, List.getElem_cons_zero, List.getElem_cons_succ, List.setIfInBounds_toArray, List.set_cons_zero, List.set_cons_succ]
      refine wpAnyH_take (i := 8) (v := ?_) rfl (by kernel_rfl) (by kernel_rfl) (by kernel_rfl) (fun _ _ _ h => h) (Or.inl ⟨by kernel_rfl, ?_⟩) hS ?_
      rotate_left
      · intro w _
        go_simp
        try with_reducible rfl
      simp only [Act.put, List.getElem_toArray, List.getElem_cons_zero, List.getElem_cons_succ, List.setIfInBounds_toArray, List.set_cons_zero, List.set_cons_succ]
      refine wpAnyH_take (i := 9) (v := ?_) rfl (by kernel_rfl) (by kernel_rfl) (by kernel_rfl) (fun _ _ _ h => h) (Or.inl ⟨by kernel_rfl, ?_⟩) hS ?_
      rotate_left
      · intro w _
        go_simp
        try with_reducible rfl
      simp only [Act.put, List.getElem_toArray, List.getElem_cons_zero, List.getElem_cons_succ, List.setIfInBounds_toArray, List.set_cons_zero, List.set_cons_succ]
      refine wpAnyH_ready (rs := [10]) (by kernel_rfl) (by simp) (AllReadyH.cons rfl (fun K hK => ?_) AllReadyH.nil)
      go_simp
      refine hK.out _ _ (keepS ((FD.out.below BA1.out).rel FIN.out.2.2 H1N.out) FIN.out.2.1) (fun hS2 => ?_)
      clear hK K hS
      have hS := hS2
      clear hS2
      try simp only [Act.put, List.getElem_toArray, List.getElem_cons_zero, List.getElem_cons_succ, List.setIfInBounds_toArray, List.set_cons_zero, List.set_cons_succ]
      refine wpAnyH_done (by kernel_rfl) ?_ _
      go_wp2_with fail
      go_meet
      exact Lib.hid ⟨FIN.out.2.1, RD.out.trans ((Rel.alloc _ _).trans FIN.out.2.2)⟩
    · skip
      go_simp
      have e2a := E2.out
      refine hK.out _ _ (keepS (FD.out.below BA1.out) (PD.out.below BA1.out)) (fun hS2 => ?_)
      clear hK K hS
      have hS := hS2
      clear hS2
      try simp only [Act.put, List.getElem_toArray, List.getElem_cons_zero, List.getElem_cons_succ, List.setIfInBounds_toArray, List.set_cons_zero, List.set_cons_succ]
      refine wpAnyH_ready (rs := [4]) (by kernel_rfl) (by simp) (AllReadyH.cons rfl (fun K hK => ?_) AllReadyH.nil)
      go_simp
      refine hK.out _ _ (hS) (fun hS2 => ?_)
      clear hK K hS
      have hS := hS2
      clear hS2
      try simp only [Act.put, List.getElem_toArray, List.getElem_cons_zero, List.getElem_cons_succ, List.setIfInBounds_toArray, List.set_cons_zero, List.set_cons_succ]
      refine wpAnyH_ready (rs := [7]) (by kernel_rfl) (by simp) (AllReadyH.cons rfl (fun K hK => ?_) AllReadyH.nil)
      refine step_append_lies _ (by rfl) (.tmp 19) (.tmp 21) 30 (by rfl) N0 3 i0 (.int .i64 0) 1 8 Try.underlying30 hi hz0 hz1 hz2 rfl (by decide) (.slice ac nc cc) nc (ic calls) (by kernel_rfl) (own_below OC.out BA1.out) ⟨wd.heap.size, 0, none⟩ 1 1 [.int .i64 id] (by kernel_rfl) (by rfl) (World.news_of_block (cs := #[.int .i64 id]) (t := 3) (fr := (0, 0)) (heap_alloc_new wd _)) (ones _) (by decide) RMnc.out.1 RMnc.out.2 (Nat.le_trans HZ.out (by simp)) (wd.heap.size + 1) (by simp) ?_
      intro g2 cap2 w5 hown2 hgrow2 hat2 hlt2
      have FIN := Lib.hid (PlayI.push1 (x := id) (PD.out.below (BA1.out)) (by rw [HC.out]; exact E2.out) (by rw [HC.out]; exact hown2) (by rw [HC.out]; exact hgrow2) (by rw [sz_alloc, HC.out]; exact hat2) HBQ.out HBN.out)
      rw [HC.out] at FIN
      have x5 := FIN.out.1.1
      have f5 := FIN.out.1.2.1
      clear hown2 hgrow2 hat2 hlt2
      refine hK.out _ _ (⟨((FD.out.below BA1.out).rel FIN.out.1.2.2.2 H1N.out).cells.1, FIN.out.1.2.2.1, ((FD.out.below BA1.out).rel FIN.out.1.2.2.2 H1N.out).cells.2.1⟩) (fun hS2 => ?_)
      clear hK K hS
      have hS := hS2
      clear hS2
      try simp only [Act.put, List.getElem_toArray, List.getElem_cons_zero, List.getElem_cons_succ, List.setIfInBounds_toArray, List.set_cons_zero, List.set_cons_succ]
      refine wpAnyH_take (i := 8) (v := ?_) rfl (by kernel_rfl) (by kernel_rfl) (by kernel_rfl) (fun _ _ _ h => h) (Or.inl ⟨by kernel_rfl, ?_⟩) hS ?_
      rotate_left
      · intro w _
        go_simp
        try with_reducible rfl
      simp only [Act.put, List.getElem_toArray, List.getElem_cons_zero, List.getElem_cons_succ, List.setIfInBounds_toArray, List.set_cons_zero, List.set_cons_succ]
      refine wpAnyH_take (i := 9) (v := ?_) rfl (by kernel_rfl) (by kernel_rfl) (by kernel_rfl) (fun _ _ _ h => h) (Or.inl ⟨by kernel_rfl, ?_⟩) hS ?_
      rotate_left
      · intro w _
        go_simp
        try with_reducible rfl
      simp only [Act.put, List.getElem_toArray, List.getElem_cons_zero, List.getElem_cons_succ, List.setIfInBounds_toArray, List.set_cons_zero, List.set_cons_succ]
      refine wpAnyH_ready (rs := [10]) (by kernel_rfl) (by simp) (AllReadyH.cons rfl (fun K hK => ?_) AllReadyH.nil)
      go_simp
      refine hK.out _ _ (keepS ((FD.out.below BA1.out).rel FIN.out.2.2 H1N.out) FIN.out.2.1) (fun hS2 => ?_)
      clear hK K hS
      have hS := hS2
      clear hS2
      try simp only [Act.put, List.getElem_toArray, List.getElem_cons_zero, List.getElem_cons_succ, List.setIfInBounds_toArray, List.set_cons_zero, List.set_cons_succ]
      refine wpAnyH_done (by kernel_rfl) ?_ _
      go_wp2_with fail
      go_meet
      exact Lib.hid ⟨FIN.out.2.1, RD.out.trans ((Rel.alloc _ _).trans FIN.out.2.2)⟩
  case rest =>
    obtain ⟨P1, R1⟩ := hcut.out
    have P1 := Lib.hid P1
    have R1 := Lib.hid R1
    have F1 := Lib.hid (FF.out.rel R1.out H1N.out)
    have HN1 := Lib.hid (Nat.le_trans HN.out R1.out.size)
    clear hcut PP RMnc HC
    obtain ⟨w1, rfl⟩ : ∃ x, x = wc := ⟨_, rfl⟩
    go_upto_region 2 with fail
    go_cut [] (fun wx => Hid (PlayI wx q b m N0 (calls ++ [id]) (found ++ [(((heldN R).length : Nat) : Int)]) ∧ Rel B (SP q N0) w wx))
    case first => as_aux_lemma => --ok
      refine wp_region_held_drew (S := fun w' => w'.cell? ⟨p0, 0, none⟩ = some (.pointer (some ⟨q, 0, none⟩)) ∧ w'.cell? ⟨q, 0, none⟩ = some (.pointer (some ⟨b, 0, none⟩)) ∧ w'.cell? ⟨p1, 0, none⟩ = some (.int .i64 id)) (by kernel_rfl) (keepS (F1.out.below (Below.refl w1.heap.size w1).drew) (P1.out.below (Below.refl w1.heap.size w1).drew)) (fun hS => ?_)
      have bd := (Below.refl w1.heap.size w1).drew
      have PD := Lib.hid (P1.out.below bd)
      have FD := Lib.hid (F1.out.below bd)
      have RD : Hid (Rel B (SP q N0) w w1.drew) := Lib.hid (R1.out.trans (Rel.below bd))
      have HZ : Hid (N0 ≤ w1.drew.heap.size) := Lib.hid HN1.out
      generalize w1.drew = wd at *
      clear bd P1 F1 R1 HN1
      obtain ⟨d0, _, _, _, _⟩ := FD.out.cells
      obtain ⟨ac, cc, af, cf, e0, e1, e2, e3, e4, oc, of⟩ := PD.out.cells
      rw [HF.out] at e3 of
      have OF := Lib.hid of
      have CH := Lib.hid (held_any FD.out.bag HR.out)
      have E3 := Lib.hid e3
      have E0 := Lib.hid d0
      clear oc of e1 e2 e4
      refine wpAnyH_take (i := 0) (v := ?_) rfl (by kernel_rfl) (by kernel_rfl) (by kernel_rfl) (fun _ _ _ h => h) (Or.inl ⟨by kernel_rfl, ?_⟩) hS ?_
      rotate_left
      · intro w hSw
        try dsimp only at hSw
        go_split_ands
        go_simp
        try with_reducible rfl
      simp only [Act.put, List.getElem_toArray, List.getElem_cons_zero, List.getElem_cons_succ, List.setIfInBounds_toArray, List.set_cons_zero, List.set_cons_succ]
      refine wpAnyH_take (i := 1) (v := ?_) rfl (by kernel_rfl) (by kernel_rfl) (by kernel_rfl) (fun _ _ _ h => h) (Or.inl ⟨by kernel_rfl, ?_⟩) hS ?_
      rotate_left
      · intro w hSw
        try dsimp only at hSw
        go_split_ands
        go_simp
        try with_reducible rfl
      simp only [Act.put, List.getElem_toArray, List.getElem_cons_zero, List.getElem_cons_succ, List.setIfInBounds_toArray, List.set_cons_zero, List.set_cons_succ]
      refine wpAnyH_take (i := 2) (v := ?_) rfl (by kernel_rfl) (by kernel_rfl) (by kernel_rfl) (fun _ _ _ h => h) (Or.inl ⟨by kernel_rfl, ?_⟩) hS ?_
      rotate_left
      · intro w _
        go_simp
        try with_reducible rfl
      simp only [Act.put, List.getElem_toArray, List.getElem_cons_zero, List.getElem_cons_succ, List.setIfInBounds_toArray, List.set_cons_zero, List.set_cons_succ]
      refine wpAnyH_take (i := 3) (v := ?_) rfl (by kernel_rfl) (by kernel_rfl) (by kernel_rfl) (fun _ _ _ h => h) (Or.inl ⟨by kernel_rfl, ?_⟩) hS ?_
      rotate_left
      · intro w _
        go_simp
        try with_reducible rfl
      simp only [Act.put, List.getElem_toArray, List.getElem_cons_zero, List.getElem_cons_succ, List.setIfInBounds_toArray, List.set_cons_zero, List.set_cons_succ]
      refine wpAnyH_take (i := 5) (v := ?_) rfl (by kernel_rfl) (by kernel_rfl) (by kernel_rfl) (fun _ _ _ h => h) (Or.inl ⟨by kernel_rfl, ?_⟩) hS ?_
      rotate_left
      · intro w hSw
        try dsimp only at hSw
        go_split_ands
        go_simp
        try with_reducible rfl
      simp only [Act.put, List.getElem_toArray, List.getElem_cons_zero, List.getElem_cons_succ, List.setIfInBounds_toArray, List.set_cons_zero, List.set_cons_succ]
      refine wpAnyH_take (i := 6) (v := ?_) rfl (by kernel_rfl) (by kernel_rfl) (by kernel_rfl) (fun _ _ _ h => h) (Or.inl ⟨by kernel_rfl, ?_⟩) hS ?_
      rotate_left
      · intro w _
        go_simp
        try with_reducible rfl
      simp only [Act.put, List.getElem_toArray, List.getElem_cons_zero, List.getElem_cons_succ, List.setIfInBounds_toArray, List.set_cons_zero, List.set_cons_succ]
      refine wpAnyH_take (i := 7) (v := ?_) rfl (by kernel_rfl) (by kernel_rfl) (by kernel_rfl) (fun _ _ _ h => h) (Or.inl ⟨by kernel_rfl, ?_⟩) hS ?_
      rotate_left
      · intro w _
        go_simp
        try with_reducible rfl
      simp only [Act.put, List.getElem_toArray, List.getElem_cons_zero, List.getElem_cons_succ, List.setIfInBounds_toArray, List.set_cons_zero, List.set_cons_succ]
      refine wpAnyH_take (i := 8) (v := ?_) rfl (by kernel_rfl) (by kernel_rfl) (by kernel_rfl) (fun _ _ _ h => h) (Or.inl ⟨by kernel_rfl, ?_⟩) hS ?_
      rotate_left
      · intro w hSw
        try dsimp only at hSw
        go_split_ands
        go_simp
        try with_reducible rfl
      simp only [Act.put, List.getElem_toArray, List.getElem_cons_zero, List.getElem_cons_succ, List.setIfInBounds_toArray, List.set_cons_zero, List.set_cons_succ]
      refine wpAnyH_ready (rs := [4, 9]) (by kernel_rfl) (by simp) (AllReadyH.cons rfl (fun K hK => ?_) (AllReadyH.cons rfl (fun K hK => ?_) AllReadyH.nil))
      · skip
        go_simp
        refine hK.out _ _ (hS) (fun hS2 => ?_)
        clear hK K hS
        have hS := hS2
        clear hS2
        try simp only [Act.put, List.getElem_toArray, List.getElem_cons_zero, List.getElem_cons_succ, List.setIfInBounds_toArray, List.set_cons_zero, List.set_cons_succ]
        refine wpAnyH_ready (rs := [9]) (by kernel_rfl) (by simp) (AllReadyH.cons rfl (fun K hK => ?_) AllReadyH.nil)
        go_simp
        go_at_call 11
        refine CH.out.mono ?_
        rintro e w3 ⟨v3, rfl, hrow3, hb3⟩
        obtain ⟨a3, c3, rfl⟩ := own_slice hrow3
        have y3 := (hb3.cell (p := ⟨q, 3, none⟩) (World.block_lt_of_cell? wd _ E3.out)).trans E3.out
        have B3 := Lib.hid hb3
        have HZ3 : Hid (N0 ≤ w3.heap.size) := Lib.hid (Nat.le_trans HZ.out hb3.size)
        have BA3 : Hid (Below w3.heap.size w3 (w3.alloc (.cells #[.int .i64 (((heldN R).length : Nat) : Int)] 3))) := Lib.hid ((Below.refl _ w3).alloc (Nat.le_refl _) _)
        have z3 := (BA3.out.cell (p := ⟨q, 3, none⟩) (World.block_lt_of_cell? w3 _ y3)).trans y3
        have O3 := Lib.hid (own_below OF.out hb3)
        have P3 := Lib.hid (PD.out.below hb3)
        have F3 := Lib.hid (FD.out.below hb3)
        have Z3 := Lib.hid z3
        clear hrow3 hb3
        refine hK.out _ _ (keepS F3.out P3.out) (fun hS2 => ?_)
        clear hK K hS
        have hS := hS2
        clear hS2
        try simp only [Act.put, List.getElem_toArray, List.getElem_cons_zero, List.getElem_cons_succ, List.setIfInBounds_toArray, List.set_cons_zero, List.set_cons_succ]
        refine wpAnyH_take (i := 10) (v := ?_) rfl (by kernel_rfl) (by kernel_rfl) (by kernel_rfl) (fun _ _ _ h => h) (Or.inl ⟨by kernel_rfl, ?_⟩) hS ?_
        rotate_left
        · intro w _
          go_simp
          try with_reducible rfl
        simp only [Act.put, List.getElem_toArray, List.getElem_cons_zero, List.getElem_cons_succ, List.setIfInBounds_toArray, List.set_cons_zero, List.set_cons_succ]
        refine wpAnyH_ready (rs := [11]) (by kernel_rfl) (by simp) (AllReadyH.cons rfl (fun K hK => ?_) AllReadyH.nil)
        go_simp
        refine hK.out _ _ (keepS (F3.out.below BA3.out) (P3.out.below BA3.out)) (fun hS2 => ?_)
        clear hK K hS
        have hS := hS2
        clear hS2
        try simp only [Act.put, List.getElem_toArray, List.getElem_cons_zero, List.getElem_cons_succ, List.setIfInBounds_toArray, List.set_cons_zero, List.set_cons_succ]
        refine wpAnyH_ready (rs := [12]) (by kernel_rfl) (by simp) (AllReadyH.cons rfl (fun K hK => ?_) AllReadyH.nil)
        refine step_append_lies _ (by rfl) (.tmp 29) (.tmp 36) 30 (by rfl) N0 3 i0 (.int .i64 0) 1 8 Try.underlying30 hi hz0 hz1 hz2 rfl (by decide) (.slice af nf cf) nf (ic found) (by kernel_rfl) (own_below O3.out BA3.out) ⟨w3.heap.size, 0, none⟩ 1 1 [.int .i64 (((heldN R).length : Nat) : Int)] (by kernel_rfl) (by rfl) (World.news_of_block (cs := #[.int .i64 (((heldN R).length : Nat) : Int)]) (t := 3) (fr := (0, 0)) (heap_alloc_new w3 _)) (ones _) (by decide) RMnf.out.1 RMnf.out.2 (Nat.le_trans HZ3.out (by simp)) (w3.heap.size + 1) (by simp) ?_
        intro g2 cap2 w5 hown2 hgrow2 hat2 hlt2
        have FIN := Lib.hid (PlayI.push2 (x := (((heldN R).length : Nat) : Int)) (P3.out.below (BA3.out)) (by rw [HF.out]; exact Z3.out) (by rw [HF.out]; exact hown2) (by rw [HF.out]; exact hgrow2) (by rw [sz_alloc, HF.out]; exact hat2) HBQ.out HBN.out)
        rw [HF.out] at FIN
        have x5 := FIN.out.1.1
        have f5 := FIN.out.1.2.1
        clear hown2 hgrow2 hat2 hlt2
        refine hK.out _ _ (⟨((F3.out.below BA3.out).rel FIN.out.1.2.2.2 H1N.out).cells.1, FIN.out.1.2.2.1, ((F3.out.below BA3.out).rel FIN.out.1.2.2.2 H1N.out).cells.2.1⟩) (fun hS2 => ?_)
        clear hK K hS
        have hS := hS2
        clear hS2
        try simp only [Act.put, List.getElem_toArray, List.getElem_cons_zero, List.getElem_cons_succ, List.setIfInBounds_toArray, List.set_cons_zero, List.set_cons_succ]
        refine wpAnyH_take (i := 13) (v := ?_) rfl (by kernel_rfl) (by kernel_rfl) (by kernel_rfl) (fun _ _ _ h => h) (Or.inl ⟨by kernel_rfl, ?_⟩) hS ?_
        rotate_left
        · intro w _
          go_simp
          try with_reducible rfl
        simp only [Act.put, List.getElem_toArray, List.getElem_cons_zero, List.getElem_cons_succ, List.setIfInBounds_toArray, List.set_cons_zero, List.set_cons_succ]
        refine wpAnyH_take (i := 14) (v := ?_) rfl (by kernel_rfl) (by kernel_rfl) (by kernel_rfl) (fun _ _ _ h => h) (Or.inl ⟨by kernel_rfl, ?_⟩) hS ?_
        rotate_left
        · intro w _
          go_simp
          try with_reducible rfl
        simp only [Act.put, List.getElem_toArray, List.getElem_cons_zero, List.getElem_cons_succ, List.setIfInBounds_toArray, List.set_cons_zero, List.set_cons_succ]
        refine wpAnyH_ready (rs := [15]) (by kernel_rfl) (by simp) (AllReadyH.cons rfl (fun K hK => ?_) AllReadyH.nil)
        go_simp
        refine hK.out _ _ (keepS ((F3.out.below BA3.out).rel FIN.out.2.2 H1N.out) FIN.out.2.1) (fun hS2 => ?_)
        clear hK K hS
        have hS := hS2
        clear hS2
        try simp only [Act.put, List.getElem_toArray, List.getElem_cons_zero, List.getElem_cons_succ, List.setIfInBounds_toArray, List.set_cons_zero, List.set_cons_succ]
        refine wpAnyH_done (by kernel_rfl) ?_ _
        go_wp2_with fail
        go_meet
        exact Lib.hid ⟨FIN.out.2.1, RD.out.trans ((Rel.below B3.out).trans ((Rel.alloc _ _).trans FIN.out.2.2))⟩
      · skip
        go_simp
        go_at_call 11
        refine CH.out.mono ?_
        rintro e w3 ⟨v3, rfl, hrow3, hb3⟩
        obtain ⟨a3, c3, rfl⟩ := own_slice hrow3
        have y3 := (hb3.cell (p := ⟨q, 3, none⟩) (World.block_lt_of_cell? wd _ E3.out)).trans E3.out
        have B3 := Lib.hid hb3
        have HZ3 : Hid (N0 ≤ w3.heap.size) := Lib.hid (Nat.le_trans HZ.out hb3.size)
        have BA3 : Hid (Below w3.heap.size w3 (w3.alloc (.cells #[.int .i64 (((heldN R).length : Nat) : Int)] 3))) := Lib.hid ((Below.refl _ w3).alloc (Nat.le_refl _) _)
        have z3 := (BA3.out.cell (p := ⟨q, 3, none⟩) (World.block_lt_of_cell? w3 _ y3)).trans y3
        have O3 := Lib.hid (own_below OF.out hb3)
        have P3 := Lib.hid (PD.out.below hb3)
        have F3 := Lib.hid (FD.out.below hb3)
        have Z3 := Lib.hid z3
        clear hrow3 hb3
        refine hK.out _ _ (keepS F3.out P3.out) (fun hS2 => ?_)
        clear hK K hS
        have hS := hS2
        clear hS2
        try simp only [Act.put, List.getElem_toArray, List.getElem_cons_zero, List.getElem_cons_succ, List.setIfInBounds_toArray, List.set_cons_zero, List.set_cons_succ]
        refine wpAnyH_take (i := 10) (v := ?_) rfl (by kernel_rfl) (by kernel_rfl) (by kernel_rfl) (fun _ _ _ h => h) (Or.inl ⟨by kernel_rfl, ?_⟩) hS ?_
        rotate_left
        · intro w _
          go_simp
          try with_reducible rfl
        simp only [Act.put, List.getElem_toArray, List.getElem_cons_zero, List.getElem_cons_succ, List.setIfInBounds_toArray, List.set_cons_zero, List.set_cons_succ]
        refine wpAnyH_ready (rs := [4, 11]) (by kernel_rfl) (by simp) (AllReadyH.cons rfl (fun K hK => ?_) (AllReadyH.cons rfl (fun K hK => ?_) AllReadyH.nil))
        · skip
          go_simp
          refine hK.out _ _ (hS) (fun hS2 => ?_)
          clear hK K hS
          have hS := hS2
          clear hS2
          try simp only [Act.put, List.getElem_toArray, List.getElem_cons_zero, List.getElem_cons_succ, List.setIfInBounds_toArray, List.set_cons_zero, List.set_cons_succ]
          refine wpAnyH_ready (rs := [11]) (by kernel_rfl) (by simp) (AllReadyH.cons rfl (fun K hK => ?_) AllReadyH.nil)
          go_simp
          refine hK.out _ _ (keepS (F3.out.below BA3.out) (P3.out.below BA3.out)) (fun hS2 => ?_)
          clear hK K hS
          have hS := hS2
          clear hS2
          try simp only [Act.put, List.getElem_toArray, List.getElem_cons_zero, List.getElem_cons_succ, List.setIfInBounds_toArray, List.set_cons_zero, List.set_cons_succ]
          refine wpAnyH_ready (rs := [12]) (by kernel_rfl) (by simp) (AllReadyH.cons rfl (fun K hK => ?_) AllReadyH.nil)
          refine step_append_lies _ (by rfl) (.tmp 29) (.tmp 36) 30 (by rfl) N0 3 i0 (.int .i64 0) 1 8 Try.underlying30 hi hz0 hz1 hz2 rfl (by decide) (.slice af nf cf) nf (ic found) (by kernel_rfl) (own_below O3.out BA3.out) ⟨w3.heap.size, 0, none⟩ 1 1 [.int .i64 (((heldN R).length : Nat) : Int)] (by kernel_rfl) (by rfl) (World.news_of_block (cs := #[.int .i64 (((heldN R).length : Nat) : Int)]) (t := 3) (fr := (0, 0)) (heap_alloc_new w3 _)) (ones _) (by decide) RMnf.out.1 RMnf.out.2 (Nat.le_trans HZ3.out (by simp)) (w3.heap.size + 1) (by simp) ?_
          intro g2 cap2 w5 hown2 hgrow2 hat2 hlt2
          have FIN := Lib.hid (PlayI.push2 (x := (((heldN R).length : Nat) : Int)) (P3.out.below (BA3.out)) (by rw [HF.out]; exact Z3.out) (by rw [HF.out]; exact hown2) (by rw [HF.out]; exact hgrow2) (by rw [sz_alloc, HF.out]; exact hat2) HBQ.out HBN.out)
          rw [HF.out] at FIN
          have x5 := FIN.out.1.1
          have f5 := FIN.out.1.2.1
          clear hown2 hgrow2 hat2 hlt2
          refine hK.out _ _ (⟨((F3.out.below BA3.out).rel FIN.out.1.2.2.2 H1N.out).cells.1, FIN.out.1.2.2.1, ((F3.out.below BA3.out).rel FIN.out.1.2.2.2 H1N.out).cells.2.1⟩) (fun hS2 => ?_)
          clear hK K hS
          have hS := hS2
          clear hS2
          try simp only [Act.put, List.getElem_toArray, List.getElem_cons_zero, List.getElem_cons_succ, List.setIfInBounds_toArray, List.set_cons_zero, List.set_cons_succ]
          refine wpAnyH_take (i := 13) (v := ?_) rfl (by kernel_rfl) (by kernel_rfl) (by kernel_rfl) (fun _ _ _ h => h) (Or.inl ⟨by kernel_rfl, ?_⟩) hS ?_
          rotate_left
          · intro w _
            go_simp
            try with_reducible rfl
          simp only [Act.put, List.getElem_toArray, List.getElem_cons_zero, List.getElem_cons_succ, List.setIfInBounds_toArray, List.set_cons_zero, List.set_cons_succ]
          refine wpAnyH_take (i := 14) (v := ?_) rfl (by kernel_rfl) (by kernel_rfl) (by kernel_rfl) (fun _ _ _ h => h) (Or.inl ⟨by kernel_rfl, ?_⟩) hS ?_
          rotate_left
          · intro w _
            go_simp
            try with_reducible rfl
          simp only [Act.put, List.getElem_toArray, List.getElem_cons_zero, List.getElem_cons_succ, List.setIfInBounds_toArray, List.set_cons_zero, List.set_cons_succ]
          refine wpAnyH_ready (rs := [15]) (by kernel_rfl) (by simp) (AllReadyH.cons rfl (fun K hK => ?_) AllReadyH.nil)
          go_simp
          refine hK.out _ _ (keepS ((F3.out.below BA3.out).rel FIN.out.2.2 H1N.out) FIN.out.2.1) (fun hS2 => ?_)
          clear hK K hS
          have hS := hS2
          clear hS2
          try simp only [Act.put, List.getElem_toArray, List.getElem_cons_zero, List.getElem_cons_succ, List.setIfInBounds_toArray, List.set_cons_zero, List.set_cons_succ]
          refine wpAnyH_done (by kernel_rfl) ?_ _
          go_wp2_with fail
          go_meet
          exact Lib.hid ⟨FIN.out.2.1, RD.out.trans ((Rel.below B3.out).trans ((Rel.alloc _ _).trans FIN.out.2.2))⟩
        · skip
          go_simp
          refine hK.out _ _ (keepS (F3.out.below BA3.out) (P3.out.below BA3.out)) (fun hS2 => ?_)
          clear hK K hS
          have hS := hS2
          clear hS2
          try simp only [Act.put, List.getElem_toArray, List.getElem_cons_zero, List.getElem_cons_succ, List.setIfInBounds_toArray, List.set_cons_zero, List.set_cons_succ]
          refine wpAnyH_ready (rs := [4]) (by kernel_rfl) (by simp) (AllReadyH.cons rfl (fun K hK => ?_) AllReadyH.nil)
          go_simp
          refine hK.out _ _ (hS) (fun hS2 => ?_)
          clear hK K hS
          have hS := hS2
          clear hS2
          try simp only [Act.put, List.getElem_toArray, List.getElem_cons_zero, List.getElem_cons_succ, List.setIfInBounds_toArray, List.set_cons_zero, List.set_cons_succ]
          refine wpAnyH_ready (rs := [12]) (by kernel_rfl) (by simp) (AllReadyH.cons rfl (fun K hK => ?_) AllReadyH.nil)
          refine step_append_lies _ (by rfl) (.tmp 29) (.tmp 36) 30 (by rfl) N0 3 i0 (.int .i64 0) 1 8 Try.underlying30 hi hz0 hz1 hz2 rfl (by decide) (.slice af nf cf) nf (ic found) (by kernel_rfl) (own_below O3.out BA3.out) ⟨w3.heap.size, 0, none⟩ 1 1 [.int .i64 (((heldN R).length : Nat) : Int)] (by kernel_rfl) (by rfl) (World.news_of_block (cs := #[.int .i64 (((heldN R).length : Nat) : Int)]) (t := 3) (fr := (0, 0)) (heap_alloc_new w3 _)) (ones _) (by decide) RMnf.out.1 RMnf.out.2 (Nat.le_trans HZ3.out (by simp)) (w3.heap.size + 1) (by simp) ?_
          intro g2 cap2 w5 hown2 hgrow2 hat2 hlt2
          have FIN := Lib.hid (PlayI.push2 (x := (((heldN R).length : Nat) : Int)) (P3.out.below (BA3.out)) (by rw [HF.out]; exact Z3.out) (by rw [HF.out]; exact hown2) (by rw [HF.out]; exact hgrow2) (by rw [sz_alloc, HF.out]; exact hat2) HBQ.out HBN.out)
          rw [HF.out] at FIN
          have x5 := FIN.out.1.1
          have f5 := FIN.out.1.2.1
          clear hown2 hgrow2 hat2 hlt2
          refine hK.out _ _ (⟨((F3.out.below BA3.out).rel FIN.out.1.2.2.2 H1N.out).cells.1, FIN.out.1.2.2.1, ((F3.out.below BA3.out).rel FIN.out.1.2.2.2 H1N.out).cells.2.1⟩) (fun hS2 => ?_)
          clear hK K hS
          have hS := hS2
          clear hS2
          try simp only [Act.put, List.getElem_toArray, List.getElem_cons_zero, List.getElem_cons_succ, List.setIfInBounds_toArray, List.set_cons_zero, List.set_cons_succ]
          refine wpAnyH_take (i := 13) (v := ?_) rfl (by kernel_rfl) (by kernel_rfl) (by kernel_rfl) (fun _ _ _ h => h) (Or.inl ⟨by kernel_rfl, ?_⟩) hS ?_
          rotate_left
          · intro w _
            go_simp
            try with_reducible rfl
          simp only [Act.put, List.getElem_toArray, List.getElem_cons_zero, List.getElem_cons_succ, List.setIfInBounds_toArray, List.set_cons_zero, List.set_cons_succ]
          refine wpAnyH_take (i := 14) (v := ?_) rfl (by kernel_rfl) (by kernel_rfl) (by kernel_rfl) (fun _ _ _ h => h) (Or.inl ⟨by kernel_rfl, ?_⟩) hS ?_
          rotate_left
          · intro w _
            go_simp
            try with_reducible rfl
          simp only [Act.put, List.getElem_toArray, List.getElem_cons_zero, List.getElem_cons_succ, List.setIfInBounds_toArray, List.set_cons_zero, List.set_cons_succ]
          refine wpAnyH_ready (rs := [15]) (by kernel_rfl) (by simp) (AllReadyH.cons rfl (fun K hK => ?_) AllReadyH.nil)
          go_simp
          refine hK.out _ _ (keepS ((F3.out.below BA3.out).rel FIN.out.2.2 H1N.out) FIN.out.2.1) (fun hS2 => ?_)
          clear hK K hS
          have hS := hS2
          clear hS2
          try simp only [Act.put, List.getElem_toArray, List.getElem_cons_zero, List.getElem_cons_succ, List.setIfInBounds_toArray, List.set_cons_zero, List.set_cons_succ]
          refine wpAnyH_done (by kernel_rfl) ?_ _
          go_wp2_with fail
          go_meet
          exact Lib.hid ⟨FIN.out.2.1, RD.out.trans ((Rel.below B3.out).trans ((Rel.alloc _ _).trans FIN.out.2.2))⟩
    case rest =>
      obtain ⟨P2, R2⟩ := hcut.out
      have P2 := Lib.hid P2
      have R2 := Lib.hid R2
      have F2 := Lib.hid (FF.out.rel R2.out H1N.out)
      have HN2 := Lib.hid (Nat.le_trans HN.out R2.out.size)
      clear hcut P1 R1 F1 HN1 RMnf HF
      obtain ⟨w2, rfl⟩ : ∃ x, x = wc := ⟨_, rfl⟩
      obtain ⟨d0, _, _, _, _⟩ := F2.out.cells
      obtain ⟨ac, cc, af, cf, e0, _, _, _, _, _, _⟩ := P2.out.cells
      have hbusy := HD.out
      have CA := Lib.hid (add_done F2.out.bag hbusy ⟨#[120]⟩ 69 #[])
      have CM := Lib.hid (bmark_done F2.out.bag hbusy)
      have CU := Lib.hid (undo_done F2.out.bag hbusy 1)
      go_upto_region 5 with (first | (go_at_call 26; refine CA.out.mono ?_; rintro e w3 ⟨rfl, h3⟩; have h3 := h3.symm; subst h3) | (go_at_call 25; refine CM.out.mono ?_; rintro e w3 ⟨rfl, h3⟩; have h3 := h3.symm; subst h3))
      go_wp2_with fail
      refine CU.out.mono ?_
      rintro e w4 ⟨rfl, hb4⟩
      have B4 := Lib.hid hb4
      have TH := Lib.hid (zr5_there w4)
      clear hb4 CA CM CU
      go_wp2_with (refine wpList_store_all (by rfl) 83 (.tmp 8) (.tmp 62) (by rfl) w4.heap.size 0 zr5 (by kernel_rfl) (by kernel_rfl) TH.out (by kernel_rfl) (rcells_one 0 ⟨#[]⟩ (.ret 0)) ?_)
      intro w5 HW5
      have B5 : Hid (Below w2.heap.size w2 w5) := Lib.hid (by
        rw [HW5.out]
        exact B4.out.trans ((((Below.refl w4.heap.size w4).alloc (Nat.le_refl _) _).trans (below_lay (Nat.le_refl _) _ _ _)).mono B4.out.size))
      have P5 := Lib.hid (P2.out.below B5.out)
      have F5 := Lib.hid (F2.out.below B5.out)
      have R5 : Hid (Rel B (SP q N0) w w5) := Lib.hid (R2.out.trans (Rel.below B5.out))
      have HN5 := Lib.hid (Nat.le_trans HN2.out B5.out.size)
      have hbusy := HD.out
      have CK := Lib.hid (keep_done F5.out.bag hbusy 1)
      have CB := Lib.hid (bback_done F5.out.bag hbusy 1)
      have CC := Lib.hid (close_done F5.out.bag hbusy)
      clear HW5 TH B4 B5 P2 F2 R2 d0 e0 HN2
      obtain ⟨d0, _, _, _, _⟩ := F5.out.cells
      obtain ⟨ac, cc, af, cf, e0, _, _, _, _, _, _⟩ := P5.out.cells
      go_upto_region 9 with (first | (go_at_call 34; refine CK.out.mono ?_; rintro e w6 ⟨rfl, h6⟩; have h6 := h6.symm; subst h6) | (go_at_call 28; refine CB.out.mono ?_; rintro e w6 ⟨rfl, h6⟩; have h6 := h6.symm; subst h6) | (go_at_call 14; refine CC.out.mono ?_; rintro e w6 ⟨rfl, h6⟩; have h6 := h6.symm; subst h6))
      clear CK CB CC d0 e0
      go_cut [] (fun wx => Hid (PlayI wx q b m N0 (calls ++ [id]) (found ++ [(((heldN R).length : Nat) : Int)]) ∧ Rel B (SP q N0) w wx))
      case first => as_aux_lemma => --ok
        refine wp_region_held_drew (S := fun w' => w'.cell? ⟨p0, 0, none⟩ = some (.pointer (some ⟨q, 0, none⟩)) ∧ w'.cell? ⟨q, 0, none⟩ = some (.pointer (some ⟨b, 0, none⟩)) ∧ w'.cell? ⟨p1, 0, none⟩ = some (.int .i64 id)) (by kernel_rfl) (keepS (F5.out.below (Below.refl w5.heap.size w5).drew) (P5.out.below (Below.refl w5.heap.size w5).drew)) (fun hS => ?_)
        have bd := (Below.refl w5.heap.size w5).drew
        have PD := Lib.hid (P5.out.below bd)
        have FD := Lib.hid (F5.out.below bd)
        have RD : Hid (Rel B (SP q N0) w w5.drew) := Lib.hid (R5.out.trans (Rel.below bd))
        generalize w5.drew = wd at *
        clear bd P5 F5 R5 HN5
        have GOOD := Lib.hid (PD.out.good HBQ.out)
        obtain ⟨d0, _, _, _, _⟩ := FD.out.cells
        obtain ⟨ac, cc, af, cf, e0, _, _, _, e4, _, _⟩ := PD.out.cells
        have f4 := PD.out.frozen 4
        refine wpAnyH_take (i := 0) (v := ?_) rfl (by kernel_rfl) (by kernel_rfl) (by kernel_rfl) (fun _ _ _ h => h) (Or.inl ⟨by kernel_rfl, ?_⟩) hS ?_
        rotate_left
        · intro w hSw
          try dsimp only at hSw
          go_split_ands
          go_simp
          try with_reducible rfl
        simp only [Act.put, List.getElem_toArray, List.getElem_cons_zero, List.getElem_cons_succ, List.setIfInBounds_toArray, List.set_cons_zero, List.set_cons_succ]
        refine wpAnyH_take (i := 1) (v := ?_) rfl (by kernel_rfl) (by kernel_rfl) (by kernel_rfl) (fun _ _ _ h => h) (Or.inl ⟨by kernel_rfl, ?_⟩) hS ?_
        rotate_left
        · intro w hSw
          try dsimp only at hSw
          go_split_ands
          go_simp
          try with_reducible rfl
        simp only [Act.put, List.getElem_toArray, List.getElem_cons_zero, List.getElem_cons_succ, List.setIfInBounds_toArray, List.set_cons_zero, List.set_cons_succ]
        refine wpAnyH_take (i := 2) (v := ?_) rfl (by kernel_rfl) (by kernel_rfl) (by kernel_rfl) (fun _ _ _ h => h) (Or.inl ⟨by kernel_rfl, ?_⟩) hS ?_
        rotate_left
        · intro w _
          go_simp
          try with_reducible rfl
        simp only [Act.put, List.getElem_toArray, List.getElem_cons_zero, List.getElem_cons_succ, List.setIfInBounds_toArray, List.set_cons_zero, List.set_cons_succ]
        refine wpAnyH_take (i := 3) (v := ?_) rfl (by kernel_rfl) (by kernel_rfl) (by kernel_rfl) (fun _ _ _ h => h) (Or.inl ⟨by kernel_rfl, ?_⟩) hS ?_
        rotate_left
        · intro w _
          go_simp
          try with_reducible rfl
        simp only [Act.put, List.getElem_toArray, List.getElem_cons_zero, List.getElem_cons_succ, List.setIfInBounds_toArray, List.set_cons_zero, List.set_cons_succ]
        refine wpAnyH_ready (rs := [4]) (by kernel_rfl) (by simp) (AllReadyH.cons rfl (fun K hK => ?_) AllReadyH.nil)
        go_simp
        refine hK.out _ _ (hS) (fun hS2 => ?_)
        clear hK K hS
        have hS := hS2
        clear hS2
        try simp only [Act.put, List.getElem_toArray, List.getElem_cons_zero, List.getElem_cons_succ, List.setIfInBounds_toArray, List.set_cons_zero, List.set_cons_succ]
        refine wpAnyH_take (i := 5) (v := ?_) rfl (by kernel_rfl) (by kernel_rfl) (by kernel_rfl) (fun _ _ _ h => h) (Or.inl ⟨by kernel_rfl, ?_⟩) hS ?_
        rotate_left
        · intro w _
          go_simp
          try with_reducible rfl
        simp only [Act.put, List.getElem_toArray, List.getElem_cons_zero, List.getElem_cons_succ, List.setIfInBounds_toArray, List.set_cons_zero, List.set_cons_succ]
        refine wpAnyH_take (i := 6) (v := ?_) rfl (by kernel_rfl) (by kernel_rfl) (by kernel_rfl) (fun _ _ _ h => h) (Or.inl ⟨by kernel_rfl, ?_⟩) hS ?_
        rotate_left
        · intro w _
          go_simp
          try with_reducible rfl
        simp only [Act.put, List.getElem_toArray, List.getElem_cons_zero, List.getElem_cons_succ, List.setIfInBounds_toArray, List.set_cons_zero, List.set_cons_succ]
        refine wpAnyH_take (i := 7) (v := ?_) rfl (by kernel_rfl) (by kernel_rfl) (by kernel_rfl) (fun _ _ _ h => h) (Or.inl ⟨by kernel_rfl, ?_⟩) hS ?_
        rotate_left
        · intro w _
          go_simp
          try with_reducible rfl
        simp only [Act.put, List.getElem_toArray, List.getElem_cons_zero, List.getElem_cons_succ, List.setIfInBounds_toArray, List.set_cons_zero, List.set_cons_succ]
        refine wpAnyH_take (i := 8) (v := ?_) rfl (by kernel_rfl) (by kernel_rfl) (by kernel_rfl) (fun _ _ _ h => h) (Or.inl ⟨by kernel_rfl, ?_⟩) hS ?_
        rotate_left
        · intro w _
          go_simp
          try with_reducible rfl
        simp only [Act.put, List.getElem_toArray, List.getElem_cons_zero, List.getElem_cons_succ, List.setIfInBounds_toArray, List.set_cons_zero, List.set_cons_succ]
        refine wpAnyH_take (i := 9) (v := ?_) rfl (by kernel_rfl) (by kernel_rfl) (by kernel_rfl) (fun _ _ _ h => h) (Or.inl ⟨by kernel_rfl, ?_⟩) hS ?_
        rotate_left
        · intro w _
          go_simp
          try with_reducible rfl
        simp only [Act.put, List.getElem_toArray, List.getElem_cons_zero, List.getElem_cons_succ, List.setIfInBounds_toArray, List.set_cons_zero, List.set_cons_succ]
        refine wpAnyH_take (i := 10) (v := ?_) rfl (by kernel_rfl) (by kernel_rfl) (by kernel_rfl) (fun _ _ _ h => h) (Or.inl ⟨by kernel_rfl, ?_⟩) hS ?_
        rotate_left
        · intro w _
          go_simp
          try with_reducible rfl
        simp only [Act.put, List.getElem_toArray, List.getElem_cons_zero, List.getElem_cons_succ, List.setIfInBounds_toArray, List.set_cons_zero, List.set_cons_succ]
        refine wpAnyH_take (i := 11) (v := ?_) rfl (by kernel_rfl) (by kernel_rfl) (by kernel_rfl) (fun _ _ _ h => h) (Or.inl ⟨by kernel_rfl, ?_⟩) hS ?_
        rotate_left
        · intro w _
          go_simp
          try with_reducible rfl
        simp only [Act.put, List.getElem_toArray, List.getElem_cons_zero, List.getElem_cons_succ, List.setIfInBounds_toArray, List.set_cons_zero, List.set_cons_succ]
        refine wpAnyH_take (i := 12) (v := ?_) rfl (by kernel_rfl) (by kernel_rfl) (by kernel_rfl) (fun _ _ _ h => h) (Or.inl ⟨by kernel_rfl, ?_⟩) hS ?_
        rotate_left
        · intro w _
          go_simp
          try with_reducible rfl
        simp only [Act.put, List.getElem_toArray, List.getElem_cons_zero, List.getElem_cons_succ, List.setIfInBounds_toArray, List.set_cons_zero, List.set_cons_succ]
        refine wpAnyH_take (i := 13) (v := ?_) rfl (by kernel_rfl) (by kernel_rfl) (by kernel_rfl) (fun _ _ _ h => h) (Or.inl ⟨by kernel_rfl, ?_⟩) hS ?_
        rotate_left
        · intro w _
          go_simp
          try with_reducible rfl
        simp only [Act.put, List.getElem_toArray, List.getElem_cons_zero, List.getElem_cons_succ, List.setIfInBounds_toArray, List.set_cons_zero, List.set_cons_succ]
        refine wpAnyH_take (i := 14) (v := ?_) rfl (by kernel_rfl) (by kernel_rfl) (by kernel_rfl) (fun _ _ _ h => h) (Or.inl ⟨by kernel_rfl, ?_⟩) hS ?_
        rotate_left
        · intro w _
          go_simp
          try with_reducible rfl
        simp only [Act.put, List.getElem_toArray, List.getElem_cons_zero, List.getElem_cons_succ, List.setIfInBounds_toArray, List.set_cons_zero, List.set_cons_succ]
        refine wpAnyH_take (i := 15) (v := ?_) rfl (by kernel_rfl) (by kernel_rfl) (by kernel_rfl) (fun _ _ _ h => h) (Or.inl ⟨by kernel_rfl, ?_⟩) hS ?_
        rotate_left
        · intro w _
          go_simp
          try with_reducible rfl
        simp only [Act.put, List.getElem_toArray, List.getElem_cons_zero, List.getElem_cons_succ, List.setIfInBounds_toArray, List.set_cons_zero, List.set_cons_succ]
        refine wpAnyH_take (i := 16) (v := ?_) rfl (by kernel_rfl) (by kernel_rfl) (by kernel_rfl) (fun _ _ _ h => h) (Or.inl ⟨by kernel_rfl, ?_⟩) hS ?_
        rotate_left
        · intro w _
          go_simp
          try with_reducible rfl
        simp only [Act.put, List.getElem_toArray, List.getElem_cons_zero, List.getElem_cons_succ, List.setIfInBounds_toArray, List.set_cons_zero, List.set_cons_succ]
        refine wpAnyH_take (i := 17) (v := ?_) rfl (by kernel_rfl) (by kernel_rfl) (by kernel_rfl) (fun _ _ _ h => h) (Or.inl ⟨by kernel_rfl, ?_⟩) hS ?_
        rotate_left
        · intro w _
          go_simp
          try with_reducible rfl
        simp only [Act.put, List.getElem_toArray, List.getElem_cons_zero, List.getElem_cons_succ, List.setIfInBounds_toArray, List.set_cons_zero, List.set_cons_succ]
        refine wpAnyH_take (i := 18) (v := ?_) rfl (by kernel_rfl) (by kernel_rfl) (by kernel_rfl) (fun _ _ _ h => h) (Or.inl ⟨by kernel_rfl, ?_⟩) hS ?_
        rotate_left
        · intro w _
          go_simp
          try with_reducible rfl
        simp only [Act.put, List.getElem_toArray, List.getElem_cons_zero, List.getElem_cons_succ, List.setIfInBounds_toArray, List.set_cons_zero, List.set_cons_succ]
        refine wpAnyH_take (i := 19) (v := ?_) rfl (by kernel_rfl) (by kernel_rfl) (by kernel_rfl) (fun _ _ _ h => h) (Or.inl ⟨by kernel_rfl, ?_⟩) hS ?_
        rotate_left
        · intro w _
          go_simp
          try with_reducible rfl
        simp only [Act.put, List.getElem_toArray, List.getElem_cons_zero, List.getElem_cons_succ, List.setIfInBounds_toArray, List.set_cons_zero, List.set_cons_succ]
        refine wpAnyH_take (i := 20) (v := ?_) rfl (by kernel_rfl) (by kernel_rfl) (by kernel_rfl) (fun _ _ _ h => h) (Or.inl ⟨by kernel_rfl, ?_⟩) hS ?_
        rotate_left
        · intro w _
          go_simp
          try with_reducible rfl
        simp only [Act.put, List.getElem_toArray, List.getElem_cons_zero, List.getElem_cons_succ, List.setIfInBounds_toArray, List.set_cons_zero, List.set_cons_succ]
        refine wpAnyH_take (i := 21) (v := ?_) rfl (by kernel_rfl) (by kernel_rfl) (by kernel_rfl) (fun _ _ _ h => h) (Or.inl ⟨by kernel_rfl, ?_⟩) hS ?_
        rotate_left
        · intro w _
          go_simp
          try with_reducible rfl
        simp only [Act.put, List.getElem_toArray, List.getElem_cons_zero, List.getElem_cons_succ, List.setIfInBounds_toArray, List.set_cons_zero, List.set_cons_succ]
        refine wpAnyH_take (i := 22) (v := ?_) rfl (by kernel_rfl) (by kernel_rfl) (by kernel_rfl) (fun _ _ _ h => h) (Or.inl ⟨by kernel_rfl, ?_⟩) hS ?_
        rotate_left
        · intro w _
          go_simp
          try with_reducible rfl
        simp only [Act.put, List.getElem_toArray, List.getElem_cons_zero, List.getElem_cons_succ, List.setIfInBounds_toArray, List.set_cons_zero, List.set_cons_succ]
        refine wpAnyH_take (i := 23) (v := ?_) rfl (by kernel_rfl) (by kernel_rfl) (by kernel_rfl) (fun _ _ _ h => h) (Or.inl ⟨by kernel_rfl, ?_⟩) hS ?_
        rotate_left
        · intro w _
          go_simp
          try with_reducible rfl
        simp only [Act.put, List.getElem_toArray, List.getElem_cons_zero, List.getElem_cons_succ, List.setIfInBounds_toArray, List.set_cons_zero, List.set_cons_succ]
        refine wpAnyH_take (i := 24) (v := ?_) rfl (by kernel_rfl) (by kernel_rfl) (by kernel_rfl) (fun _ _ _ h => h) (Or.inl ⟨by kernel_rfl, ?_⟩) hS ?_
        rotate_left
        · intro w _
          go_simp
          try with_reducible rfl
        simp only [Act.put, List.getElem_toArray, List.getElem_cons_zero, List.getElem_cons_succ, List.setIfInBounds_toArray, List.set_cons_zero, List.set_cons_succ]
        refine wpAnyH_take (i := 25) (v := ?_) rfl (by kernel_rfl) (by kernel_rfl) (by kernel_rfl) (fun _ _ _ h => h) (Or.inl ⟨by kernel_rfl, ?_⟩) hS ?_
        rotate_left
        · intro w _
          go_simp
          try with_reducible rfl
        simp only [Act.put, List.getElem_toArray, List.getElem_cons_zero, List.getElem_cons_succ, List.setIfInBounds_toArray, List.set_cons_zero, List.set_cons_succ]
        refine wpAnyH_take (i := 26) (v := ?_) rfl (by kernel_rfl) (by kernel_rfl) (by kernel_rfl) (fun _ _ _ h => h) (Or.inl ⟨by kernel_rfl, ?_⟩) hS ?_
        rotate_left
        · intro w _
          go_simp
          try with_reducible rfl
        simp only [Act.put, List.getElem_toArray, List.getElem_cons_zero, List.getElem_cons_succ, List.setIfInBounds_toArray, List.set_cons_zero, List.set_cons_succ]
        refine wpAnyH_take (i := 27) (v := ?_) rfl (by kernel_rfl) (by kernel_rfl) (by kernel_rfl) (fun _ _ _ h => h) (Or.inl ⟨by kernel_rfl, ?_⟩) hS ?_
        rotate_left
        · intro w _
          go_simp
          try with_reducible rfl
        simp only [Act.put, List.getElem_toArray, List.getElem_cons_zero, List.getElem_cons_succ, List.setIfInBounds_toArray, List.set_cons_zero, List.set_cons_succ]
        refine wpAnyH_take (i := 28) (v := ?_) rfl (by kernel_rfl) (by kernel_rfl) (by kernel_rfl) (fun _ _ _ h => h) (Or.inl ⟨by kernel_rfl, ?_⟩) hS ?_
        rotate_left
        · intro w _
          go_simp
          try with_reducible rfl
        simp only [Act.put, List.getElem_toArray, List.getElem_cons_zero, List.getElem_cons_succ, List.setIfInBounds_toArray, List.set_cons_zero, List.set_cons_succ]
        refine wpAnyH_take (i := 29) (v := ?_) rfl (by kernel_rfl) (by kernel_rfl) (by kernel_rfl) (fun _ _ _ h => h) (Or.inl ⟨by kernel_rfl, ?_⟩) hS ?_
        rotate_left
        · intro w _
          go_simp
          try with_reducible rfl
        simp only [Act.put, List.getElem_toArray, List.getElem_cons_zero, List.getElem_cons_succ, List.setIfInBounds_toArray, List.set_cons_zero, List.set_cons_succ]
        refine wpAnyH_take (i := 30) (v := ?_) rfl (by kernel_rfl) (by kernel_rfl) (by kernel_rfl) (fun _ _ _ h => h) (Or.inl ⟨by kernel_rfl, ?_⟩) hS ?_
        rotate_left
        · intro w _
          go_simp
          try with_reducible rfl
        simp only [Act.put, List.getElem_toArray, List.getElem_cons_zero, List.getElem_cons_succ, List.setIfInBounds_toArray, List.set_cons_zero, List.set_cons_succ]
        refine wpAnyH_ready (rs := [31]) (by kernel_rfl) (by simp) (AllReadyH.cons rfl (fun K hK => ?_) AllReadyH.nil)
        go_simp
        refine hK.out _ _ (keepS (FD.out.rel GOOD.out.2 H1N.out) GOOD.out.1) (fun hS2 => ?_)
        clear hK K hS
        have hS := hS2
        clear hS2
        try simp only [Act.put, List.getElem_toArray, List.getElem_cons_zero, List.getElem_cons_succ, List.setIfInBounds_toArray, List.set_cons_zero, List.set_cons_succ]
        refine wpAnyH_done (by kernel_rfl) ?_ _
        go_wp2_with fail
        go_meet
        exact Lib.hid ⟨GOOD.out.1, RD.out.trans GOOD.out.2⟩
      case rest =>
        obtain ⟨P6, R6⟩ := hcut.out
        have P6 := Lib.hid P6
        have R6 := Lib.hid R6
        have F6 := Lib.hid (FF.out.rel R6.out H1N.out)
        clear hcut P5 R5 F5 HN5
        obtain ⟨w6, rfl⟩ : ∃ x, x = wc := ⟨_, rfl⟩
        obtain ⟨_, _, x2, x3, x4⟩ := F6.out.cells
        obtain ⟨kind, name, code, pan, word, sid⟩ := t
        simp only at x2 x3 x4
        by_cases h0 : pan = 0
        · subst h0
          go_wp2_with fail
          go_ret
          exact ⟨rfl, P6.out, R6.out⟩
        · by_cases h1 : pan = 1
          · subst h1
            go_wp2_with fail
            exact ⟨rfl, rfl, P6.out, R6.out⟩
          · have HBH : Hid (behS ⟨kind, name, code, pan, word, sid⟩ = .num pan) := Lib.hid (by unfold behS; rw [if_neg h0, if_neg h1])
            go_wp2_with fail
            exact ⟨rfl, by rw [HBH.out]; rfl, P6.out, R6.out⟩
end Go.Proofs.Ytnkababhgloclaa
