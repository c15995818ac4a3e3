/- ProbeReverse: the things' function: it counts itself in a map, notes itself, and ends as its step says. -/
import Derived.Test.YtnajbogmhhlpcaaStD
import Derived.Test.YtnajbogmhhlpcaaRevV
import Derived.Test.YtnajbogmhhlpcaaMapB
import Derived.Test.YtnajbogmhhlpcaaRowsLib
namespace Go.Proofs.Ytnajbogmhhlpcaa
open Go.RowKit Go.ChangeShapes Go.Maps
def behR (t : St) : Beh := if t.pan = 0 then .ret t.code else .str t.word
def ic (l : List Int) : List Value := l.map (.int .i64 ·)
theorem ic_len (l : List Int) : (ic l).length = l.length := by simp [ic]
theorem ic_snoc (l : List Int) (x : Int) : ic (l ++ [x]) = ic l ++ [.int .i64 x] := by simp [ic]
theorem ic_at {l : List Int} {j : Nat} (h : j < l.length) : (ic l)[j]? = some (.int .i64 l[j]) := by simp [ic, h]
theorem lawI : Keyed Try.prog 3 := int_keyed Try.underlying3
theorem zeroI (w : World) : (zeroValue 3).run Try.prog w = .ok (.int .i64 0) w := by kernel_rfl
theorem keyI {x : Int} (h : (Lit.int .i64 x).wf = true) : keyOf Try.prog 3 (.int .i64 x) = some (.int .i64 x) := by
  unfold keyOf
  rw [Try.underlying3]
  unfold mapKey
  rw [Try.underlying3]
  simp [h]
theorem wfN {c : Nat} (h : c ≤ 60000) : (Lit.int .i64 ((c + 1 : Nat) : Int)).wf = true ∧ wrap64 ((c : Int) + 1) = ((c + 1 : Nat) : Int) := by
  constructor
  · have h1 : IntKind.i64.min = -9223372036854775808 := rfl
    have h2 : IntKind.i64.max = 9223372036854775807 := rfl
    simp only [Lit.wf, h1, h2, Bool.and_eq_true, decide_eq_true_eq]
    omega
  · rw [IntWalk.wrap64_in _ (by omega)]
    omega
theorem infoI : (Try.prog.info? 3).map (fun i => (i.zero, i.size, i.bytes)) = some (some (.int .i64 0), 1, 8) := by kernel_rfl
/-- What the function writes: the map, the box of the list, the list. -/
def SR (m4 p6 N0 : Nat) (k : Nat) (o : Obj) : Prop := (k = m4 ∧ ∃ es c, o = .map es c) ∨ (k = p6 ∧ ∃ C z, o = .cells C 30 z) ∨ (N0 ≤ k ∧ ∃ C z, o = .cells C 3 z)
/-- The map says how often each was called; the list of those of the call under way. -/
structure RevI (w : World) (p4 m4 p6 N0 : Nat) (A now : List Int) : Prop where
  b4 : w.heap[p4]? = some (.cells #[.map (some m4)] 72 (0, 0))
  mp : ∃ (D : DataW Unit) (n : Nat), w.ownsMap Try.prog 3 (plainElem Try.prog 3) m4 n D ∧ n ≤ A.length ∧ ∀ x : Int, D.atKey (.int .i64 x) (.lit (.int .i64 0)) = .lit (.int .i64 (A.count x : Nat))
  b6 : ∃ v, w.heap[p6]? = some (.cells #[v] 30 (0, 0)) ∧ w.ownsRow N0 3 1 v now.length (ic now) ∧ (now = [] → v = .slice none 0 0)
theorem map_block {w w' : World} {B : Nat} {S : Nat → Obj → Prop} {k : TypeId} {R : Value → Option (DataW Unit × List MemPlace)} {m n : Nat} {D : DataW Unit} (h : w.ownsMap Try.prog k R m n D) (hr : Rel B S w w') (hs : ∀ es c, ¬ S m (.map es c)) : w'.ownsMap Try.prog k R m n D := by
  obtain ⟨es, clock, hb, r⟩ := h
  exact ⟨es, clock, hr.block hb (fun _ => hs _ _), r⟩
theorem RevI.rel {w w' : World} {B p4 m4 p6 N0 : Nat} {A now : List Int} {S : Nat → Obj → Prop} (h : RevI w p4 m4 p6 N0 A now) (hr : Rel B S w w') (hs : ∀ k C z, ¬ S k (.cells C 72 z) ∧ ¬ S k (.cells C 30 z) ∧ ¬ S k (.cells C 3 z)) (hm : ∀ k es c, ¬ S k (.map es c)) : RevI w' p4 m4 p6 N0 A now := by
  obtain ⟨b4, ⟨D, n, h1, h2⟩, v, h3, h4, h5⟩ := h
  exact ⟨hr.block b4 (fun _ => (hs _ _ _).1), ⟨D, n, map_block h1 hr (hm _), h2⟩, v, hr.block h3 (fun _ => (hs _ _ _).2.1), own_rel h4 hr (fun k C _ _ => (hs _ _ _).2.2), h5⟩
theorem count_put {D : DataW Unit} {A : List Int} {id : Int} (hD : ∀ x : Int, D.atKey (.int .i64 x) (.lit (.int .i64 0)) = .lit (.int .i64 (A.count x : Nat))) (hM : IsMap D) (x : Int) :
    (D.put (.int .i64 id) (.lit (.int .i64 ((A.count id + 1 : Nat) : Int)))).atKey (.int .i64 x) (.lit (.int .i64 0)) = .lit (.int .i64 ((A ++ [id]).count x : Nat)) := by
  by_cases e : x = id
  · subst e
    rw [atKey_put_same hM (by trivial), List.count_append]
    simp
  · rw [atKey_put_other (by simp [e]), hD x, List.count_append]
    have : List.count x [id] = 0 := List.count_eq_zero.2 (by simp [e])
    rw [this]
    simp
theorem apartR {w : World} {p g k t t' : Nat} {C C' : Array Value} {z z' : Nat × Nat} (hp : w.heap[p]? = some (.cells C t z)) (hg : w.heap[g]? = some (.cells C' t' z')) (ht : t ≠ t') (x : Value) : (w.setCell ⟨g, k, none⟩ x).heap[p]? = some (.cells C t z) :=
  (Below.heap_setCell w ⟨g, k, none⟩ x p (fun e => by
    simp only at e
    subst e
    rw [hp] at hg
    injection hg with hg
    injection hg with _ h2 _
    exact ht h2)).trans hp
theorem own_setR {w : World} {B e z n g t p : Nat} {v : Value} {xs : List Value} {C : Array Value} (h : w.ownsRow B e z v n xs) (he : e ≠ t) (hm : w.heap[g]? = some (.cells C t (0, 0))) (u : Value) : (w.setCell ⟨g, p, none⟩ u).ownsRow B e z v n xs := by
  refine ownsRow_setCell_other h (a := ⟨g, p, none⟩) (fun hb => ?_) u
  obtain ⟨C', hC'⟩ := own_type h hb
  rw [hm] at hC'
  injection hC' with hC'
  injection hC' with _ h2 _
  exact he h2.symm
theorem ne_block {w : World} {p m t : Nat} {C : Array Value} {z : Nat × Nat} {es : Array MapEntry} {c : Nat} (h : w.heap[p]? = some (.cells C t z)) (hm : w.heap[m]? = some (.map es c)) : p ≠ m := fun e => by
  subst e
  rw [h] at hm
  cases hm
theorem ne_own {w : World} {p t B n : Nat} {C : Array Value} {z : Nat × Nat} {v : Value} {xs : List Value} (h : w.heap[p]? = some (.cells C t z)) (ho : w.ownsRow B 3 1 v n xs) (ht : t ≠ 3) : some p ≠ v.ownBlock := fun e => by
  obtain ⟨C', hC'⟩ := own_type ho e.symm
  rw [h] at hC'
  injection hC' with hC'
  injection hC' with _ h2 _
  exact ht h2
theorem roomI {n : Nat} (h : n ≤ 60000) : n + 1 ≤ maxLen ∧ (n + 1) * 8 ≤ 140737488355328 := by unfold maxLen; omega
theorem ltI {n m : Nat} (h : n ≤ m) (h2 : m ≤ 60000) : n < maxLen := by unfold maxLen; omega
set_option maxHeartbeats 8000000 in
set_option maxRecDepth 100000 in
theorem rfn_any {w : World} {B p4 m4 p6 p9 p10 N0 : Nat} {A now : List Int} {id : Int} {t : St} (hI : RevI w p4 m4 p6 N0 A now) (h10 : w.heap[p10]? = some (.cells #[.int .i64 id] 3 (0, 0))) (h10N : p10 < N0) (h9 : w.heap[p9]? = some (.cells t.cells.toArray 36 (0, 0))) (hA : A.length ≤ 60000) (hnow : now.length ≤ 60000) (hid : (Lit.int .i64 id).wf = true) (hN : N0 ≤ w.heap.size) (h1 : B ≤ m4) (h2 : B ≤ p6) (h3 : B ≤ N0) :
    Calls Try.prog 29 #[.pointer (some ⟨p4, 0, none⟩), .pointer (some ⟨p10, 0, none⟩), .pointer (some ⟨p6, 0, none⟩), .pointer (some ⟨p9, 0, none⟩)] w fun e w' => e = (behR t).ending ∧ RevI w' p4 m4 p6 N0 (A ++ [id]) (now ++ [id]) ∧ Rel B (SR m4 p6 N0) w w' := by
  obtain ⟨b4, ⟨D, n, hm, hn', hD⟩, v, hv6, hrow, hvz⟩ := hI
  clear hvz
  obtain ⟨kind, name, code, pan, word, sid⟩ := t
  obtain ⟨i0, hi, hz0, hz1, hz2⟩ := info_parts infoI
  have hmh : ∃ es c, w.heap[m4]? = some (.map es c) := by
    obtain ⟨es, c, hb, _⟩ := hm
    exact ⟨es, c, hb⟩
  obtain ⟨es, mc, hmb⟩ := hmh
  have c4 : w.cell? ⟨p4, 0, none⟩ = some (.map (some m4)) := (cell_of_row w p4 0 _ _ _ b4).trans rfl
  have c10 : w.cell? ⟨p10, 0, none⟩ = some (.int .i64 id) := (cell_of_row w p10 0 _ _ _ h10).trans rfl
  obtain ⟨cn, hcn⟩ : ∃ cn, A.count id = cn := ⟨_, rfl⟩
  have hcl : cn ≤ 60000 := by rw [← hcn]; exact Nat.le_trans List.count_le_length hA
  obtain ⟨hwf0, wc⟩ := wfN hcl
  have hwf : (Lit.int .i64 (wrap64 ((cn : Int) + 1))).wf = true := by rw [wc]; exact hwf0
  have WC := Lib.hid wc
  clear hwf0 wc
  have HID := Lib.hid hid
  have M := Lib.hid hm
  have MI := Lib.hid hm.isMap
  have HB4 := Lib.hid b4
  have HCN := Lib.hid hcn
  have HDD := Lib.hid hD
  have HROW := Lib.hid hrow
  have H6 := Lib.hid hv6
  have H9 := Lib.hid h9
  have H10 := Lib.hid h10
  have HM := Lib.hid hmb
  have hnm : n < maxLen := ltI hn' hA
  have HNL := Lib.hid hn'
  have HNOW := Lib.hid hnow
  have HN := Lib.hid hN
  have HBB := Lib.hid (And.intro h1 (And.intro h2 h3))
  have HWF := Lib.hid hwf
  clear b4 hm hD hv6 hrow h9 h10 hmb hcn hn' hnow hN h1 h2 h3 hA hcl hid hwf
  go_enter Try.func29, Try.ntmps29
  go_wp2_with (at_lookup; refine wpList_lookup_own_int _ rfl (.tmp 5) (.tmp 6) 72 rfl 3 3 .i64 lawI Try.underlying72 Try.underlying3 (zeroI _) m4 n D rfl M.out (.int .i64 id) (.int .i64 id) rfl (keyI HID.out) ?_)
  intro c hat hwc
  rw [HDD.out id, HCN.out] at hat
  simp only [DataW.lit.injEq, Lit.int.injEq, true_and] at hat
  subst hat
  clear hwc
  go_wp2_with (at_mapUpdate; refine wpList_mapUpdate_own _ rfl _ _ _ 72 rfl 3 3 lawI Try.underlying72 _ m4 n _ rfl M.out hnm _ _ _ rfl rfl (keyI HID.out) _ [] (plainElem_int Try.underlying3 HWF.out) ?_)
  intro w2 hown2 hgrow2
  rw [WC.out] at hown2
  have r2 : Rel B (SR m4 p6 N0) w w2 := Rel.grown hgrow2 HBB.out.1 HM.out (.inl ⟨rfl, _, _, rfl⟩)
  have d10 := (hgrow2.block p10 (Array.getElem?_eq_some_iff.1 H10.out).1 (fun e => ne_block H10.out HM.out (by injection e))).trans H10.out
  have d9 := (hgrow2.block p9 (Array.getElem?_eq_some_iff.1 H9.out).1 (fun e => ne_block H9.out HM.out (by injection e))).trans H9.out
  have d6 := (hgrow2.block p6 (Array.getElem?_eq_some_iff.1 H6.out).1 (fun e => ne_block H6.out HM.out (by injection e))).trans H6.out
  have d4 := (hgrow2.block p4 (Array.getElem?_eq_some_iff.1 HB4.out).1 (fun e => ne_block HB4.out HM.out (by injection e))).trans HB4.out
  have drow : w2.ownsRow N0 3 1 v now.length (ic now) := own_same HROW.out (fun g hg => by
    obtain ⟨C, hC⟩ := own_type HROW.out hg
    exact hgrow2.block g (Array.getElem?_eq_some_iff.1 hC).1 (fun e => ne_block hC HM.out (by injection e)))
  have e6 : w2.cell? ⟨p6, 0, none⟩ = some v := (cell_of_row w2 p6 0 _ _ _ d6).trans rfl
  have e10 : w2.cell? ⟨p10, 0, none⟩ = some (.int .i64 id) := (cell_of_row w2 p10 0 _ _ _ d10).trans rfl
  have hz2' : N0 ≤ w2.heap.size := Nat.le_trans HN.out hgrow2.size
  have M2 := Lib.hid hown2
  have R2 := Lib.hid r2
  have D9 := Lib.hid d9
  have D6 := Lib.hid d6
  have D4 := Lib.hid d4
  have DROW := Lib.hid drow
  have hm2 : Hid (∃ es c, w2.heap[m4]? = some (.map es c)) := Lib.hid (by
    obtain ⟨es, c, hb, _⟩ := hown2
    exact ⟨es, c, hb⟩)
  obtain ⟨hb1, hb2⟩ := roomI HNOW.out
  clear hown2 hgrow2 r2 d10 d9 d6 d4 drow c4 c10 M HB4 HROW H6 H9 HM
  go_wp2_with (refine wpList_append_own _ rfl (.tmp 9) (.tmp 11) 30 rfl N0 3 i0 (.int .i64 0) 1 8 Try.underlying30 hi hz0 hz1 hz2 rfl (by decide) v now.length (ic now) rfl (DROW.out.alloc _) ⟨w2.heap.size, 0, none⟩ 1 1 [.int .i64 id] (by rfl) rfl (cell_one_at _ _ _ _ rfl) (by simp [Value.oneCell']) hb1 hb2 (by rw [size_alloc]; exact Nat.le_succ_of_le hz2') ?_)
  intro v3 w3 hrow3 hgrow3 hnn
  obtain ⟨a3, cp3, rfl⟩ := own_slice hrow3
  have ba : Below w2.heap.size w2 (w2.alloc (.cells #[.int .i64 id] 3)) := (Below.refl _ w2).alloc (Nat.le_refl _) _
  have la := DROW.out.alloc (.cells #[.int .i64 id] 3)
  have keep : ∀ k o, w2.heap[k]? = some o → some k ≠ v.ownBlock → w3.heap[k]? = some o := fun k o hk hne => by
    have hlt := (Array.getElem?_eq_some_iff.1 hk).1
    exact (hgrow3.block k (by rw [size_alloc]; omega) hne).trans ((ba.block k hlt).trans hk)
  have q6 := keep p6 _ D6.out (ne_own D6.out DROW.out (by decide))
  have q9 := keep p9 _ D9.out (ne_own D9.out DROW.out (by decide))
  have q4 := keep p4 _ D4.out (ne_own D4.out DROW.out (by decide))
  have r3 : Rel B (SR m4 p6 N0) w w3 := R2.out.trans ((Rel.below ba).trans (Rel.row' la HBB.out.2.2 hgrow3 (fun k C z hk => .inr (.inr ⟨hk, _, _, rfl⟩))))
  have m3 : w3.ownsMap Try.prog 3 (plainElem Try.prog 3) m4 (n + 1) (D.put (.int .i64 id) (.lit (.int .i64 ((cn + 1 : Nat) : Int)))) := by
    obtain ⟨es, c, hb, r⟩ := M2.out
    exact ⟨es, c, keep m4 _ hb (fun e => by
      obtain ⟨C', hC'⟩ := own_type DROW.out e.symm
      rw [hb] at hC'
      cases hC'), r⟩
  have g6 : w3.cell? ⟨p6, 0, none⟩ = some v := (cell_of_row w3 p6 0 _ _ _ q6).trans rfl
  have f6 : w3.frozen? ⟨p6, 0, none⟩ = false := frozen_of_row _ _ _ _ _ q6
  have hm3 : ∃ es c, w3.heap[m4]? = some (.map es c) := by
    obtain ⟨es, c, hb, _⟩ := m3
    exact ⟨es, c, hb⟩
  obtain ⟨es3, c3, hm3⟩ := hm3
  have FIN : Hid (RevI (w3.setCell ⟨p6, 0, none⟩ (.slice a3 (now.length + 1) cp3)) p4 m4 p6 N0 (A ++ [id]) (now ++ [id]) ∧ Rel B (SR m4 p6 N0) w (w3.setCell ⟨p6, 0, none⟩ (.slice a3 (now.length + 1) cp3)) ∧ (w3.setCell ⟨p6, 0, none⟩ (.slice a3 (now.length + 1) cp3)).heap[p9]? = some (.cells (St.cells ⟨kind, name, code, pan, word, sid⟩).toArray 36 (0, 0))) := Lib.hid (by
    refine ⟨⟨apartR q4 q6 (by decide) _, ⟨_, n + 1, m3.setCell (a := ⟨p6, 0, none⟩) (fun e => ne_block q6 hm3 e.symm) _, by rw [List.length_append]; have := HNL.out; simp; omega, ?_⟩, .slice a3 (now.length + 1) cp3, ?_, ?_, fun e => by simp at e⟩, r3.trans (Rel.set (a := ⟨p6, 0, none⟩) HBB.out.2.1 q6 (.inr (.inl ⟨rfl, _, _, rfl⟩)) _), apartR q9 q6 (by decide) _⟩
    · intro x
      rw [← HCN.out]
      exact count_put HDD.out MI.out x
    · exact heap_setCell_same w3 p6 0 _ _ _ q6
    · have := own_setR hrow3 (t := 30) (p := 0) (by decide) q6 (.slice a3 (now.length + 1) cp3)
      rw [ic_snoc, List.length_append]
      exact this)
  clear ba la keep q6 q9 q4 r3 m3 hm3 hrow3 hgrow3 hnn DROW D4 D6 D9 M2 MI R2 HDD
  go_upto_region 3 with fail
  obtain ⟨w4, hw4⟩ : ∃ x, x = w3.setCell ⟨p6, 0, none⟩ (.slice a3 (now.length + 1) cp3) := ⟨_, rfl⟩
  rw [← hw4] at FIN ⊢
  clear hw4 g6 f6
  have x2 := (cell_of_row w4 p9 2 _ _ _ FIN.out.2.2).trans (show (St.cells ⟨kind, name, code, pan, word, sid⟩).toArray[2]? = some (.int .i64 code) from rfl)
  have x3 := (cell_of_row w4 p9 3 _ _ _ FIN.out.2.2).trans (show (St.cells ⟨kind, name, code, pan, word, sid⟩).toArray[3]? = some (.int .i64 pan) from rfl)
  have x4 := (cell_of_row w4 p9 4 _ _ _ FIN.out.2.2).trans (show (St.cells ⟨kind, name, code, pan, word, sid⟩).toArray[4]? = some (.string word) from rfl)
  by_cases h0 : pan = 0
  · subst h0
    go_wp2_with fail
    go_ret
    exact ⟨rfl, FIN.out.1, FIN.out.2.1⟩
  · have hb : behR ⟨kind, name, code, pan, word, sid⟩ = .str word := if_neg h0
    have HBH := Lib.hid hb
    clear hb
    go_wp2_with fail
    exact ⟨rfl, by rw [HBH.out]; rfl, FIN.out.1, FIN.out.2.1⟩
end Go.Proofs.Ytnajbogmhhlpcaa
