/- One thing is undone; one is kept: what is there. -/
import Derived.Test.YtnkababhgloclaaUndoB
namespace Go.Proofs.Ytnkababhgloclaa
open Go.RowKit Go.ChangeShapes
set_option maxHeartbeats 1000000 in
theorem keep_nil (id : Int) (w : World) : Calls Try.prog 34 #[.pointer none, .int .i64 id] w fun e w' => e = .returned (.int .i64 2) ∧ w' = w := by
  have CW := Lib.hid (wrong_nil w)
  go_enter Try.func34, Try.ntmps34
  go_wp2_with fail
  refine CW.out.mono ?_
  rintro e w1 ⟨rfl, rfl⟩
  go_wp2_with fail
  go_ret
  exact ⟨rfl, rfl⟩
set_option maxHeartbeats 4000000 in
theorem keep_done {w : World} {B b : Nat} {L : List Th} {last : Int} {busy closed : Bool} (h : BagAt w B b L last busy closed) (hd : (closed || busy) = true) (id : Int) :
    Calls Try.prog 34 #[.pointer (some ⟨b, 0, none⟩), .int .i64 id] w fun e w' => e = .returned (.int .i64 5) ∧ w' = w := by
  have CW := wrong_any h
  rw [hd] at CW
  have CW := Lib.hid CW
  clear h hd
  go_enter Try.func34, Try.ntmps34
  go_wp2_with fail
  refine CW.out.mono ?_
  rintro e w1 ⟨rfl, rfl⟩
  go_wp2_with fail
  go_ret
  exact ⟨rfl, rfl⟩
set_option maxHeartbeats 4000000 in
theorem keep_none {w : World} {B b : Nat} {L : List Th} {last : Int} (h : BagAt w B b L last false false) (hl : L.length ≤ 256) (id : Int) (hp : posT L id false = none) :
    Calls Try.prog 34 #[.pointer (some ⟨b, 0, none⟩), .int .i64 id] w fun e w' => e = .returned (.int .i64 6) ∧ Below w.heap.size w w' := by
  have CW := Lib.hid (wrong_any h)
  have CF := find_any h hl id false
  rw [hp] at CF
  have CF := Lib.hid CF
  clear h hp hl
  go_enter Try.func34, Try.ntmps34
  go_wp2_with fail
  refine CW.out.mono ?_
  rintro e w1 ⟨rfl, rfl⟩
  go_wp2_with fail
  refine CF.out.mono ?_
  rintro e w2 ⟨rfl, hb⟩
  have HB := Lib.hid hb
  clear hb
  simp only [placeI]
  go_wp2_with fail
  go_ret
  exact ⟨rfl, HB.out⟩
/-- A thing has left the row: the bag's block with it. -/
theorem bag_del {w w3 : World} {B b i : Nat} {L : List Th} {last : Int} {busy closed : Bool} {g c : Nat} (h : BagAt w B b L last busy closed) (hcell : w.cell? ⟨b, 0, none⟩ = some (.slice (some ⟨g, 0, none⟩) L.length c)) (hi : i < L.length)
    (ho : w3.ownsRow B 101 3 (.slice (some ⟨g, 0, none⟩) (L.length - 1) c) (L.eraseIdx i).length (hc (L.eraseIdx i))) (hg : w.grownBy w3 (some g)) :
    w3.cell? ⟨b, 0, none⟩ = some (.slice (some ⟨g, 0, none⟩) L.length c) ∧ w3.frozen? ⟨b, 0, none⟩ = false ∧ BagAt (w3.setCell ⟨b, 0, none⟩ (.slice (some ⟨g, 0, none⟩) (L.length - 1) c)) B b (L.eraseIdx i) last busy closed ∧ Rel B (SB b) w (w3.setCell ⟨b, 0, none⟩ (.slice (some ⟨g, 0, none⟩) (L.length - 1) c)) := by
  obtain ⟨h0, v, h1, h2⟩ := h
  have hv : v = .slice (some ⟨g, 0, none⟩) L.length c := by
    have := (cell_of_row w b 0 _ _ _ h1).symm.trans hcell
    simpa using this
  subst hv
  have row : Rel B (SB b) w w3 := Rel.row (e := 101) h2 (Nat.le_refl _) hg (fun k C z => show SB b k _ from Or.inr ⟨C, z, rfl⟩)
  have h5 : w3.heap[b]? = some (.cells #[.slice (some ⟨g, 0, none⟩) L.length c, .int .i64 last, .bool busy, .bool closed] 89 (0, 0)) := (hg.block b (Array.getElem?_eq_some_iff.1 h1).1 (fun e => by
    obtain ⟨C, hC⟩ := own_type h2 e.symm
    rw [h1] at hC
    injection hC with hC
    injection hC with _ h3 _
    exact absurd h3 (by decide))).trans h1
  exact ⟨(cell_of_row w3 b 0 _ _ _ h5).trans rfl, frozen_of_row w3 b 0 _ _ h5, ⟨h0, _, heap_setCell_same w3 b 0 _ _ _ h5, own_setBag ho (by decide) h5 _⟩, row.trans (Rel.set (S := SB b) (a := ⟨b, 0, none⟩) h0 h5 (show SB b b _ from Or.inl ⟨rfl, _, _, rfl⟩) _)⟩
set_option maxHeartbeats 8000000 in
set_option maxRecDepth 100000 in
theorem keep_some {w : World} {B b : Nat} {L : List Th} {last : Int} (h : BagAt w B b L last false false) (hl : L.length ≤ 256) (id : Int) (i : Nat) (hp : posT L id false = some i) :
    Calls Try.prog 34 #[.pointer (some ⟨b, 0, none⟩), .int .i64 id] w fun e w' => e = .returned (.int .i64 0) ∧ BagAt w' B b (L.eraseIdx i) last false false ∧ Rel B (SB b) w w' := by
  have CW := Lib.hid (wrong_any h)
  have CF := find_any h hl id false
  rw [hp] at CF
  have CF := Lib.hid CF
  have hi := (posT_lt hp).1
  have HH := Lib.hid h
  have HL := Lib.hid hl
  have HI := Lib.hid hi
  clear h hp hl hi
  go_enter Try.func34, Try.ntmps34
  go_wp2_with fail
  refine CW.out.mono ?_
  rintro e w1 ⟨rfl, rfl⟩
  go_wp2_with fail
  refine CF.out.mono ?_
  rintro e w2 ⟨rfl, hb⟩
  have BG := Lib.hid (HH.out.below hb)
  have HB := Lib.hid hb
  clear hb CF
  simp only [placeI]
  have hi0 : ¬ ((i : Int) < 0) := by omega
  have wi : wrap64 ((i : Int) + 1) = (i : Int) + 1 := IntWalk.wrap64_in _ (by have := HI.out; have := HL.out; omega)
  obtain ⟨a, c, c0, _, _, _, ho⟩ := BG.out.cells
  have CD := Lib.hid (delete_any B L a c i w2 ho HI.out HL.out)
  have C0 := Lib.hid c0
  obtain ⟨n, hn⟩ : ∃ n, L.length = n := ⟨_, rfl⟩
  have HN := Lib.hid hn
  rw [hn] at c0 CD
  clear ho hn
  go_wp2_with fail
  try rw [wi]
  refine CD.out.mono ?_
  rintro e w3 ⟨g, rfl, rfl, hown, hgrow⟩
  have FIN := Lib.hid (bag_del BG.out C0.out HI.out (by rw [HN.out]; exact hown) hgrow)
  rw [HN.out] at FIN
  have e0 := FIN.out.1
  have f0 := FIN.out.2.1
  clear hown hgrow c0 CD
  go_wp2_with fail
  go_ret
  exact ⟨rfl, FIN.out.2.2.1, (Rel.below HB.out).trans FIN.out.2.2.2⟩
set_option maxHeartbeats 16000000 in
set_option maxRecDepth 100000 in
theorem undo_some {w : World} {B b : Nat} {L : List Th} {last : Int} (h : BagAt w B b L last false false) (hl : L.length ≤ 256) (hB : B ≤ w.heap.size) (id : Int) (i : Nat) (hp : posT L id false = some i) (tid : Int) (nm : ByteArray) (k : Nat) (c : Array Value) (ht : L[i]? = some ⟨tid, nm, some (k, c)⟩)
    (he : ∀ w : World, (callFunc k c).run Try.prog w = .ok (.enter k c) w) (S : Nat → Obj → Prop) (J : World → Beh → World → Prop)
    (hs : ∀ q C z, ¬ S q (.cells C 24 z) ∧ ¬ S q (.cells C 101 z) ∧ ¬ S q (.cells C 83 z) ∧ ¬ S q (.cells C 89 z))
    (HC : ∀ w1, BagAt w1 B b (L.eraseIdx i) last true false → Rel B (SX b w.heap.size fun _ _ => False) w w1 → Calls Try.prog k c w1 fun e w2 => ∃ bh : Beh, e = bh.ending ∧ Rel B S w1 w2 ∧ J w1 bh w2) :
    Calls Try.prog 33 #[.pointer (some ⟨b, 0, none⟩), .int .i64 id] w fun e w3 => ∃ (bh : Beh) (w1 w2 : World), e = .returned (.tuple #[.agg (rcells tid nm bh).toArray, .int .i64 0]) ∧ BagAt w1 B b (L.eraseIdx i) last true false ∧ Rel B (SX b w.heap.size fun _ _ => False) w w1 ∧ Rel B S w1 w2 ∧ J w1 bh w2 ∧ Rel B (SX b w.heap.size fun _ _ => False) w2 w3 ∧ BagAt w3 B b (L.eraseIdx i) last false false := by
  have ba : Below w.heap.size w (w.alloc (.cells #[.int .i64 0, .string ⟨#[]⟩, .int .i64 0, .bool false, .string ⟨#[]⟩] 83)) := (Below.refl _ w).alloc (Nat.le_refl _) _
  have za : (w.alloc (.cells #[.int .i64 0, .string ⟨#[]⟩, .int .i64 0, .bool false, .string ⟨#[]⟩] 83)).heap.size = w.heap.size + 1 := by simp
  have CW := Lib.hid (wrong_any (h.below ba))
  have CF := find_any (h.below ba) hl id false
  rw [hp] at CF
  have CF := Lib.hid CF
  have HH := Lib.hid h
  have HL := Lib.hid hl
  have BA := Lib.hid ba
  have ZA := Lib.hid za
  have hi := (posT_lt hp).1
  have HI := Lib.hid hi
  have HE := Lib.hid he
  have HS := Lib.hid hs
  have HCC := Lib.hid HC
  have HBB := Lib.hid hB
  have HT := Lib.hid ht
  clear h hp hl ba za he hs HC hB ht hi
  go_enter Try.func33, Try.ntmps33
  go_wp2_with fail
  refine CW.out.mono ?_
  rintro e w1 ⟨rfl, rfl⟩
  go_wp2_with fail
  refine CF.out.mono ?_
  rintro e w2 ⟨rfl, hb⟩
  have BG := Lib.hid ((HH.out.below BA.out).below hb)
  have P4 : Hid (w2.heap[w.heap.size]? = some (.cells #[.int .i64 0, .string ⟨#[]⟩, .int .i64 0, .bool false, .string ⟨#[]⟩] 83 (0, 0))) := Lib.hid ((hb.block w.heap.size (by rw [ZA.out]; omega)).trans (heap_alloc_new w _))
  have B2 := Lib.hid (BA.out.trans (hb.mono BA.out.size))
  clear hb CF
  simp only [placeI]
  have hi0 : ¬ ((i : Int) < 0) := by omega
  obtain ⟨a, c', c0, _, _, _, ho⟩ := BG.out.cells
  obtain ⟨g, cap', hform, hgB, hgl⟩ := ho.form (by have := HI.out; omega)
  injection hform with e1 _ e3
  subst e1 e3
  have gx : ∀ j (u : Value), (Th.cells ⟨tid, nm, some (k, c)⟩)[j]? = some u → w2.cell? ⟨g, i * 3 + j, none⟩ = some u := fun j u hu => by
    have h3 := tcell_lt hu
    rw [ho.cellAt (i * 3 + j) (by have := HI.out; omega)]
    exact hc_at L i HI.out j u (by have e := HT.out; rw [List.getElem?_eq_getElem HI.out] at e; injection e with e; rw [e]; exact hu)
  have g0 : w2.cell? ⟨g, i * 3, none⟩ = some (.int .i64 tid) := gx 0 _ rfl
  have g1 : w2.cell? ⟨g, i * 3 + 1, none⟩ = some (.string nm) := gx 1 _ rfl
  have g2 : w2.cell? ⟨g, i * 3 + 2, none⟩ = some (.func (.func k) #[] c) := gx 2 _ rfl
  obtain ⟨n, hn⟩ : ∃ n, L.length = n := ⟨_, rfl⟩
  have hi1 : (0 : Int) ≤ (i : Int) ∧ (i : Int) < (n : Int) := by have := HI.out; omega
  have C0 := Lib.hid c0
  have HO := Lib.hid ho
  have HN := Lib.hid hn
  have HGW : Hid (g ≠ w.heap.size) := Lib.hid (fun e => by
    obtain ⟨C, hC⟩ := own_type ho (g := g) rfl
    rw [e, P4.out] at hC
    injection hC with hC
    injection hC with _ h3 _
    exact absurd h3 (by decide))
  rw [hn] at c0
  have TZ : Hid ((w2.alloc (.cells #[.int .i64 0, .string ⟨#[]⟩, .nilFunc] 101)).there w2.heap.size 0 3) := Lib.hid (fun j hj => ⟨by
    rw [cell_of_row _ _ _ _ _ _ (heap_alloc_new w2 (.cells #[.int .i64 0, .string ⟨#[]⟩, .nilFunc] 101))]
    exact Option.isSome_iff_exists.2 ⟨_, Array.getElem?_eq_getElem (by simp; omega)⟩, frozen_of_row _ _ _ _ _ (heap_alloc_new w2 (.cells #[.int .i64 0, .string ⟨#[]⟩, .nilFunc] 101))⟩)
  clear gx ho hn
  go_wp2_with (refine wpList_store_all (by rfl) 101 (.tmp 8) (.tmp 27) (by rfl) w2.heap.size 0 [.int .i64 tid, .string nm, .func (.func k) #[] c] (by kernel_rfl) (by kernel_rfl) TZ.out (by kernel_rfl) (by simp [Value.oneCell']) ?_)
  intro W5 HW5
  have hh5 := heap_setCells_same [.int .i64 tid, .string nm, .func (.func k) #[] c] _ 0 _ (heap_alloc_new w2 (.cells #[.int .i64 0, .string ⟨#[]⟩, .nilFunc] 101))
  rw [← HW5.out] at hh5
  have hb5 : Below w2.heap.size w2 W5 := by
    rw [HW5.out]
    exact ((Below.refl w2.heap.size w2).alloc (Nat.le_refl _) _).trans (below_lay (Nat.le_refl _) _ _ _)
  have P8 := Lib.hid hh5
  have P4b := Lib.hid ((hb5.block _ (Array.getElem?_eq_some_iff.1 P4.out).1).trans P4.out)
  have B5 := Lib.hid (B2.out.trans (hb5.mono B2.out.size))
  have BG5 := Lib.hid (BG.out.below hb5)
  have c5 := (hb5.cell (p := ⟨b, 0, none⟩) (World.block_lt_of_cell? w2 _ c0)).trans c0
  have C5 := Lib.hid ((hb5.cell (p := ⟨b, 0, none⟩) (World.block_lt_of_cell? w2 _ C0.out)).trans C0.out)
  have O5 := own_below HO.out hb5
  obtain ⟨p8, hp8⟩ : ∃ p, p = w2.heap.size := ⟨_, rfl⟩
  have HNE : Hid (p8 ≠ g) := Lib.hid (by rw [hp8]; omega)
  rw [← hp8] at P8 ⊢
  have CD := Lib.hid (delete_any B L (some ⟨g, 0, none⟩) c' i W5 O5 HI.out HL.out)
  rw [HN.out] at CD
  have wi : wrap64 ((i : Int) + 1) = (i : Int) + 1 := IntWalk.wrap64_in _ (by have := HI.out; have := HL.out; omega)
  clear hh5 hb5 HW5 TZ g0 g1 g2 c0 O5 BG P4 B2 hp8 hi1 hi0 HO C0
  go_upto_region 8 with fail
  go_wp2_with fail
  try rw [wi]
  refine CD.out.mono ?_
  rintro e w6 ⟨g', hg', rfl, hown, hgrow⟩
  injection hg' with hg'
  injection hg' with hg'
  subst hg'
  have FIN := Lib.hid (bag_del BG5.out C5.out HI.out (by rw [HN.out]; exact hown) hgrow)
  rw [HN.out] at FIN
  have e0 := FIN.out.1
  have f0 := FIN.out.2.1
  have P86 := (hgrow.block p8 (Array.getElem?_eq_some_iff.1 P8.out).1 (fun e => HNE.out (by injection e))).trans P8.out
  have P46 := (hgrow.block _ (Array.getElem?_eq_some_iff.1 P4b.out).1 (fun e => HGW.out (by injection e with e; exact e.symm))).trans P4b.out
  have h8b : p8 ≠ b := fun e => by
    have h8 := P8.out
    rw [e, BG5.out.2.choose_spec.1] at h8
    injection h8 with h8
    injection h8 with _ h3 _
    exact absurd h3 (by decide)
  have h4b : w.heap.size ≠ b := fun e => by
    have := HH.out.lt
    omega
  have P87 := Lib.hid ((Below.heap_setCell w6 ⟨b, 0, none⟩ (.slice (some ⟨g, 0, none⟩) (n - 1) c') p8 h8b).trans P86)
  have P47 := Lib.hid ((Below.heap_setCell w6 ⟨b, 0, none⟩ (.slice (some ⟨g, 0, none⟩) (n - 1) c') _ h4b).trans P46)
  have BG7 := Lib.hid FIN.out.2.2.1
  have R7 : Hid (Rel B (SX b w.heap.size fun _ _ => False) w _) := Lib.hid ((Rel.below B5.out).trans (FIN.out.2.2.2.mono (fun k o h => Or.inl h)))
  clear hown hgrow CD P86 P46 h8b h4b
  go_upto_region 9 with fail
  obtain ⟨w7, hw7⟩ : ∃ x, x = w6.setCell ⟨b, 0, none⟩ (.slice (some ⟨g, 0, none⟩) (n - 1) c') := ⟨_, rfl⟩
  rw [← hw7] at P87 P47 BG7 R7 ⊢
  clear hw7 e0 f0 FIN P8 P4b B5 BG5 C5 c5
  have v0 : w7.cell? ⟨p8, 0, none⟩ = some (.int .i64 tid) := (cell_of_row w7 p8 0 _ _ _ P87.out).trans rfl
  have v1 : w7.cell? ⟨p8, 1, none⟩ = some (.string nm) := (cell_of_row w7 p8 1 _ _ _ P87.out).trans rfl
  have v2 : w7.cell? ⟨p8, 2, none⟩ = some (.func (.func k) #[] c) := (cell_of_row w7 p8 2 _ _ _ P87.out).trans rfl
  have CC := Lib.hid (call_any BG7.out (Nat.le_trans HBB.out R7.out.size) tid nm k c HE.out S J HS.out (fun w1 hbag hr => HCC.out w1 hbag (R7.out.trans (hr.mono (fun q o h => by
    rcases h with h | ⟨h1, h2⟩
    · exact Or.inl (Or.inl h)
    · exact Or.inr (Or.inl ⟨Nat.le_trans R7.out.size h1, h2⟩))))))
  go_wp2_with fail
  refine CC.out.mono ?_
  rintro e w8 ⟨bh, x1, x2, rfl, hb1, hr1, hr2, hJ, hr3, hb3⟩
  have up : ∀ q o, SK b w7.heap.size q o → SX b w.heap.size (fun _ _ => False) q o := fun q o h => by
    rcases h with h | ⟨h1, h2⟩
    · exact Or.inl (Or.inl h)
    · exact Or.inr (Or.inl ⟨Nat.le_trans R7.out.size h1, h2⟩)
  have hz7 : w.heap.size < w7.heap.size := (Array.getElem?_eq_some_iff.1 P47.out).1
  have no4 : ∀ C z, ¬ SK b w7.heap.size w.heap.size (.cells C 83 z) := fun C z h => by
    rcases h with ⟨_, C, z, h⟩ | ⟨h1, _⟩
    · cases h
    · omega
  have P48 := Lib.hid (hr3.block (hr2.block (hr1.block P47.out (fun _ => no4 _ _)) (fun _ => (HS.out _ _ _).2.2.1)) (fun _ => no4 _ _))
  have HB1 := Lib.hid hb1
  have HR1 := Lib.hid (R7.out.trans (hr1.mono up (Nat.le_refl _)))
  have HR2 := Lib.hid hr2
  have HJ := Lib.hid hJ
  have HR3 := Lib.hid (hr3.mono up (Nat.le_refl _))
  have HB3 := Lib.hid hb3
  have TH : Hid (w8.there w.heap.size 0 5) := Lib.hid (fun j hj => ⟨by
    rw [cell_of_row _ _ _ _ _ _ P48.out]
    exact Option.isSome_iff_exists.2 ⟨_, Array.getElem?_eq_getElem (by simp; omega)⟩, frozen_of_row _ _ _ _ _ P48.out⟩)
  clear hb1 hr1 hr2 hJ hr3 hb3 up no4 hz7 v0 v1 v2 CC
  simp only [rcells]
  go_wp2_with (refine wpList_store_all (by rfl) 83 (.tmp 4) (.tmp 41) (by rfl) w.heap.size 0 [.int .i64 tid, .string nm, .int .i64 bh.code, .bool bh.pan, .string bh.word] (by kernel_rfl) (by kernel_rfl) TH.out (by kernel_rfl) (rcells_one tid nm bh) ?_)
  intro W9 HW9
  have hh9 := heap_setCells_same [.int .i64 tid, .string nm, .int .i64 bh.code, .bool bh.pan, .string bh.word] w8 0 _ P48.out
  have rr : Rel B (fun q o => q = w.heap.size ∧ ∃ C z, o = .cells C 83 z) w8 W9 := by
    rw [HW9.out]
    exact rel_lay HBB.out (fun C => ⟨rfl, C, _, rfl⟩) _ _ _ _ P48.out
  rw [← HW9.out] at hh9
  obtain ⟨v0, v1, v2, v3, v4⟩ := ends hh9
  have RR := Lib.hid rr
  clear HW9 hh9 rr
  go_wp2_with fail
  refine bodyPost_ret (v := .tuple #[.agg (rcells tid nm bh).toArray, .int .i64 0]) (by simp [results, Try.results33, go_sem, v0, v1, v2, v3, v4, rcells]) rfl ?_
  exact ⟨bh, x1, x2, rfl, HB1.out, HR1.out, HR2.out, HJ.out, HR3.out.trans (RR.out.mono (fun q o h => Or.inr (Or.inl ⟨by rw [h.1]; exact Nat.le_refl _, h.2⟩)) (Nat.le_refl _)), HB3.out.rel RR.out (fun C z h => by obtain ⟨_, C', z', h⟩ := h; cases h) (fun q C z h => by obtain ⟨_, C', z', h⟩ := h; cases h)⟩
end Go.Proofs.Ytnkababhgloclaa
