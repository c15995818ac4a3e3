/- ProbeGroups: its closure that puts in, the things' functions. -/
import Derived.Test.YtnkababhgloclaaStD
import Derived.Test.YtnkababhgloclaaProbeV
import Derived.Test.YtnkababhgloclaaUndoB
namespace Go.Proofs.Ytnkababhgloclaa
open Go.RowKit Go.ChangeShapes
/-- How a thing of a step ends. -/
def behG (t : St) : Beh := if t.pan = 0 then .ret t.code else .num t.pan
set_option maxHeartbeats 2000000 in
theorem fn1_any (p : Nat) (t : St) (w : World) (hp : w.heap[p]? = some (.cells t.cells.toArray 36 (0, 0))) : Calls Try.prog 32 #[.pointer (some ⟨p, 0, none⟩)] w fun e w' => e = (behG t).ending ∧ w' = w := by
  obtain ⟨kind, name, code, pan, word, id⟩ := t
  have c2 := (cell_of_row w p 2 _ _ _ hp).trans (show (St.cells ⟨kind, name, code, pan, word, id⟩).toArray[2]? = some (.int .i64 code) from rfl)
  have c3 := (cell_of_row w p 3 _ _ _ hp).trans (show (St.cells ⟨kind, name, code, pan, word, id⟩).toArray[3]? = some (.int .i64 pan) from rfl)
  clear hp
  by_cases h0 : pan = 0
  · subst h0
    go_enter Try.func32, Try.ntmps32
    go_wp2_with fail
    go_ret
    exact ⟨rfl, rfl⟩
  · have hb : behG ⟨kind, name, code, pan, word, id⟩ = .num pan := if_neg h0
    rw [hb]
    clear hb
    go_enter Try.func32, Try.ntmps32
    go_wp2_with fail
    exact ⟨rfl, rfl, rfl⟩
/-- The numbers of what a bag holds, where nothing ever left it. -/
def Ids (L : List Th) : Prop := ∀ j (h : j < L.length), L[j].id = (j : Int) + 1
theorem Ids.nil : Ids [] := fun j h => by simp at h
theorem Ids.snoc {L : List Th} (h : Ids L) (nm : ByteArray) (fn : Option (Nat × Array Value)) : Ids (L ++ [⟨(L.length : Int) + 1, nm, fn⟩]) := fun j hj => by
  by_cases e : j < L.length
  · rw [List.getElem_append_left e]
    exact h j e
  · have : j = L.length := by simp at hj; omega
    subst this
    simp
theorem Ids.take {L : List Th} (h : Ids L) (n : Nat) : Ids (L.take n) := fun j hj => by
  rw [List.getElem_take]
  exact h j (by simp at hj; omega)
/-- Each thing's function is the closure of a step that lies in a box of its own. -/
def BoxG (w : World) (B : Nat) (L : List Th) : Prop := ∀ t ∈ L, ∀ k c, t.fn = some (k, c) → ∃ p s, k = 32 ∧ c = #[.pointer (some ⟨p, 0, none⟩)] ∧ B ≤ p ∧ w.heap[p]? = some (.cells (St.cells s).toArray 36 (0, 0))
theorem BoxG.nil (w : World) (B : Nat) : BoxG w B [] := fun t ht => by cases ht
theorem BoxG.rel {w w' : World} {B B' : Nat} {S : Nat → Obj → Prop} {L : List Th} (h : BoxG w B L) (hr : Rel B' S w w') (hs : ∀ k C z, ¬ S k (.cells C 36 z)) : BoxG w' B L := fun t ht k c hf => by
  obtain ⟨p, s, h1, h2, h3, h4⟩ := h t ht k c hf
  exact ⟨p, s, h1, h2, h3, hr.block h4 (fun _ => hs _ _ _)⟩
theorem BoxG.mark {w : World} {B : Nat} {L : List Th} (h : BoxG w B L) (i : Int) (nm : ByteArray) : BoxG w B (L ++ [⟨i, nm, none⟩]) := fun t ht k c hf => by
  rcases List.mem_append.1 ht with ht | ht
  · exact h t ht k c hf
  · rw [List.mem_singleton] at ht
    subst ht
    cases hf
theorem BoxG.add {w : World} {B : Nat} {L : List Th} (h : BoxG w B L) (i : Int) (nm : ByteArray) {p : Nat} {s : St} (hB : B ≤ p) (hp : w.heap[p]? = some (.cells (St.cells s).toArray 36 (0, 0))) : BoxG w B (L ++ [⟨i, nm, some (32, #[.pointer (some ⟨p, 0, none⟩)])⟩]) := fun t ht k c hf => by
  rcases List.mem_append.1 ht with ht | ht
  · exact h t ht k c hf
  · rw [List.mem_singleton] at ht
    subst ht
    injection hf with hf
    injection hf with h1 h2
    exact ⟨p, s, h1.symm, h2.symm, hB, hp⟩
theorem BoxG.sub {w : World} {B : Nat} {L M : List Th} (h : BoxG w B L) (hm : ∀ t ∈ M, t ∈ L) : BoxG w B M := fun t ht => h t (hm t ht)
theorem SB_step {b : Nat} (k : Nat) (C : Array Value) (z : Nat × Nat) : ¬ SB b k (.cells C 36 z) := SB_not (by decide) (by decide)
/-- What was put in under way. -/
def PutG (W w : World) (b : Nat) (L M : List Th) (k : Nat) (wr : World) : Prop :=
  M.length ≤ k ∧ BagAt wr W.heap.size b (L ++ M) ((L ++ M).length : Nat) false false ∧ Ids (L ++ M) ∧ BoxG wr W.heap.size (L ++ M) ∧ Rel W.heap.size (SB b) w wr
set_option maxHeartbeats 8000000 in
set_option maxRecDepth 100000 in
theorem gput_any {W w : World} {b pb : Nat} {L : List Th} {v : Value} {ts : List St} (hW : Below W.heap.size W w) (h : BagAt w W.heap.size b L (L.length : Nat) false false) (hids : Ids L) (hbox : BoxG w W.heap.size L) (hp : w.heap[pb]? = some (.cells #[.pointer (some ⟨b, 0, none⟩)] 24 (0, 0))) (hv : StsAt W v ts) (hl : L.length ≤ 101) (hts : ts.length ≤ 140737488355328) :
    Calls Try.prog 31 #[v, .pointer (some ⟨pb, 0, none⟩)] w fun e w' => e = .returned (.tuple #[]) ∧ ∃ M, PutG W w b L M 100 w' := by
  have hmf : ∀ (fn : Fn) (first cap : Array Value) (w : World), (Instr.makeFunc fn first cap).run Try.prog w = .ok (.func fn first cap) w := fun _ _ _ _ => rfl
  have HV := Lib.hid hv
  obtain ⟨a, cap, rfl, _⟩ := hv
  have HW := Lib.hid hW
  have HP := Lib.hid hp
  have HL := Lib.hid hl
  have P0 : Hid (PutG W w b L [] 0 w) := Lib.hid ⟨Nat.le_refl _, by rw [List.append_nil]; exact h, by rw [List.append_nil]; exact hids, by rw [List.append_nil]; exact hbox, Rel.refl _ _ _⟩
  clear h hids hbox hp hW hl
  go_enter Try.func31, Try.ntmps31
  go_wp2_with fail
  go_loopg [3] ts.length (fun r vi wr => ∃ k : Nat, k ≤ ts.length ∧ k ≤ 100 ∧ r = ts.length - k ∧ vi = .int .i64 k ∧ Hid (∃ M, PutG W w b L M k wr))
  case atStart => exact ⟨0, by omega, by omega, by omega, rfl, Lib.hid ⟨[], P0.out⟩⟩
  case round =>
    clear P0
    obtain ⟨k, hk, hk1, hr, rfl, hq⟩ := hrel
    have HR := Lib.hid hr
    clear hr
    obtain ⟨M, QM⟩ := hq.out
    have QM := Lib.hid QM
    clear hq
    by_cases hgo : k < ts.length ∧ k < 100
    · obtain ⟨hlt, hlt1⟩ := hgo
      have BW := Lib.hid (QM.out.2.2.2.2.out HW.out HW.out.size)
      obtain ⟨av', cv', ev, _, hst⟩ := HV.out.below BW.out
      cases ev
      obtain ⟨bs, off, rfl, gx⟩ := hst k hlt
      clear hst
      obtain ⟨t, ht⟩ : ∃ t, ts[k]'hlt = t := ⟨_, rfl⟩
      simp only [ht] at gx
      obtain ⟨kind, name, code, pan, word, id⟩ := t
      have d0 : wr.cell? ⟨bs, off + k * 6, none⟩ = some (.int .i64 kind) := gx 0 _ rfl
      have d1 : wr.cell? ⟨bs, off + k * 6 + 1, none⟩ = some (.string name) := gx 1 _ rfl
      have d2 : wr.cell? ⟨bs, off + k * 6 + 2, none⟩ = some (.int .i64 code) := gx 2 _ rfl
      have d3 : wr.cell? ⟨bs, off + k * 6 + 3, none⟩ = some (.int .i64 pan) := gx 3 _ rfl
      have d4 : wr.cell? ⟨bs, off + k * 6 + 4, none⟩ = some (.string word) := gx 4 _ rfl
      have d5 : wr.cell? ⟨bs, off + k * 6 + 5, none⟩ = some (.int .i64 id) := gx 5 _ rfl
      clear gx ht
      have hkc1 : (0 : Int) ≤ (k : Int) := by omega
      have hkc2 : (k : Int) < (ts.length : Int) := by omega
      have hkc3 : (k : Int) < 100 := by omega
      have HLT := Lib.hid hlt
      have HLT1 := Lib.hid hlt1
      have HK1 := Lib.hid hk1
      have HTS := Lib.hid hts
      clear hlt hlt1 hk hk1 hts
      have TH : Hid ((wr.alloc (.cells #[.int .i64 0, .string ⟨#[]⟩, .int .i64 0, .int .i64 0, .string ⟨#[]⟩, .int .i64 0] 36)).there wr.heap.size 0 6) := Lib.hid (fun j hj => ⟨by
        rw [cell_of_row _ _ _ _ _ _ (heap_alloc_new wr (.cells #[.int .i64 0, .string ⟨#[]⟩, .int .i64 0, .int .i64 0, .string ⟨#[]⟩, .int .i64 0] 36))]
        exact Option.isSome_iff_exists.2 ⟨_, Array.getElem?_eq_getElem (by simp; omega)⟩, frozen_of_row _ _ _ _ _ (heap_alloc_new wr (.cells #[.int .i64 0, .string ⟨#[]⟩, .int .i64 0, .int .i64 0, .string ⟨#[]⟩, .int .i64 0] 36))⟩)
      go_wp2_with (refine wpList_store_all (by rfl) 36 (.tmp 4) (.tmp 18) (by rfl) wr.heap.size 0 [.int .i64 kind, .string name, .int .i64 code, .int .i64 pan, .string word, .int .i64 id] (by kernel_rfl) (by kernel_rfl) TH.out (by kernel_rfl) (by simp [Value.oneCell']) ?_)
      intro W5 HW5
      have hh5 := heap_setCells_same [.int .i64 kind, .string name, .int .i64 code, .int .i64 pan, .string word, .int .i64 id] _ 0 _ (heap_alloc_new wr (.cells #[.int .i64 0, .string ⟨#[]⟩, .int .i64 0, .int .i64 0, .string ⟨#[]⟩, .int .i64 0] 36))
      rw [← HW5.out] at hh5
      have hb5 : Below wr.heap.size wr W5 := by
        rw [HW5.out]
        exact ((Below.refl wr.heap.size wr).alloc (Nat.le_refl _) _).trans (below_lay (Nat.le_refl _) _ _ _)
      have SX : Hid (W5.heap[wr.heap.size]? = some (.cells (St.cells ⟨kind, name, code, pan, word, id⟩).toArray 36 (0, 0))) := Lib.hid hh5
      have e0 := (cell_of_row W5 _ 0 _ _ _ SX.out).trans (show (St.cells ⟨kind, name, code, pan, word, id⟩).toArray[0]? = some (.int .i64 kind) from rfl)
      have e1 := (cell_of_row W5 _ 1 _ _ _ SX.out).trans (show (St.cells ⟨kind, name, code, pan, word, id⟩).toArray[1]? = some (.string name) from rfl)
      have SZ : Hid (W.heap.size ≤ wr.heap.size) := Lib.hid BW.out.size
      have RL5 := Lib.hid (QM.out.2.2.2.2.trans (Rel.below hb5))
      have BG := Lib.hid (QM.out.2.1.below hb5)
      have BX := Lib.hid (QM.out.2.2.2.1.rel (Rel.below (B := 0) (S := fun _ _ => False) hb5) (fun _ _ _ h => h))
      have q0 := (cell_of_row W5 pb 0 _ _ _ (RL5.out.block HP.out (fun _ => SB_not (by decide) (by decide)))).trans (show (#[Value.pointer (some ⟨b, 0, none⟩)] : Array Value)[0]? = some (.pointer (some ⟨b, 0, none⟩)) from rfl)
      have HZ5 := Lib.hid (Nat.le_trans SZ.out hb5.size)
      obtain ⟨ps, hps⟩ : ∃ p, p = wr.heap.size := ⟨_, rfl⟩
      rw [← hps] at e0 e1 SX SZ ⊢
      have IDS := Lib.hid QM.out.2.2.1
      have MK := Lib.hid QM.out.1
      clear hh5 hb5 hps HW5 TH d0 d1 d2 d3 d4 d5 QM BW
      obtain ⟨n, hn⟩ : ∃ n, (L ++ M).length = n := ⟨_, rfl⟩
      have HN : Hid (n ≤ 201) := Lib.hid (by have := HL.out; have := MK.out; have := HK1.out; rw [← hn, List.length_append]; omega)
      have wk : wrap64 ((k : Int) + 1) = (k : Int) + 1 := IntWalk.wrap64_in _ (by have := HK1.out; omega)
      rw [hn] at BG
      have HNN := Lib.hid hn
      clear hn
      by_cases hkind : kind = 1
      · subst hkind
        have CM := Lib.hid (bmark_room BG.out HZ5.out (by rw [HNN.out]; have := HN.out; omega) (by omega) (by have := HN.out; omega))
        go_wp2_with fail
        refine CM.out.mono ?_
        rintro er w6 ⟨rfl, hbag, hrel⟩
        have NX : Hid (PutG W w b L (M ++ [⟨(n : Int) + 1, ⟨#[]⟩, none⟩]) (k + 1) w6) := Lib.hid ⟨by have := MK.out; simp; omega, by
          rw [← List.append_assoc, List.length_append, HNN.out]
          exact hbag, by
          rw [← List.append_assoc, ← HNN.out]
          exact IDS.out.snoc _ _, by
          rw [← List.append_assoc]
          exact (BX.out.rel hrel SB_step).mark _ _, RL5.out.trans hrel⟩
        clear hbag hrel CM e0 e1 q0
        go_wp2_with fail
        go_roundg (ts.length - (k + 1))
        case measure => rw [HR.out]; have := HLT.out; omega
        case rel => exact ⟨k + 1, HLT.out, HLT1.out, rfl, by first | rfl | (rw [wk]; rfl), Lib.hid ⟨_, NX.out⟩⟩
      · by_cases hnm : name.size ≤ 31
        · have CM := Lib.hid (add_room BG.out HZ5.out (by rw [HNN.out]; have := HN.out; omega) (by omega) (by have := HN.out; omega) name hnm 32 #[.pointer (some ⟨ps, 0, none⟩)])
          clear hnm
          go_wp2_with fail
          refine CM.out.mono ?_
          rintro er w6 ⟨rfl, hbag, hrel⟩
          have NX : Hid (PutG W w b L (M ++ [⟨(n : Int) + 1, name, some (32, #[.pointer (some ⟨ps, 0, none⟩)])⟩]) (k + 1) w6) := Lib.hid ⟨by have := MK.out; simp; omega, by
            rw [← List.append_assoc, List.length_append, HNN.out]
            exact hbag, by
            rw [← List.append_assoc, ← HNN.out]
            exact IDS.out.snoc _ _, by
            rw [← List.append_assoc]
            exact (BX.out.rel hrel SB_step).add _ _ SZ.out (hrel.block SX.out (fun _ => SB_step _ _ _)), RL5.out.trans hrel⟩
          clear hbag hrel CM e0 e1 q0
          go_wp2_with fail
          go_roundg (ts.length - (k + 1))
          case measure => rw [HR.out]; have := HLT.out; omega
          case rel => exact ⟨k + 1, HLT.out, HLT1.out, rfl, by first | rfl | (rw [wk]; rfl), Lib.hid ⟨_, NX.out⟩⟩
        · have CM := Lib.hid (add_long BG.out name (by omega) 32 #[.pointer (some ⟨ps, 0, none⟩)])
          clear hnm
          go_wp2_with fail
          refine CM.out.mono ?_
          rintro er w6 ⟨rfl, rfl⟩
          have NX : Hid (PutG W w b L M (k + 1) w6) := Lib.hid ⟨by have := MK.out; omega, by rw [HNN.out]; exact BG.out, IDS.out, BX.out, RL5.out⟩
          clear CM e0 e1 q0
          go_wp2_with fail
          go_roundg (ts.length - (k + 1))
          case measure => rw [HR.out]; have := HLT.out; omega
          case rel => exact ⟨k + 1, HLT.out, HLT1.out, rfl, by first | rfl | (rw [wk]; rfl), Lib.hid ⟨_, NX.out⟩⟩
    · have FIN : Hid (PutG W w b L M 100 wr) := Lib.hid ⟨Nat.le_trans QM.out.1 hk1, QM.out.2⟩
      by_cases hlt : k < ts.length
      · have hn1 : ¬ (k : Int) < 100 := by omega
        have hn0 : (k : Int) < (ts.length : Int) := by omega
        clear hgo
        go_wp2_with fail
        refine bodyPost_end (v := .tuple #[]) (by simp [results, Try.results31, go_sem]) (by rfl) ?_
        exact ⟨rfl, _, FIN.out⟩
      · have hn0 : ¬ (k : Int) < (ts.length : Int) := by omega
        clear hgo
        go_wp2_with fail
        refine bodyPost_end (v := .tuple #[]) (by simp [results, Try.results31, go_sem]) (by rfl) ?_
        exact ⟨rfl, _, FIN.out⟩
end Go.Proofs.Ytnkababhgloclaa
