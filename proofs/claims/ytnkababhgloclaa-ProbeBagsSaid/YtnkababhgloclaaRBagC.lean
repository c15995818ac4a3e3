/- The document's bag walked: find, last, Held. -/
import Derived.Test.YtnkababhgloclaaRBagD
import Derived.Test.YtnkababhgloclaaUndoC
import Derived.Test.YtnkababhgloclaaStD
import Derived.Deep.AppendLies
namespace Go.Proofs.Ytnkababhgloclaa
open Go.RowKit Go.ChangeShapes
section
variable {w w' : World} {B m : Nat} {L : List RT} {last : Int} {closed : Bool}
/-- A row of its things. -/
theorem rt_at {c : Nat} {a : Option Addr} (h : w.ownsRow B 92 6 (.slice a L.length c) L.length (rc6 L)) (i : Nat) (hi : i < L.length) : ∃ g, a = some ⟨g, 0, none⟩ ∧ ∀ j u, (L[i].cells)[j]? = some u → w.cell? ⟨g, i * 6 + j, none⟩ = some u := by
  obtain ⟨g, c', e, _⟩ := h.form (by omega)
  injection e with e _ _
  subst e
  refine ⟨g, rfl, fun j u hu => ?_⟩
  have h6 := rtcell_lt hu
  rw [h.cellAt (i * 6 + j) (by omega)]
  exact rc6_at L i hi j u hu
end
theorem idxD {k n : Nat} (h : k < n) (hn : n ≤ 256) : (0 : Int) ≤ (k : Int) ∧ (k : Int) < (n : Int) ∧ wrap64 ((k : Int) + 1) = (k : Int) + 1 := ⟨by omega, by omega, IntWalk.wrap64_in _ (by omega)⟩
theorem measD {r n k : Nat} (h : r = n - k) (h2 : k < n) : n - (k + 1) < r := by omega
set_option maxHeartbeats 4000000 in
theorem rfind_any {w : World} {B m : Nat} {L : List RT} {last : Int} {closed : Bool} (h : RBagAt w B m L last closed) (hl : L.length ≤ 256) (id : Int) (mark : Bool) :
    Calls Try.prog 67 #[.pointer (some ⟨m, 0, none⟩), .int .i64 id, .bool mark] w fun e w' => e = .returned (.int .i64 (placeR (posR L id mark))) ∧ w' = w := by
  obtain ⟨a, c, c0, c1, c2, ho⟩ := h.cells
  have HO := Lib.hid ho
  obtain ⟨n, hn⟩ : ∃ n, L.length = n := ⟨_, rfl⟩
  have HN := Lib.hid hn
  have HL : Hid (n ≤ 256) := Lib.hid (by rw [← hn]; exact hl)
  rw [hn] at c0
  clear h ho hn hl c1 c2
  go_enter Try.func67, Try.ntmps67
  go_wp2_with fail
  go_loopg [7] n (fun r v7 wr => ∃ k : Nat, k ≤ n ∧ r = n - k ∧ v7 = .int .i64 k ∧ w = wr ∧ Hid (∀ j (hj : j < L.length), j < k → matchR id mark L[j] = false))
  case atStart => exact ⟨0, by omega, by omega, rfl, rfl, Lib.hid (fun j hj h => by omega)⟩
  case round =>
    obtain ⟨k, hk, hr, rfl, rfl, hq⟩ := hrel
    have HR := Lib.hid hr
    clear hr
    by_cases hlt : k < n
    · have hkL : k < L.length := by rw [HN.out]; exact hlt
      obtain ⟨g, rfl, gx⟩ := rt_at HO.out k hkL
      obtain ⟨⟨tid, tm, tn, tc, tp, tw⟩, ht⟩ : ∃ t, L[k] = t := ⟨_, rfl⟩
      rw [ht] at gx
      have d0 : w.cell? ⟨g, k * 6, none⟩ = some (.int .i64 tid) := gx 0 _ rfl
      have d1 : w.cell? ⟨g, k * 6 + 1, none⟩ = some (.bool tm) := gx 1 _ rfl
      obtain ⟨h1, h2, wk⟩ := idxD hlt HL.out
      have HT := Lib.hid ht
      have HLT := Lib.hid hlt
      have HKL := Lib.hid hkL
      have HQ := Lib.hid hq.out
      clear gx ht hlt hq hk
      by_cases e1 : tid = id
      · subst e1
        by_cases e2 : tm = mark
        · subst e2
          have FIN : Hid (posR L tid tm = some k) := Lib.hid (posR_some HKL.out (by rw [HT.out]; simp [matchR]) (fun j hj => HQ.out j (by have := HKL.out; omega) hj))
          have hb : (tm == tm) = true := by simp
          go_wp2_with fail
          go_ret
          exact ⟨by rw [FIN.out]; rfl, rfl⟩
        · have hb : (tm == mark) = false := by simpa using e2
          have NX : Hid (∀ j (hj : j < L.length), j < k + 1 → matchR tid mark L[j] = false) := Lib.hid (fun j hj hjk => by
            by_cases e : j = k
            · subst e
              rw [HT.out]
              simp [matchR, e2]
            · exact HQ.out j hj (by omega))
          go_wp2_with fail
          go_roundg (n - (k + 1))
          case measure => exact measD HR.out HLT.out
          case rel => exact ⟨k + 1, HLT.out, rfl, by first | rfl | (rw [wk]; rfl), rfl, NX⟩
      · have hb : (tid == id) = false := by simpa using e1
        have NX : Hid (∀ j (hj : j < L.length), j < k + 1 → matchR id mark L[j] = false) := Lib.hid (fun j hj hjk => by
          by_cases e : j = k
          · subst e
            rw [HT.out]
            simp [matchR, e1]
          · exact HQ.out j hj (by omega))
        go_wp2_with fail
        go_roundg (n - (k + 1))
        case measure => exact measD HR.out HLT.out
        case rel => exact ⟨k + 1, HLT.out, rfl, by first | rfl | (rw [wk]; rfl), rfl, NX⟩
    · obtain rfl : n = k := by omega
      have FIN : Hid (posR L id mark = none) := Lib.hid (posR_none (fun j hj => hq.out j hj (by rw [← HN.out]; exact hj)))
      clear hq hk hlt HR
      go_wp2_with fail
      go_ret
      exact ⟨by rw [FIN.out]; rfl, rfl⟩
/-- Things that may be read. -/
def RTsAt (w : World) (v : Value) (L : List RT) : Prop := ∃ a cap, v = .slice a L.length cap ∧ ∀ i (hi : i < L.length), ∃ b off, a = some ⟨b, off, none⟩ ∧ ∀ j u, (L[i].cells)[j]? = some u → w.cell? ⟨b, off + i * 6 + j, none⟩ = some u
theorem RTsAt.below {w w' : World} {v : Value} {L : List RT} (h : RTsAt w v L) (hb : Below w.heap.size w w') : RTsAt w' v L := by
  obtain ⟨a, cap, e, g⟩ := h
  refine ⟨a, cap, e, fun i hi => ?_⟩
  obtain ⟨b, off, h1, h2⟩ := g i hi
  refine ⟨b, off, h1, fun j u hu => ?_⟩
  have h3 := h2 j u hu
  rw [hb.cell (p := ⟨b, off + i * 6 + j, none⟩) (World.block_lt_of_cell? w _ h3)]
  exact h3
theorem rts_own {w : World} {B c : Nat} {a : Option Addr} {L : List RT} (h : w.ownsRow B 92 6 (.slice a L.length c) L.length (rc6 L)) : RTsAt w (.slice a L.length c) L :=
  ⟨a, c, rfl, fun i hi => by
    obtain ⟨g, e, gx⟩ := rt_at h i hi
    exact ⟨g, 0, e, fun j u hu => by rw [Nat.zero_add]; exact gx j u hu⟩⟩
theorem rts_drop {w : World} {B c c' g i : Nat} {L : List RT} (h : w.ownsRow B 92 6 (.slice (some ⟨g, 0, none⟩) L.length c) L.length (rc6 L)) (hi : i ≤ L.length) : RTsAt w (.slice (some ⟨g, i * 6, none⟩) (L.length - i) c') (L.drop i) := by
  refine ⟨_, c', by rw [List.length_drop], fun k hk => ⟨g, i * 6, rfl, fun j u hu => ?_⟩⟩
  rw [List.length_drop] at hk
  obtain ⟨g', e, gx⟩ := rt_at h (i + k) (by omega)
  cases e
  rw [List.getElem_drop] at hu
  have := gx j u hu
  rw [show i * 6 + k * 6 + j = (i + k) * 6 + j by omega]
  exact this
theorem lastR_cons (t : RT) (L : List RT) : lastR (t :: L) = lastR L ++ (if t.mark then [] else [t]) := by
  unfold lastR
  cases h : t.mark <;> simp [h]
theorem lastR_le (L : List RT) : (lastR L).length ≤ L.length := by
  unfold lastR
  rw [List.length_reverse]
  exact List.length_filter_le _ _
theorem infoRT : (Try.prog.info? 92).map (fun i => (i.zero, i.size, i.bytes)) = some (some (.agg #[.int .i64 0, .bool false, .string .empty, .int .i64 0, .bool false, .string .empty]), 6, 64) := by kernel_rfl
theorem roomD {n : Nat} (h : n ≤ 256) : n + 1 ≤ maxLen ∧ (n + 1) * 64 ≤ 140737488355328 ∧ (n + 1) * 16 ≤ 140737488355328 := by unfold maxLen; omega
theorem idxE {k n : Nat} (h : k + 1 ≤ n) (hn : n ≤ 256) : (0 : Int) ≤ (k : Int) ∧ (k : Int) < (n : Int) ∧ wrap64 ((k : Int) - 1) = (k : Int) - 1 ∧ (k : Int) ≥ 0 := ⟨by omega, by omega, IntWalk.wrap64_in _ (by omega), by omega⟩
set_option maxHeartbeats 4000000 in
set_option maxRecDepth 100000 in
theorem rlast_any {w : World} {v : Value} {L : List RT} (hv : RTsAt w v L) (hl : L.length ≤ 256) :
    Calls Try.prog 47 #[v] w fun e w' => ∃ vo, e = .returned vo ∧ w'.ownsRow w.heap.size 92 6 vo (lastR L).length (rc6 (lastR L)) ∧ Below w.heap.size w w' := by
  obtain ⟨ir, hir, hz0, hz1, hz2⟩ := info_parts infoRT
  have HV := Lib.hid hv
  obtain ⟨a, c, rfl, hg⟩ := hv
  obtain ⟨n, hn⟩ : ∃ n, L.length = n := ⟨_, rfl⟩
  have HN := Lib.hid hn
  have HL : Hid (n ≤ 256) := Lib.hid (by rw [← hn]; exact hl)
  have HG := Lib.hid hg
  have wn : wrap64 ((n : Int) - 1) = (n : Int) - 1 := IntWalk.wrap64_in _ (by have := HL.out; omega)
  rw [hn]
  clear hg hn hl
  go_enter Try.func47, Try.ntmps47
  go_wp2_with fail
  go_loopg [3, 4] n (fun r v3 v4 wr => ∃ k : Nat, k ≤ n ∧ r = k ∧ v4 = .int .i64 ((k : Int) - 1) ∧ Hid (Below w.heap.size w wr ∧ wr.ownsRow w.heap.size 92 6 v3 (lastR (L.drop k)).length (rc6 (lastR (L.drop k)))))
  case atStart => exact ⟨n, Nat.le_refl _, rfl, by rw [wn], Lib.hid ⟨Below.refl _ _, by rw [List.drop_of_length_le (by rw [HN.out]; exact Nat.le_refl _)]; exact World.ownsRow_nil _ _ _ _⟩⟩
  case round =>
    clear wn
    obtain ⟨k, hk, hr, rfl, hq⟩ := hrel
    have HR := Lib.hid hr
    clear hr
    cases k with
    | succ k =>
      have hkL : k < L.length := by rw [HN.out]; omega
      obtain ⟨b, off, hp, g0⟩ := HG.out k hkL
      subst hp
      obtain ⟨⟨tid, tm, tn, tc, tp, tw⟩, ht⟩ : ∃ t, L[k] = t := ⟨_, rfl⟩
      rw [ht] at g0
      have BW := Lib.hid hq.out.1
      have ROW := Lib.hid hq.out.2
      have gx : ∀ j (u : Value), (RT.cells ⟨tid, tm, tn, tc, tp, tw⟩)[j]? = some u → wr.cell? ⟨b, off + k * 6 + j, none⟩ = some u := fun j u hu => by
        have h3 := g0 j u hu
        rw [BW.out.cell (p := ⟨b, off + k * 6 + j, none⟩) (World.block_lt_of_cell? w _ h3)]
        exact h3
      have d0 : wr.cell? ⟨b, off + k * 6, none⟩ = some (.int .i64 tid) := gx 0 _ rfl
      have d1 : wr.cell? ⟨b, off + k * 6 + 1, none⟩ = some (.bool tm) := gx 1 _ rfl
      have d2 : wr.cell? ⟨b, off + k * 6 + 2, none⟩ = some (.string tn) := gx 2 _ rfl
      have d3 : wr.cell? ⟨b, off + k * 6 + 3, none⟩ = some (.int .i64 tc) := gx 3 _ rfl
      have d4 : wr.cell? ⟨b, off + k * 6 + 4, none⟩ = some (.bool tp) := gx 4 _ rfl
      have d5 : wr.cell? ⟨b, off + k * 6 + 5, none⟩ = some (.string tw) := gx 5 _ rfl
      obtain ⟨h1, h2, wk, h3⟩ := idxE hk HL.out
      have hkk : ((k + 1 : Nat) : Int) - 1 = (k : Int) := by omega
      have EQ : Hid (lastR (L.drop k) = lastR (L.drop (k + 1)) ++ (if tm then [] else [⟨tid, tm, tn, tc, tp, tw⟩])) := Lib.hid (by
        rw [List.drop_eq_getElem_cons hkL, lastR_cons, ht])
      have HLE : Hid ((lastR (L.drop (k + 1))).length ≤ 256) := Lib.hid (Nat.le_trans (lastR_le _) (by rw [List.length_drop, HN.out]; have := HL.out; omega))
      have HK := Lib.hid hk
      clear gx g0 ht hq hkL hk
      rw [hkk]
      clear hkk
      cases tm with
      | true =>
        have FIN : Hid (wr.ownsRow w.heap.size 92 6 u3 (lastR (L.drop k)).length (rc6 (lastR (L.drop k)))) := Lib.hid (by rw [EQ.out]; simpa using ROW.out)
        go_wp2_with fail
        go_roundg k
        case measure => rw [HR.out]; exact Nat.lt_succ_self k
        case rel => exact ⟨k, Nat.le_of_succ_le HK.out, rfl, by first | rfl | (rw [wk]; rfl), Lib.hid ⟨BW.out, FIN.out⟩⟩
      | false =>
        obtain ⟨mm, hmm⟩ : ∃ mm, (lastR (L.drop (k + 1))).length = mm := ⟨_, rfl⟩
        have HMM := Lib.hid hmm
        rw [hmm] at ROW HLE
        obtain ⟨hb1, hb2, hb3⟩ := roomD HLE.out
        have hz : w.heap.size ≤ wr.heap.size := BW.out.size
        clear hmm
        go_wp2_with (refine wpList_append_lies _ rfl (.tmp 18) (.tmp 23) 27 rfl w.heap.size 92 ir _ 6 64 Try.underlying27 hir hz0 hz1 hz2 rfl (by decide) u3 mm (rc6 (lastR (L.drop (k + 1)))) rfl (ROW.out.alloc _) ⟨wr.heap.size, 0, none⟩ 1 1 (RT.cells ⟨tid, false, tn, tc, tp, tw⟩) (by rfl) rfl (World.news_of_block (cs := (RT.cells ⟨tid, false, tn, tc, tp, tw⟩).toArray) (t := 92) (fr := (0, 0)) (heap_alloc_new wr _)) (by simp [RT.cells, Value.oneCell']) (by decide) hb1 hb2 (by simp; omega) (wr.heap.size + 1) (by simp) ?_)
        intro g2 cap2 w2 hrow2 hgrow2 hat2 hlt2
        have BA := ((Below.refl wr.heap.size wr).alloc (Nat.le_refl _) (.cells (RT.cells ⟨tid, false, tn, tc, tp, tw⟩).toArray 92 (0, 0)))
        have FIN : Hid (Below w.heap.size w w2 ∧ w2.ownsRow w.heap.size 92 6 (.slice (some ⟨g2, 0, none⟩) (mm + 1) cap2) (lastR (L.drop k)).length (rc6 (lastR (L.drop k)))) := Lib.hid (by
          refine ⟨(BW.out.trans (BA.mono hz)).grown hgrow2 (Nat.le_trans hz (by simp)) (fun j hj => (ROW.out.lt j hj).1), ?_⟩
          rw [EQ.out, rc6_append]
          simp only [Bool.false_eq_true, if_false, List.length_append, List.length_singleton, HMM.out]
          simpa [rc6] using hrow2)
        clear hrow2 hgrow2 hat2 hlt2 BA ROW BW d0 d1 d2 d3 d4 d5
        go_wp2_with fail
        go_roundg k
        case measure => rw [HR.out]; exact Nat.lt_succ_self k
        case rel => exact ⟨k, Nat.le_of_succ_le HK.out, rfl, by first | rfl | (rw [wk]; rfl) | rw [wk], FIN⟩
    | zero =>
      have FIN := Lib.hid hq.out
      clear hq hk HR
      go_wp2_with fail
      go_ret
      exact ⟨_, rfl, by simpa using FIN.out.2, FIN.out.1⟩
def heldR (L : List RT) : List ByteArray := (L.filter fun t => !t.mark).map (·.name)
theorem heldR_snoc (L : List RT) (t : RT) : heldR (L ++ [t]) = heldR L ++ (if t.mark then [] else [t.name]) := by
  unfold heldR
  cases h : t.mark <;> simp [h]
theorem heldR_le (L : List RT) : (heldR L).length ≤ L.length := by
  unfold heldR
  rw [List.length_map]
  exact List.length_filter_le _ _
set_option maxHeartbeats 4000000 in
set_option maxRecDepth 100000 in
theorem rheld_any {w : World} {B m : Nat} {L : List RT} {last : Int} {closed : Bool} (h : RBagAt w B m L last closed) (hl : L.length ≤ 256) :
    Calls Try.prog 13 #[.pointer (some ⟨m, 0, none⟩)] w fun e w' => ∃ v, e = .returned v ∧ w'.ownsRow w.heap.size 9 1 v (heldR L).length (sc (heldR L)) ∧ Below w.heap.size w w' := by
  obtain ⟨ir, hir, hz0, hz1, hz2⟩ := info_parts infoS
  obtain ⟨a, c, c0, _, _, ho⟩ := h.cells
  have C0 := Lib.hid c0
  have HO := Lib.hid ho
  obtain ⟨n, hn⟩ : ∃ n, L.length = n := ⟨_, rfl⟩
  have HN := Lib.hid hn
  have HL : Hid (n ≤ 256) := Lib.hid (by rw [← hn]; exact hl)
  have HM := Lib.hid h.lt
  clear h ho hn hl c0
  go_enter Try.func13, Try.ntmps13
  go_wp2_with fail
  go_loopg [3, 4] n (fun r v3 v4 wr => ∃ k : Nat, k ≤ n ∧ r = n - k ∧ v4 = .int .i64 k ∧ Hid (Below w.heap.size w wr ∧ wr.ownsRow w.heap.size 9 1 v3 (heldR (L.take k)).length (sc (heldR (L.take k)))))
  case atStart => exact ⟨0, Nat.zero_le _, rfl, rfl, Lib.hid ⟨Below.refl _ _, World.ownsRow_nil _ _ _ _⟩⟩
  case round =>
    obtain ⟨k, hk, hr, rfl, hq⟩ := hrel
    have HR := Lib.hid hr
    clear hr
    have BW := Lib.hid hq.out.1
    have ROW := Lib.hid hq.out.2
    have e0 : wr.cell? ⟨m, 0, none⟩ = some (.slice a n c) := by
      rw [BW.out.cell (p := ⟨m, 0, none⟩) HM.out, C0.out, HN.out]
    by_cases hlt : k < n
    · have hkL : k < L.length := by rw [HN.out]; exact hlt
      obtain ⟨g, rfl, g0⟩ := rt_at HO.out k hkL
      obtain ⟨⟨tid, tm, tn, tc, tp, tw⟩, ht⟩ : ∃ t, L[k] = t := ⟨_, rfl⟩
      rw [ht] at g0
      have gx : ∀ j (u : Value), (RT.cells ⟨tid, tm, tn, tc, tp, tw⟩)[j]? = some u → wr.cell? ⟨g, k * 6 + j, none⟩ = some u := fun j u hu => by
        have h3 := g0 j u hu
        rw [BW.out.cell (p := ⟨g, k * 6 + j, none⟩) (World.block_lt_of_cell? w _ h3)]
        exact h3
      have d1 : wr.cell? ⟨g, k * 6 + 1, none⟩ = some (.bool tm) := gx 1 _ rfl
      have d2 : wr.cell? ⟨g, k * 6 + 2, none⟩ = some (.string tn) := gx 2 _ rfl
      obtain ⟨h1, h2, wk⟩ := idxD hlt HL.out
      have EQ : Hid (heldR (L.take (k + 1)) = heldR (L.take k) ++ (if tm then [] else [tn])) := Lib.hid (by
        rw [List.take_succ_eq_append_getElem hkL, heldR_snoc, ht])
      have HLT := Lib.hid hlt
      have HLE : Hid ((heldR (L.take k)).length ≤ 256) := Lib.hid (Nat.le_trans (heldR_le _) (by rw [List.length_take]; have := HL.out; omega))
      clear gx g0 ht hq hk hlt
      cases tm with
      | true =>
        have FIN : Hid (wr.ownsRow w.heap.size 9 1 u3 (heldR (L.take (k + 1))).length (sc (heldR (L.take (k + 1))))) := Lib.hid (by rw [EQ.out]; simpa using ROW.out)
        go_wp2_with fail
        go_roundg (n - (k + 1))
        case measure => exact measD HR.out HLT.out
        case rel => exact ⟨k + 1, HLT.out, rfl, by first | rfl | (rw [wk]; rfl), Lib.hid ⟨BW.out, FIN.out⟩⟩
      | false =>
        obtain ⟨mm, hmm⟩ : ∃ mm, (heldR (L.take k)).length = mm := ⟨_, rfl⟩
        have HMM := Lib.hid hmm
        rw [hmm] at ROW HLE
        obtain ⟨hb1, hb2, hb3⟩ := roomD HLE.out
        have hz : w.heap.size ≤ wr.heap.size := BW.out.size
        clear hmm
        go_wp2_with (refine wpList_append_lies _ rfl (.tmp 23) (.tmp 32) 37 rfl w.heap.size 9 ir _ 1 16 Try.underlying37 hir hz0 hz1 hz2 rfl (by decide) u3 mm (sc (heldR (L.take k))) rfl (ROW.out.alloc _) ⟨wr.heap.size, 0, none⟩ 1 1 [.string tn] (by rfl) rfl (World.news_of_block (cs := #[.string tn]) (t := 9) (fr := (0, 0)) (heap_alloc_new wr _)) (by simp [Value.oneCell']) (by decide) hb1 hb3 (by simp; omega) (wr.heap.size + 1) (by simp) ?_)
        intro g2 cap2 w2 hrow2 hgrow2 hat2 hlt2
        have BA := ((Below.refl wr.heap.size wr).alloc (Nat.le_refl _) (.cells #[.string tn] 9 (0, 0)))
        have FIN : Hid (Below w.heap.size w w2 ∧ w2.ownsRow w.heap.size 9 1 (.slice (some ⟨g2, 0, none⟩) (mm + 1) cap2) (heldR (L.take (k + 1))).length (sc (heldR (L.take (k + 1))))) := Lib.hid (by
          refine ⟨(BW.out.trans (BA.mono hz)).grown hgrow2 (Nat.le_trans hz (by simp)) (fun j hj => (ROW.out.lt j hj).1), ?_⟩
          rw [EQ.out]
          simp only [Bool.false_eq_true, if_false, List.length_append, List.length_singleton, HMM.out]
          simpa [sc] using hrow2)
        clear hrow2 hgrow2 hat2 hlt2 BA ROW BW d1 d2
        go_wp2_with fail
        go_roundg (n - (k + 1))
        case measure => exact measD HR.out HLT.out
        case rel => exact ⟨k + 1, HLT.out, rfl, by first | rfl | (rw [wk]; rfl) | rw [wk], FIN⟩
    · obtain rfl : n = k := by omega
      have FIN := Lib.hid (show wr.ownsRow w.heap.size 9 1 u3 (heldR L).length (sc (heldR L)) by
        have := ROW.out
        rw [List.take_of_length_le (by rw [HN.out]; exact Nat.le_refl _)] at this
        exact this)
      clear hq hk hlt HR ROW
      go_wp2_with fail
      go_ret
      exact ⟨_, rfl, FIN.out, BW.out⟩
end Go.Proofs.Ytnkababhgloclaa
