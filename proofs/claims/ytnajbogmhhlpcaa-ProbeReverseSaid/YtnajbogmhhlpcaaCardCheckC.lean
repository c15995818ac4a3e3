/- card.Check. -/
import Derived.Test.YtnajbogmhhlpcaaMapB
import Derived.Carry
namespace Go.Proofs.Ytnajbogmhhlpcaa
open Go.RowKit Go.Lib Tx Nm Go.Maps
/-- A card laid in a new block. -/
def boxW (w : World) (n f : ByteArray) (l : Int) (sl : Value) (s : Int) (q : ByteArray) (e : Int) : World := w.alloc (.cells #[.string n, .string f, .int .u8 l, sl, .int .i8 s, .string q, .int .i16 e] 50)
theorem boxW_size (w : World) (n f : ByteArray) (l : Int) (sl : Value) (s : Int) (q : ByteArray) (e : Int) : (boxW w n f l sl s q e).heap.size = w.heap.size + 1 := by simp [boxW]
theorem boxW_below (w : World) (n f : ByteArray) (l : Int) (sl : Value) (s : Int) (q : ByteArray) (e : Int) : Below w.heap.size w (boxW w n f l sl s q e) := (Below.refl _ w).alloc (Nat.le_refl _) _
theorem boxW_name (w : World) (n f : ByteArray) (l : Int) (sl : Value) (s : Int) (q : ByteArray) (e : Int) : (boxW w n f l sl s q e).cell? ⟨w.heap.size, 0, none⟩ = some (.string n) := (box_cells (Below.refl _ _)).1
theorem nameB_len {s : ByteArray} (h : nameB s = true) : s.size ≤ 31 := by
  unfold nameB at h
  simp only [Bool.and_eq_true, decide_eq_true_eq] at h
  omega
theorem mayB_name {c : Cd} (h : mayB c = true) : c.name.size ≤ 31 := by
  unfold mayB at h
  simp only [Bool.and_eq_true] at h
  exact nameB_len h.1.1.1.1.1.1.1.1
set_option maxHeartbeats 8000000 in
set_option maxRecDepth 100000 in
theorem check_any (v : Value) (cs : List Cd) (w : World) (hv : CardsAt w v cs) (hok : ∀ i, i < cs.length → (nthC cs i).ok) : Calls Try.prog 42 #[v] w (Two (checkI cs) (checkE cs) w) := by
  have HV := Lib.hid hv
  have HO := Lib.hid hok
  obtain ⟨a, cap, rfl, ⟨hm, hmc⟩, _, _⟩ := hv
  unfold maxLen at hm
  have hmm := @run_makeMap Try.prog
  have B0 : Hid (Below w.heap.size w (w.alloc (.map #[] 0))) := Lib.hid ((Below.refl _ w).alloc (Nat.le_refl _) _)
  have M0 : Hid ((w.alloc (.map #[] 0)).ownsMap Try.prog 9 (plainElem Try.prog 4) w.heap.size 0 (.map [] : DataW Unit)) := Lib.hid (World.ownsMap_made _ _ _ _)
  have z0 : Hid (w.heap.size < (w.alloc (.map #[] 0)).heap.size) := Lib.hid (by simp)
  clear hok
  go_enter Try.func42, Try.ntmps42
  go_wp2_with fail
  go_loopg [5, 6, 10] cs.length (fun r _ _ vi wr => ∃ (k : Nat) (D : DataW Unit), k ≤ cs.length ∧ r = cs.length - k ∧ vi = .int .i64 k ∧ Hid (Below w.heap.size w wr ∧ wr.ownsMap Try.prog 9 (plainElem Try.prog 4) w.heap.size k D ∧ w.heap.size < wr.heap.size ∧ Says cs k D ∧ ∀ j, j < k → goodC cs j = true))
  case atStart => exact ⟨0, .map [], by omega, by omega, rfl, Lib.hid ⟨B0.out, M0.out, z0.out, says_zero cs, fun j h => by omega⟩⟩
  case round =>
    obtain ⟨k, D, hk, hr, rfl, hq⟩ := hrel
    have HR := Lib.hid hr
    have HB := Lib.hid hq.out.1
    have HM := Lib.hid hq.out.2.1
    have HZ := Lib.hid hq.out.2.2.1
    have HS := Lib.hid hq.out.2.2.2.1
    have HG := Lib.hid hq.out.2.2.2.2
    clear hr hq
    by_cases hlt : k < cs.length
    · have HVr := Lib.hid (CardsAt.below HV.out HB.out)
      obtain ⟨hx, b, off, sl, hp, g, hst⟩ := CardsAt.at HVr.out k hlt
      clear hx
      subst hp
      have HOK := Lib.hid (HO.out k hlt)
      have HST := Lib.hid hst
      clear hst
      obtain ⟨c, hc⟩ : ∃ c, nthC cs k = c := ⟨_, rfl⟩
      rw [hc] at g HOK HST
      have HC := Lib.hid hc
      obtain ⟨n, f, l, ss, sc, q, en⟩ := c
      obtain ⟨al, caps, hsl, _, _, _, _⟩ := HST.out
      simp only at hsl
      subst hsl
      have g0 : wr.cell? ⟨b, off + k * 7, none⟩ = some (.string n) := g 0 _ rfl
      have g1 : wr.cell? ⟨b, off + k * 7 + 1, none⟩ = some (.string f) := g 1 _ rfl
      have g2 : wr.cell? ⟨b, off + k * 7 + 2, none⟩ = some (.int .u8 l) := g 2 _ rfl
      have g3 : wr.cell? ⟨b, off + k * 7 + 3, none⟩ = some (.slice al ss.length caps) := g 3 _ rfl
      have g4 : wr.cell? ⟨b, off + k * 7 + 4, none⟩ = some (.int .i8 sc) := g 4 _ rfl
      have g5 : wr.cell? ⟨b, off + k * 7 + 5, none⟩ = some (.string q) := g 5 _ rfl
      have g6 : wr.cell? ⟨b, off + k * 7 + 6, none⟩ = some (.int .i16 en) := g 6 _ rfl
      clear hc g
      have hkc1 : (0 : Int) ≤ (k : Int) := by omega
      have hkc2 : (k : Int) < (cs.length : Int) := by omega
      by_cases h64 : 64 ≤ k
      · obtain ⟨y1, y2⟩ := firstBad_some hlt HG.out (goodC_big h64)
        have HF := Lib.hid (And.intro y1 y2)
        have e1 : decide ((k : Int) ≥ 64) = true := decide_eq_true (by omega)
        have e2 : (64 : Int) ≤ (k : Int) := by omega
        clear y1 y2
        go_wp2_with fail
        go_ret2
        exact ⟨by rw [HF.out.1, HF.out.2]; rfl, HB.out.trans ((boxW_below wr n f l (.slice al ss.length caps) sc q en).mono HB.out.size)⟩
      have e1 : decide ((k : Int) ≥ 64) = false := decide_eq_false (by omega)
      have e2 : ¬ (64 : Int) ≤ (k : Int) := by omega
      obtain ⟨m, hmay⟩ : ∃ m, mayB ⟨n, f, l, ss, sc, q, en⟩ = m := ⟨_, rfl⟩
      have CM := may_walk n f q l sc en ss (.slice al ss.length caps) (boxW wr n f l (.slice al ss.length caps) sc q en) (HST.out.below (boxW_below wr n f l (.slice al ss.length caps) sc q en)) HOK.out
      rw [hmay] at CM
      have CM := Lib.hid CM
      have HMY := Lib.hid hmay
      clear hmay
      cases m with
      | false =>
        obtain ⟨y1, y2⟩ := firstBad_some hlt HG.out (goodC_may (by rw [HC.out]; exact HMY.out))
        have HF := Lib.hid (And.intro y1 y2)
        clear y1 y2
        go_wp2_with fail
        refine CM.out.mono ?_
        rintro er w1 ⟨rfl, hb⟩
        have B1 : Hid (Below wr.heap.size wr w1) := Lib.hid ((boxW_below wr n f l (.slice al ss.length caps) sc q en).trans (hb.mono (by rw [boxW_size]; omega)))
        clear hb
        go_wp2_with fail
        go_ret2
        exact ⟨by rw [HF.out.1, HF.out.2]; rfl, HB.out.trans (B1.out.mono HB.out.size)⟩
      | true =>
        obtain ⟨nb, hnb⟩ : ∃ nb, namedB (cs.take k) n = nb := ⟨_, rfl⟩
        have HNB := Lib.hid hnb
        have HAT : Hid (D.atKey (keyL n) (.lit (.bool false)) = .lit (.bool nb)) := Lib.hid (by rw [HS.out n, hnb])
        have HKEY : Hid (keyOf Try.prog 9 (.string n) = some (keyL n)) := Lib.hid (WideMaps.keyOf_string_mk Try.underlying9 (by have := mayB_name HMY.out; unfold maxLen; simp only at this; omega))
        have hkm : k < maxLen := by unfold maxLen; omega
        clear hnb
        go_wp2_with fail
        refine CM.out.mono ?_
        rintro er w1 ⟨rfl, hb⟩
        have k0 : w1.cell? ⟨wr.heap.size, 0, none⟩ = some (.string n) := (hb.cell (p := ⟨wr.heap.size, 0, none⟩) (by rw [boxW_size]; simp)).trans (boxW_name wr n f l (.slice al ss.length caps) sc q en)
        have B1 : Hid (Below wr.heap.size wr w1) := Lib.hid ((boxW_below wr n f l (.slice al ss.length caps) sc q en).trans (hb.mono (by rw [boxW_size]; omega)))
        have M1 : Hid (w1.ownsMap Try.prog 9 (plainElem Try.prog 4) w.heap.size k D) := Lib.hid (owns_same HM.out (B1.out.block _ HZ.out))
        have s1 : Hid (wr.heap.size ≤ w1.heap.size) := Lib.hid B1.out.size
        clear hb
        cases nb with
        | true =>
          obtain ⟨y1, y2⟩ := firstBad_some hlt HG.out (goodC_named (by rw [HC.out]; exact HNB.out))
          have HF := Lib.hid (And.intro y1 y2)
          clear y1 y2
          go_wp2_with (at_lookup; refine wpList_lookup_bool_if _ (by rfl) (.tmp 23) (.tmp 25) 117 (by rfl) 9 4 lawS Try.underlying117 Try.underlying4 (zeroB _) w.heap.size k D (by rfl) M1.out (.string n) (keyL n) (by rfl) HKEY.out true HAT.out ?_)
          go_ret2
          exact ⟨by rw [HF.out.1, HF.out.2]; rfl, HB.out.trans (B1.out.mono HB.out.size)⟩
        | false =>
          have HG1 : Hid (∀ j, j < k + 1 → goodC cs j = true) := Lib.hid (fun j hj => by
            by_cases e : j = k
            · subst e; exact goodC_yes (by omega) (by rw [HC.out]; exact HMY.out) (by rw [HC.out]; exact HNB.out)
            · exact HG.out j (by omega))
          go_wp2_with (first
            | (at_lookup; refine wpList_lookup_bool_if _ (by rfl) (.tmp 23) (.tmp 25) 117 (by rfl) 9 4 lawS Try.underlying117 Try.underlying4 (zeroB _) w.heap.size k D (by rfl) M1.out (.string n) (keyL n) (by rfl) HKEY.out false HAT.out ?_)
            | (at_mapUpdate; refine wpList_mapUpdate_own _ rfl _ _ _ 117 rfl 9 4 lawS Try.underlying117 _ w.heap.size k _ rfl M1.out hkm _ _ _ rfl rfl HKEY.out _ [] (plainElem_bool Try.underlying4 true) ?_))
          intro w2 hown2 hgrow2
          have M2 := Lib.hid hown2
          have B2 : Hid (Below w.heap.size w w2) := Lib.hid ((HB.out.trans (B1.out.mono HB.out.size)).grown hgrow2 (by have := HZ.out; have := s1.out; omega) (fun j hj => by cases hj; exact Nat.le_refl _))
          have Z2 : Hid (w.heap.size < w2.heap.size) := Lib.hid (Nat.lt_of_lt_of_le HZ.out (Nat.le_trans s1.out hgrow2.size))
          have S2 : Hid (Says cs (k + 1) (D.put (keyL n) (.lit (.bool true)))) := Lib.hid (by
            have := says_next hlt HS.out (hown2 |> fun _ => M1.out.isMap)
            rw [HC.out] at this
            exact this)
          clear hown2 hgrow2
          go_wp2_with fail
          go_roundg (cs.length - (k + 1))
          case measure => rw [HR.out]; omega
          case rel => exact ⟨k + 1, _, by omega, rfl, by first | rfl | simp, Lib.hid ⟨B2.out, M2.out, Z2.out, S2.out, HG1.out⟩⟩
    · obtain rfl : k = cs.length := by omega
      obtain ⟨f1, f2⟩ := firstBad_none HG.out
      have HF := Lib.hid (And.intro f1 f2)
      clear f1 f2
      go_wp2_with fail
      go_ret2
      exact ⟨by rw [HF.out.1, HF.out.2]; rfl, HB.out⟩
end Go.Proofs.Ytnajbogmhhlpcaa
