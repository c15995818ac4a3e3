/- A probe whose card may not be, or whose fates may not be. -/
import Derived.Test.YtnajbogmhhlpcaaFateC
import Derived.Test.YtnajbogmhhlpcaaStepsC
import Derived.Test.YtnajbogmhhlpcaaCardCheckC
namespace Go.Proofs.Ytnajbogmhhlpcaa
open Go.RowKit Go.ChangeShapes
theorem checkE_one (c : Cd) : checkE [c] = (if mayB c then 0 else 70) := by
  cases hm : mayB c with
  | true =>
    have := (firstBad_none (cs := [c]) (fun j hj => by
      have hj0 : j = 0 := by simpa using hj
      subst hj0
      exact goodC_yes (by omega) (by simpa [nthC] using hm) (by simp [namedB]))).2
    simpa using this
  | false =>
    have := (firstBad_some (cs := [c]) (k := 0) (by simp) (fun j hj => by omega) (goodC_may (by simpa [nthC] using hm))).2
    simpa using this
def zo6 : List Value := [.bool false, .int .i64 0, .int .u8 0, .slice none 0 0, .slice none 0 0, .slice none 0 0]
/-- The world when Probe has laid its boxes and the row of its one card. -/
theorem probe_start (n f q : ByteArray) (l s e : Int) (ss : List ByteArray) (a : Option Addr) (len cap : Nat) (vf : Value) (w : World) (hs : Strs w (.slice a len cap) ss) :
    ∀ wA, wA = (((w.alloc (.cells #[.string n, .string f, .int .u8 l, .slice a len cap, .int .i8 s, .string q, .int .i16 e] 50)).alloc (.cells #[vf] 52)).alloc (.cells #[.bool false, .int .i64 0, .int .u8 0, .slice none 0 0, .slice none 0 0, .slice none 0 0] 56)).alloc (.cells #[.string n, .string f, .int .u8 l, .slice a len cap, .int .i8 s, .string q, .int .i16 e] 50) →
    Below w.heap.size w wA ∧ wA.heap.size = w.heap.size + 4 ∧ wA.heap[w.heap.size]? = some (.cells #[.string n, .string f, .int .u8 l, .slice a len cap, .int .i8 s, .string q, .int .i16 e] 50 (0, 0)) ∧ wA.heap[w.heap.size + 1]? = some (.cells #[vf] 52 (0, 0)) ∧ wA.heap[w.heap.size + 1 + 1]? = some (.cells #[.bool false, .int .i64 0, .int .u8 0, .slice none 0 0, .slice none 0 0, .slice none 0 0] 56 (0, 0)) ∧ CardsAt wA (.slice (some ⟨w.heap.size + 1 + 1 + 1, 0, none⟩) 1 1) [⟨n, f, l, ss, s, q, e⟩] := by
  rintro wA rfl
  have b1 : Below w.heap.size w (w.alloc (.cells #[.string n, .string f, .int .u8 l, .slice a len cap, .int .i8 s, .string q, .int .i16 e] 50)) := (Below.refl _ w).alloc (Nat.le_refl _) _
  have b2 := b1.alloc (by simp) (.cells #[vf] 52)
  have b3 := b2.alloc (by simp; omega) (.cells #[.bool false, .int .i64 0, .int .u8 0, .slice none 0 0, .slice none 0 0, .slice none 0 0] 56)
  have b4 := b3.alloc (by simp; omega) (.cells #[.string n, .string f, .int .u8 l, .slice a len cap, .int .i8 s, .string q, .int .i16 e] 50)
  refine ⟨b4, by simp, ?_, ?_, ?_, ?_⟩
  · rw [heap_alloc_old' _ _ (by simp; omega), heap_alloc_old' _ _ (by simp; omega), heap_alloc_old' _ _ (by simp)]
    exact heap_alloc_new w _
  · rw [heap_alloc_old' _ _ (by simp), heap_alloc_old' _ _ (by simp)]
    exact heap_alloc2_new w _ _
  · rw [heap_alloc_old' _ _ (by simp)]
    have := heap_alloc_new ((w.alloc (.cells #[.string n, .string f, .int .u8 l, .slice a len cap, .int .i8 s, .string q, .int .i16 e] 50)).alloc (.cells #[vf] 52)) (.cells #[.bool false, .int .i64 0, .int .u8 0, .slice none 0 0, .slice none 0 0, .slice none 0 0] 56)
    simpa using this
  · have hh := heap_alloc_new (((w.alloc (.cells #[.string n, .string f, .int .u8 l, .slice a len cap, .int .i8 s, .string q, .int .i16 e] 50)).alloc (.cells #[vf] 52)).alloc (.cells #[.bool false, .int .i64 0, .int .u8 0, .slice none 0 0, .slice none 0 0, .slice none 0 0] 56)) (.cells #[.string n, .string f, .int .u8 l, .slice a len cap, .int .i8 s, .string q, .int .i16 e] 50)
    have hz : (((w.alloc (.cells #[.string n, .string f, .int .u8 l, .slice a len cap, .int .i8 s, .string q, .int .i16 e] 50)).alloc (.cells #[vf] 52)).alloc (.cells #[.bool false, .int .i64 0, .int .u8 0, .slice none 0 0, .slice none 0 0, .slice none 0 0] 56)).heap.size = w.heap.size + 1 + 1 + 1 := by simp
    rw [hz] at hh
    refine ⟨some ⟨w.heap.size + 1 + 1 + 1, 0, none⟩, 1, rfl, ⟨by unfold maxLen; simp, by simp⟩, (fun h => by cases h), fun i hi => ?_⟩
    have hi0 : i = 0 := by simpa using hi
    subst hi0
    refine ⟨w.heap.size + 1 + 1 + 1, 0, .slice a len cap, rfl, fun j u hu => ?_, hs.below b4⟩
    rw [Nat.zero_mul, Nat.add_zero, Nat.zero_add]
    exact (cell_of_row _ _ j _ _ _ hh).trans (by simpa [Cd.cells] using hu)
set_option maxHeartbeats 8000000 in
set_option maxRecDepth 100000 in
theorem probe_card (n f q : ByteArray) (l s e : Int) (ss : List ByteArray) (sl : Value) (vf : Value) (w : World) (hs : Strs w sl ss) (hok : Cd.ok ⟨n, f, l, ss, s, q, e⟩) (hm : mayB ⟨n, f, l, ss, s, q, e⟩ = false) (hvf : ∃ a n c, vf = .slice a n c) :
    Calls Try.prog 17 #[.agg #[.string n, .string f, .int .u8 l, sl, .int .i8 s, .string q, .int .i16 e], vf] w fun e w' => e = .returned (.tuple #[.agg zo6.toArray, .int .i64 70]) ∧ Below w.heap.size w w' := by
  obtain ⟨fa, fn, fc, rfl⟩ := hvf
  have hs' := hs
  obtain ⟨a, cap, rfl, _⟩ := hs'
  obtain ⟨b1, z1, h0, h1, h2, hc⟩ := probe_start n f q l s e ss a ss.length cap (.slice fa fn fc) w hs _ rfl
  have CC := check_any _ _ _ hc (fun i hi => by
    have hi0 : i = 0 := by simpa using hi
    subst hi0
    simpa [nthC] using hok)
  rw [checkE_one, hm] at CC
  have CC := Lib.hid CC
  have B1 := Lib.hid b1
  have Z1 := Lib.hid z1
  have H2 := Lib.hid h2
  have hzz : w.heap.size + 1 + 1 < w.heap.size + 4 := by omega
  have HZZ := Lib.hid hzz
  clear hs b1 z1 h0 h1 h2 hc hm hok hzz
  go_enter Try.func17, Try.ntmps17
  go_wp2_with fail
  refine CC.out.mono ?_
  rintro er w2 ⟨rfl, hb⟩
  have B2 := Lib.hid (B1.out.trans (hb.mono B1.out.size))
  have P2 := Lib.hid ((hb.block (w.heap.size + 1 + 1) (by rw [Z1.out]; exact HZZ.out)).trans H2.out)
  have TH : Hid (w2.there (w.heap.size + 1 + 1) 0 6) := Lib.hid (fun j hj => ⟨by
    rw [cell_of_row _ _ _ _ _ _ P2.out]
    exact Option.isSome_iff_exists.2 ⟨_, Array.getElem?_eq_getElem (by simp; omega)⟩, frozen_of_row _ _ _ _ _ P2.out⟩)
  clear hb
  go_wp2_with (refine wpList_store_all (by rfl) 56 (.tmp 4) (.tmp 27) (by rfl) (w.heap.size + 1 + 1) 0 zo6 (by kernel_rfl) (by kernel_rfl) TH.out (by kernel_rfl) (by simp [zo6, Value.oneCell']) ?_)
  intro W4 HW4
  have hh4 := heap_setCells_same zo6 w2 0 _ P2.out
  have P4 : Hid (W4.heap[w.heap.size + 1 + 1]? = some (.cells zo6.toArray 56 (0, 0)) ∧ Below w.heap.size w W4) := Lib.hid (by
    rw [HW4.out]
    exact ⟨hh4, B2.out.trans (below_lay (Nat.le_trans (Nat.le_succ _) (Nat.le_succ _)) _ _ _)⟩)
  clear hh4
  have v0 := (cell_of_row W4 _ 0 _ _ _ P4.out.1).trans (show zo6.toArray[0]? = some (.bool false) from rfl)
  have v1 := (cell_of_row W4 _ 1 _ _ _ P4.out.1).trans (show zo6.toArray[1]? = some (.int .i64 0) from rfl)
  have v2 := (cell_of_row W4 _ 2 _ _ _ P4.out.1).trans (show zo6.toArray[2]? = some (.int .u8 0) from rfl)
  have v3 := (cell_of_row W4 _ 3 _ _ _ P4.out.1).trans (show zo6.toArray[3]? = some (.slice none 0 0) from rfl)
  have v4 := (cell_of_row W4 _ 4 _ _ _ P4.out.1).trans (show zo6.toArray[4]? = some (.slice none 0 0) from rfl)
  have v5 := (cell_of_row W4 _ 5 _ _ _ P4.out.1).trans (show zo6.toArray[5]? = some (.slice none 0 0) from rfl)
  clear HW4
  go_wp2_with fail
  refine bodyPost_ret (v := .tuple #[.agg zo6.toArray, .int .i64 70]) (by simp [results, Try.results17, go_sem, v0, v1, v2, v3, v4, v5, zo6]) rfl ?_
  exact ⟨rfl, P4.out.2⟩
set_option maxHeartbeats 8000000 in
set_option maxRecDepth 100000 in
theorem probe_many (n f q : ByteArray) (l s e : Int) (ss : List ByteArray) (sl : Value) (vf : Value) (fs : List Ft) (w : World) (hs : Strs w sl ss) (hok : Cd.ok ⟨n, f, l, ss, s, q, e⟩) (hm : mayB ⟨n, f, l, ss, s, q, e⟩ = true) (hvf : FatesAt w vf fs) (hl : 64 < fs.length) :
    Calls Try.prog 17 #[.agg #[.string n, .string f, .int .u8 l, sl, .int .i8 s, .string q, .int .i16 e], vf] w fun e w' => e = .returned (.tuple #[.agg zo6.toArray, .int .i64 1]) ∧ Below w.heap.size w w' := by
  have HF := Lib.hid hvf
  obtain ⟨fa, fc, rfl, hfc, _⟩ := hvf
  obtain ⟨nf, hnf⟩ : ∃ n, fs.length = n := ⟨_, rfl⟩
  rw [hnf] at HF hl hfc ⊢
  have hs' := hs
  obtain ⟨a, cap, rfl, _⟩ := hs'
  obtain ⟨b1, z1, h0, h1, h2, hc⟩ := probe_start n f q l s e ss a ss.length cap (.slice fa nf fc) w hs _ rfl
  have CC := check_any _ _ _ hc (fun i hi => by
    have hi0 : i = 0 := by simpa using hi
    subst hi0
    simpa [nthC] using hok)
  rw [show checkE [⟨n, f, l, ss, s, q, e⟩] = 0 by rw [checkE_one, hm]; rfl] at CC
  have CC := Lib.hid CC
  have B1 := Lib.hid b1
  have Z1 := Lib.hid z1
  have H1 := Lib.hid h1
  have H2 := Lib.hid h2
  have hzz : w.heap.size + 1 + 1 < w.heap.size + 4 := by omega
  have HZZ := Lib.hid hzz
  have hgt : (nf : Int) > 64 := by omega
  clear hl
  have HNF := Lib.hid hnf
  have HGT := Lib.hid hgt
  clear hgt
  clear hs b1 z1 h0 h1 h2 hc hm hok hzz hfc hnf
  go_enter Try.func17, Try.ntmps17
  go_wp2_with fail
  refine CC.out.mono ?_
  rintro er w2 ⟨rfl, hb⟩
  have B2 := Lib.hid (B1.out.trans (hb.mono B1.out.size))
  have Q2 := (cell_of_row w2 (w.heap.size + 1) 0 _ _ _ ((hb.block (w.heap.size + 1) (by rw [Z1.out]; have := HZZ.out; omega)).trans H1.out)).trans (show (#[Value.slice fa nf fc] : Array Value)[0]? = some (.slice fa nf fc) from rfl)
  have P2 := Lib.hid ((hb.block (w.heap.size + 1 + 1) (by rw [Z1.out]; exact HZZ.out)).trans H2.out)
  clear hb
  go_upto_region 4 with fail
  have hgt : decide ((nf : Int) > 64) = true := decide_eq_true HGT.out
  go_upto_region 5 with fail
  clear hgt Q2
  have TH : Hid (w2.there (w.heap.size + 1 + 1) 0 6) := Lib.hid (fun j hj => ⟨by
    rw [cell_of_row _ _ _ _ _ _ P2.out]
    exact Option.isSome_iff_exists.2 ⟨_, Array.getElem?_eq_getElem (by simp; omega)⟩, frozen_of_row _ _ _ _ _ P2.out⟩)
  go_wp2_with (refine wpList_store_all (by rfl) 56 (.tmp 4) (.tmp 36) (by rfl) (w.heap.size + 1 + 1) 0 zo6 (by kernel_rfl) (by kernel_rfl) TH.out (by kernel_rfl) (by simp [zo6, Value.oneCell']) ?_)
  intro W4 HW4
  have hh4 := heap_setCells_same zo6 w2 0 _ P2.out
  have P4 : Hid (W4.heap[w.heap.size + 1 + 1]? = some (.cells zo6.toArray 56 (0, 0)) ∧ Below w.heap.size w W4) := Lib.hid (by
    rw [HW4.out]
    exact ⟨hh4, B2.out.trans (below_lay (Nat.le_trans (Nat.le_succ _) (Nat.le_succ _)) _ _ _)⟩)
  clear hh4
  have v0 := (cell_of_row W4 _ 0 _ _ _ P4.out.1).trans (show zo6.toArray[0]? = some (.bool false) from rfl)
  have v1 := (cell_of_row W4 _ 1 _ _ _ P4.out.1).trans (show zo6.toArray[1]? = some (.int .i64 0) from rfl)
  have v2 := (cell_of_row W4 _ 2 _ _ _ P4.out.1).trans (show zo6.toArray[2]? = some (.int .u8 0) from rfl)
  have v3 := (cell_of_row W4 _ 3 _ _ _ P4.out.1).trans (show zo6.toArray[3]? = some (.slice none 0 0) from rfl)
  have v4 := (cell_of_row W4 _ 4 _ _ _ P4.out.1).trans (show zo6.toArray[4]? = some (.slice none 0 0) from rfl)
  have v5 := (cell_of_row W4 _ 5 _ _ _ P4.out.1).trans (show zo6.toArray[5]? = some (.slice none 0 0) from rfl)
  clear HW4
  go_wp2_with fail
  refine bodyPost_ret (v := .tuple #[.agg zo6.toArray, .int .i64 1]) (by simp [results, Try.results17, go_sem, v0, v1, v2, v3, v4, v5, zo6]) rfl ?_
  exact ⟨rfl, P4.out.2⟩
set_option maxHeartbeats 8000000 in
set_option maxRecDepth 100000 in
theorem probe_bad (n f q : ByteArray) (l s e : Int) (ss : List ByteArray) (sl : Value) (vf : Value) (fs : List Ft) (w : World) (hs : Strs w sl ss) (hok : Cd.ok ⟨n, f, l, ss, s, q, e⟩) (hm : mayB ⟨n, f, l, ss, s, q, e⟩ = true) (hvf : FatesAt w vf fs) (hl : fs.length ≤ 64) (hb : fs.any badT = true) :
    Calls Try.prog 17 #[.agg #[.string n, .string f, .int .u8 l, sl, .int .i8 s, .string q, .int .i16 e], vf] w fun e w' => e = .returned (.tuple #[.agg zo6.toArray, .int .i64 1]) ∧ Below w.heap.size w w' := by
  have HF := Lib.hid hvf
  obtain ⟨fa, fc, rfl, hfc, _⟩ := hvf
  obtain ⟨nf, hnf⟩ : ∃ n, fs.length = n := ⟨_, rfl⟩
  rw [hnf] at HF hl hfc ⊢
  have hs' := hs
  obtain ⟨a, cap, rfl, _⟩ := hs'
  obtain ⟨b1, z1, h0, h1, h2, hc⟩ := probe_start n f q l s e ss a ss.length cap (.slice fa nf fc) w hs _ rfl
  have CC := check_any _ _ _ hc (fun i hi => by
    have hi0 : i = 0 := by simpa using hi
    subst hi0
    simpa [nthC] using hok)
  rw [show checkE [⟨n, f, l, ss, s, q, e⟩] = 0 by rw [checkE_one, hm]; rfl] at CC
  have CC := Lib.hid CC
  have B1 := Lib.hid b1
  have Z1 := Lib.hid z1
  have H1 := Lib.hid h1
  have H2 := Lib.hid h2
  have hzz : w.heap.size + 1 + 1 < w.heap.size + 4 := by omega
  have HZZ := Lib.hid hzz
  have hgt : ¬ (nf : Int) > 64 := by omega
  have HBD := Lib.hid hb
  have HLL := Lib.hid hl
  clear hl hb
  have HNF := Lib.hid hnf
  have HGT := Lib.hid hgt
  clear hgt
  clear hs b1 z1 h0 h1 h2 hc hm hok hzz hfc hnf
  go_enter Try.func17, Try.ntmps17
  go_wp2_with fail
  refine CC.out.mono ?_
  rintro er w2 ⟨rfl, hb⟩
  have B2 := Lib.hid (B1.out.trans (hb.mono B1.out.size))
  have Q2 := (cell_of_row w2 (w.heap.size + 1) 0 _ _ _ ((hb.block (w.heap.size + 1) (by rw [Z1.out]; have := HZZ.out; omega)).trans H1.out)).trans (show (#[Value.slice fa nf fc] : Array Value)[0]? = some (.slice fa nf fc) from rfl)
  have P2 := Lib.hid ((hb.block (w.heap.size + 1 + 1) (by rw [Z1.out]; exact HZZ.out)).trans H2.out)
  clear hb
  go_upto_region 4 with fail
  have hgt : decide ((nf : Int) > 64) = false := decide_eq_false (by have := HGT.out; omega)
  have CN := con_any fs (.slice fa nf fc) w2 (by have h := HF.out.below B2.out; exact h) (by have := HLL.out; have := HNF.out; omega)
  rw [HBD.out] at CN
  have CN := Lib.hid CN
  go_wp2_with fail
  clear hgt
  refine CN.out.mono ?_
  rintro er w3 ⟨rfl, hb⟩
  have B3 := Lib.hid (B2.out.trans (hb.mono B2.out.size))
  have P3 := Lib.hid ((hb.block (w.heap.size + 1 + 1) (Array.getElem?_eq_some_iff.1 P2.out).1).trans P2.out)
  clear hb Q2 P2 B2 CN
  obtain ⟨w2, rfl⟩ : ∃ x : World, x = w3 := ⟨_, rfl⟩
  have P2 := P3
  have B2 := B3
  clear P3 B3
  go_upto_region 5 with fail
  have TH : Hid (w2.there (w.heap.size + 1 + 1) 0 6) := Lib.hid (fun j hj => ⟨by
    rw [cell_of_row _ _ _ _ _ _ P2.out]
    exact Option.isSome_iff_exists.2 ⟨_, Array.getElem?_eq_getElem (by simp; omega)⟩, frozen_of_row _ _ _ _ _ P2.out⟩)
  go_wp2_with (refine wpList_store_all (by rfl) 56 (.tmp 4) (.tmp 36) (by rfl) (w.heap.size + 1 + 1) 0 zo6 (by kernel_rfl) (by kernel_rfl) TH.out (by kernel_rfl) (by simp [zo6, Value.oneCell']) ?_)
  intro W4 HW4
  have hh4 := heap_setCells_same zo6 w2 0 _ P2.out
  have P4 : Hid (W4.heap[w.heap.size + 1 + 1]? = some (.cells zo6.toArray 56 (0, 0)) ∧ Below w.heap.size w W4) := Lib.hid (by
    rw [HW4.out]
    exact ⟨hh4, B2.out.trans (below_lay (Nat.le_trans (Nat.le_succ _) (Nat.le_succ _)) _ _ _)⟩)
  clear hh4
  have v0 := (cell_of_row W4 _ 0 _ _ _ P4.out.1).trans (show zo6.toArray[0]? = some (.bool false) from rfl)
  have v1 := (cell_of_row W4 _ 1 _ _ _ P4.out.1).trans (show zo6.toArray[1]? = some (.int .i64 0) from rfl)
  have v2 := (cell_of_row W4 _ 2 _ _ _ P4.out.1).trans (show zo6.toArray[2]? = some (.int .u8 0) from rfl)
  have v3 := (cell_of_row W4 _ 3 _ _ _ P4.out.1).trans (show zo6.toArray[3]? = some (.slice none 0 0) from rfl)
  have v4 := (cell_of_row W4 _ 4 _ _ _ P4.out.1).trans (show zo6.toArray[4]? = some (.slice none 0 0) from rfl)
  have v5 := (cell_of_row W4 _ 5 _ _ _ P4.out.1).trans (show zo6.toArray[5]? = some (.slice none 0 0) from rfl)
  clear HW4
  go_wp2_with fail
  refine bodyPost_ret (v := .tuple #[.agg zo6.toArray, .int .i64 1]) (by simp [results, Try.results17, go_sem, v0, v1, v2, v3, v4, v5, zo6]) rfl ?_
  exact ⟨rfl, P4.out.2⟩
end Go.Proofs.Ytnajbogmhhlpcaa
