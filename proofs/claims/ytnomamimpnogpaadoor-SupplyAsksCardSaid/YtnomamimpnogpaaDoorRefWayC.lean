/- The document's Way. -/
import Derived.Test.YtnomamimpnogpaaDoorWayC
namespace Go.Proofs.YtnomamimpnogpaaDoor
open Go.RowKit Go.ChangeShapes

set_option maxHeartbeats 2000000 in
set_option maxRecDepth 100000 in
theorem refWay_up (a b : Nat) (w : World) (ha : a < 24) (hb : b < 24) (h : ¬ b < a) :
    Calls Tryd.prog 27 #[.int .i64 a, .int .i64 b] w fun e w' => ∃ g c, e = .returned (.tuple #[.slice (some ⟨g, 0, none⟩) (wayV a b).length c, .int .i64 0]) ∧ w'.ownsRow w.heap.size 3 1 (.slice (some ⟨g, 0, none⟩) (wayV a b).length c) (wayV a b).length (icells (wayV a b)) ∧ Below w.heap.size w w' := by
  obtain ⟨iw, hi, hz0, hz1, hz2⟩ := info_parts infoInt
  have HH := Lib.hid h
  have HA := Lib.hid ha
  have HB := Lib.hid hb
  clear h ha hb
  go_enter Tryd.func27, Tryd.ntmps27
  go_wp2_with fail
  refine (there_in a _ HA.out).mono ?_
  rintro e w' ⟨rfl, rfl⟩
  go_wp2_with fail
  refine (there_in b _ HB.out).mono ?_
  rintro e w' ⟨rfl, rfl⟩
  go_wp2_with fail
  go_loopg [0, 6] (b - a) (fun r i l wr => ∃ n : Nat, n ≤ (b - a) ∧ r = (b - a) - n ∧ i = .int .i64 ((a : Int) + (n : Int)) ∧ Hid (wr.ownsRow w.heap.size 3 1 l (n + 1) (icells (wayTo a b (n + 1))) ∧ Below w.heap.size w wr))
  case atStart =>
    refine ⟨0, by omega, by omega, by simp, Lib.hid ⟨?_, (Below.refl _ _).alloc (Nat.le_refl _) _⟩⟩
    have h0 : icells (wayTo a b (0 + 1)) = [.int .i64 a] := by simp [wayTo, List.range_succ]
    rw [h0]
    exact World.ownsRow_lit (w := w) #[.int .i64 a] 1 (Nat.le_refl _) (by unfold maxLen; omega) rfl
  case round =>
    obtain ⟨n, hn, hr, rfl, hq⟩ := hrel
    obtain ⟨q1, q2⟩ := hq.out
    have Q1 := Lib.hid q1
    have Q2 := Lib.hid q2
    have HR := Lib.hid hr
    have ha := HA.out
    have hb := HB.out
    have h := HH.out
    clear q1 q2 hq hr
    have hz : w.heap.size ≤ wr.heap.size := Q2.out.size
    have hkm : n + 1 + 1 ≤ maxLen := by unfold maxLen; omega
    have hkb : (n + 1 + 1) * 8 ≤ 140737488355328 := by omega
    have HF := Lib.hid (wayTo_up a b (n + 1) HH.out)
    by_cases hlt : n < (b - a)
    · have hne : (((a : Int) + (n : Int)) != (b : Int)) = true := by simp; omega
      have hc : ((a : Int) + (n : Int)) < (b : Int) := by omega
      have hx : ((a : Int) + ((n + 1 : Nat) : Int)) = ((a : Int) + (n : Int) + 1) := by omega
      rw [hx] at HF
      clear hx
      go_wp2_with (refine wpList_append_lies _ (by rfl) (.tmp 27) (.tmp 29) 46 (by rfl) w.heap.size 3 iw _ 1 8 Tryd.underlying46 hi hz0 hz1 hz2 rfl (by omega) u6 (n + 1) (icells (wayTo a b (n + 1))) (by rfl) (Q1.out.alloc _) ⟨wr.heap.size, 0, none⟩ 1 1 [.int .i64 ((a : Int) + (n : Int) + 1)] (by rfl) (by rfl) (World.news_of_block (cs := #[.int .i64 ((a : Int) + (n : Int) + 1)]) (t := 3) (fr := (0, 0)) (heap_alloc_new wr _)) (by simp [Value.oneCell']) (by omega) hkm hkb (by simp; omega) (wr.heap.size + 1) (by simp) ?_)
      intro gg cap1 w1 hown1 hgrow hat hlt1
      have own1 := Lib.hid hown1
      have BW := Lib.hid ((Q2.out.alloc hz (.cells #[.int .i64 ((a : Int) + (n : Int) + 1)] 3 (0, 0))).grown hgrow (by simp; omega) (fun kk hk' => ((Q1.out.lt kk hk').1)))
      clear hown1 hgrow hat hlt1
      go_wp2_with fail
      go_roundg ((b - a) - (n + 1))
      case measure => rw [HR.out]; omega
      case rel =>
        refine ⟨n + 1, by omega, rfl, by go_num, Lib.hid ⟨?_, BW.out⟩⟩
        rw [HF.out]
        exact own1.out
    · have he : ((a : Int) + (n : Int)) = (b : Int) := by omega
      have hv : wayV a b = wayTo a b (n + 1) := by unfold wayV; congr 1; omega
      have hl : (wayV a b).length = n + 1 := by rw [hv, wayTo_len]
      have HV := Lib.hid hv
      have HL := Lib.hid hl
      obtain ⟨g, c, rfl, _, _⟩ := Q1.out.form (by omega)
      clear hlt hv hl
      go_wp2_with fail
      go_ret2
      exact ⟨g, c, by rw [HL.out]; rfl, by rw [HL.out, HV.out]; exact Q1.out, Q2.out⟩

set_option maxHeartbeats 2000000 in
set_option maxRecDepth 100000 in
theorem refWay_down (a b : Nat) (w : World) (ha : a < 24) (hb : b < 24) (h : b < a) :
    Calls Tryd.prog 27 #[.int .i64 a, .int .i64 b] w fun e w' => ∃ g c, e = .returned (.tuple #[.slice (some ⟨g, 0, none⟩) (wayV a b).length c, .int .i64 0]) ∧ w'.ownsRow w.heap.size 3 1 (.slice (some ⟨g, 0, none⟩) (wayV a b).length c) (wayV a b).length (icells (wayV a b)) ∧ Below w.heap.size w w' := by
  obtain ⟨iw, hi, hz0, hz1, hz2⟩ := info_parts infoInt
  have HH := Lib.hid h
  have HA := Lib.hid ha
  have HB := Lib.hid hb
  clear h ha hb
  go_enter Tryd.func27, Tryd.ntmps27
  go_wp2_with fail
  refine (there_in a _ HA.out).mono ?_
  rintro e w' ⟨rfl, rfl⟩
  go_wp2_with fail
  refine (there_in b _ HB.out).mono ?_
  rintro e w' ⟨rfl, rfl⟩
  go_wp2_with fail
  go_loopg [0, 6] (a - b) (fun r i l wr => ∃ n : Nat, n ≤ (a - b) ∧ r = (a - b) - n ∧ i = .int .i64 ((a : Int) - (n : Int)) ∧ Hid (wr.ownsRow w.heap.size 3 1 l (n + 1) (icells (wayTo a b (n + 1))) ∧ Below w.heap.size w wr))
  case atStart =>
    refine ⟨0, by omega, by omega, by simp, Lib.hid ⟨?_, (Below.refl _ _).alloc (Nat.le_refl _) _⟩⟩
    have h0 : icells (wayTo a b (0 + 1)) = [.int .i64 a] := by simp [wayTo, List.range_succ]
    rw [h0]
    exact World.ownsRow_lit (w := w) #[.int .i64 a] 1 (Nat.le_refl _) (by unfold maxLen; omega) rfl
  case round =>
    obtain ⟨n, hn, hr, rfl, hq⟩ := hrel
    obtain ⟨q1, q2⟩ := hq.out
    have Q1 := Lib.hid q1
    have Q2 := Lib.hid q2
    have HR := Lib.hid hr
    have ha := HA.out
    have hb := HB.out
    have h := HH.out
    clear q1 q2 hq hr
    have hz : w.heap.size ≤ wr.heap.size := Q2.out.size
    have hkm : n + 1 + 1 ≤ maxLen := by unfold maxLen; omega
    have hkb : (n + 1 + 1) * 8 ≤ 140737488355328 := by omega
    have HF := Lib.hid (wayTo_down a b (n + 1) HH.out)
    by_cases hlt : n < (a - b)
    · have hne : (((a : Int) - (n : Int)) != (b : Int)) = true := by simp; omega
      have hc : ¬ ((a : Int) - (n : Int)) < (b : Int) := by omega
      have hx : ((a : Int) - ((n + 1 : Nat) : Int)) = ((a : Int) - (n : Int) - 1) := by omega
      rw [hx] at HF
      clear hx
      go_wp2_with (refine wpList_append_lies _ (by rfl) (.tmp 27) (.tmp 29) 46 (by rfl) w.heap.size 3 iw _ 1 8 Tryd.underlying46 hi hz0 hz1 hz2 rfl (by omega) u6 (n + 1) (icells (wayTo a b (n + 1))) (by rfl) (Q1.out.alloc _) ⟨wr.heap.size, 0, none⟩ 1 1 [.int .i64 ((a : Int) - (n : Int) - 1)] (by rfl) (by rfl) (World.news_of_block (cs := #[.int .i64 ((a : Int) - (n : Int) - 1)]) (t := 3) (fr := (0, 0)) (heap_alloc_new wr _)) (by simp [Value.oneCell']) (by omega) hkm hkb (by simp; omega) (wr.heap.size + 1) (by simp) ?_)
      intro gg cap1 w1 hown1 hgrow hat hlt1
      have own1 := Lib.hid hown1
      have BW := Lib.hid ((Q2.out.alloc hz (.cells #[.int .i64 ((a : Int) - (n : Int) - 1)] 3 (0, 0))).grown hgrow (by simp; omega) (fun kk hk' => ((Q1.out.lt kk hk').1)))
      clear hown1 hgrow hat hlt1
      go_wp2_with fail
      go_roundg ((a - b) - (n + 1))
      case measure => rw [HR.out]; omega
      case rel =>
        refine ⟨n + 1, by omega, rfl, by go_num, Lib.hid ⟨?_, BW.out⟩⟩
        rw [HF.out]
        exact own1.out
    · have he : ((a : Int) - (n : Int)) = (b : Int) := by omega
      have hv : wayV a b = wayTo a b (n + 1) := by unfold wayV; congr 1; omega
      have hl : (wayV a b).length = n + 1 := by rw [hv, wayTo_len]
      have HV := Lib.hid hv
      have HL := Lib.hid hl
      obtain ⟨g, c, rfl, _, _⟩ := Q1.out.form (by omega)
      clear hlt hv hl
      go_wp2_with fail
      go_ret2
      exact ⟨g, c, by rw [HL.out]; rfl, by rw [HL.out, HV.out]; exact Q1.out, Q2.out⟩
end Go.Proofs.YtnomamimpnogpaaDoor
