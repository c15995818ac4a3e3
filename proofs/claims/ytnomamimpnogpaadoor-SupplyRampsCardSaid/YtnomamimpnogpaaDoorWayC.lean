/- Way: the entries on the way; the program's and the document's. -/
import Derived.Test.YtnomamimpnogpaaDoorRefC
import Derived.Deep.LoopGhost
import Derived.Deep.AppendLies
namespace Go.Proofs.YtnomamimpnogpaaDoor
open Go.RowKit Go.ChangeShapes
/-- The cells of numbers. -/
abbrev icells (zs : List Int) : List Value := zs.map (Value.int .i64)
theorem infoInt : (Tryd.prog.info? 3).map (fun i => (i.zero, i.size, i.bytes)) = some (some (.int .i64 0), 1, 8) := by kernel_rfl
/-- The first n places on the way. -/
def wayTo (a b n : Nat) : List Int := (List.range n).map fun (i : Nat) => if b < a then (a : Int) - (i : Int) else (a : Int) + (i : Int)
def wayV (a b : Nat) : List Int := wayTo a b ((a - b) + (b - a) + 1)
theorem wayTo_len (a b n : Nat) : (wayTo a b n).length = n := by simp [wayTo]
theorem wayTo_down (a b n : Nat) (h : b < a) : icells (wayTo a b (n + 1)) = icells (wayTo a b n) ++ [.int .i64 ((a : Int) - (n : Int))] := by
  simp [wayTo, List.range_succ, h]
theorem wayTo_up (a b n : Nat) (h : ¬ b < a) : icells (wayTo a b (n + 1)) = icells (wayTo a b n) ++ [.int .i64 ((a : Int) + (n : Int))] := by
  simp [wayTo, List.range_succ, h]

set_option maxHeartbeats 2000000 in
set_option maxRecDepth 100000 in
theorem way_up (a b : Nat) (w : World) (ha : a < 24) (hb : b < 24) (h : ¬ b < a) :
    Calls Tryd.prog 17 #[.int .i64 a, .int .i64 b] w fun e w' => ∃ g c, e = .returned (.tuple #[.slice (some ⟨g, 0, none⟩) (wayV a b).length c, .int .i64 0]) ∧ w'.ownsRow w.heap.size 3 1 (.slice (some ⟨g, 0, none⟩) (wayV a b).length c) (wayV a b).length (icells (wayV a b)) ∧ Below w.heap.size w w' := by
  obtain ⟨iw, hi, hz0, hz1, hz2⟩ := info_parts infoInt
  have hc : ¬ (b : Int) < (a : Int) := by omega
  have HH := Lib.hid h
  clear h
  go_enter Tryd.func17, Tryd.ntmps17
  go_wp2_with fail
  go_loopg [7, 8] (b - a) (fun r l i wr => ∃ n : Nat, n ≤ (b - a) ∧ r = (b - a) - n ∧ i = .int .i64 ((a : Int) + (n : Int)) ∧ Hid (wr.ownsRow w.heap.size 3 1 l n (icells (wayTo a b n)) ∧ Below w.heap.size w wr))
  case atStart => exact ⟨0, by omega, by omega, by simp, World.ownsRow_nil _ _ _ _, Below.refl _ _⟩
  case round =>
    obtain ⟨n, hn, hr, rfl, hq⟩ := hrel
    obtain ⟨q1, q2⟩ := hq.out
    have Q1 := Lib.hid q1
    have Q2 := Lib.hid q2
    have HR := Lib.hid hr
    clear q1 q2 hq hr
    have hz : w.heap.size ≤ wr.heap.size := Q2.out.size
    have hkm : n + 1 ≤ maxLen := by unfold maxLen; omega
    have hkb : (n + 1) * 8 ≤ 140737488355328 := by omega
    have HF := Lib.hid (wayTo_up a b n HH.out)
    by_cases hlt : n < (b - a)
    · have hne : (((a : Int) + (n : Int)) != (b : Int)) = true := by simp; omega
      go_wp2_with (refine wpList_append_lies _ (by rfl) (.tmp 33) (.tmp 35) 46 (by rfl) w.heap.size 3 iw _ 1 8 Tryd.underlying46 hi hz0 hz1 hz2 rfl (by omega) u7 n (icells (wayTo a b n)) (by rfl) (Q1.out.alloc _) ⟨wr.heap.size, 0, none⟩ 1 1 [.int .i64 ((a : Int) + (n : Int))] (by rfl) (by rfl) (World.news_of_block (cs := #[.int .i64 ((a : Int) + (n : Int))]) (t := 3) (fr := (0, 0)) (heap_alloc_new wr _)) (by simp [Value.oneCell']) (by omega) hkm hkb (by simp; omega) (wr.heap.size + 1) (by simp) ?_)
      intro gg cap1 w1 hown1 hgrow hat hlt1
      have own1 := Lib.hid hown1
      have BW := Lib.hid ((Q2.out.alloc hz (.cells #[.int .i64 ((a : Int) + (n : Int))] 3 (0, 0))).grown hgrow (by simp; omega) (fun kk hk' => ((Q1.out.lt kk hk').1)))
      clear hown1 hgrow hat hlt1
      go_wp2_with fail
      go_roundg ((b - a) - (n + 1))
      case measure => rw [HR.out]; omega
      case rel =>
        refine ⟨n + 1, by omega, rfl, by go_num, Lib.hid ⟨?_, BW.out⟩⟩
        rw [HF.out]
        exact own1.out
    · have he : ((a : Int) + (n : Int)) = (b : Int) := by omega
      have HL := Lib.hid (show n = (b - a) by omega)
      clear hlt
      go_wp2_with (refine wpList_append_lies _ (by rfl) (.tmp 37) (.tmp 39) 46 (by rfl) w.heap.size 3 iw _ 1 8 Tryd.underlying46 hi hz0 hz1 hz2 rfl (by omega) u7 n (icells (wayTo a b n)) (by rfl) (Q1.out.alloc _) ⟨wr.heap.size, 0, none⟩ 1 1 [.int .i64 (b : Int)] (by rfl) (by rfl) (World.news_of_block (cs := #[.int .i64 (b : Int)]) (t := 3) (fr := (0, 0)) (heap_alloc_new wr _)) (by simp [Value.oneCell']) (by omega) hkm hkb (by simp; omega) (wr.heap.size + 1) (by simp) ?_)
      intro gg cap1 w1 hown1 hgrow hat hlt1
      have BW := Lib.hid ((Q2.out.alloc hz (.cells #[.int .i64 (b : Int)] 3 (0, 0))).grown hgrow (by simp; omega) (fun kk hk' => ((Q1.out.lt kk hk').1)))
      have hv : Hid (wayV a b = wayTo a b (n + 1)) := by unfold Hid wayV; rw [HL.out]; congr 1; have := HH.out; omega
      have hown1 : w1.ownsRow w.heap.size 3 1 (.slice (some ⟨gg, 0, none⟩) (n + 1) cap1) (n + 1) (icells (wayTo a b (n + 1))) := by
        rw [HF.out, he]
        exact hown1
      have own1 := Lib.hid hown1
      have hlen : Hid ((wayV a b).length = n + 1) := by unfold Hid; rw [hv.out, wayTo_len]
      clear hown1 hgrow hat hlt1
      go_wp2_with fail
      go_ret2
      exact ⟨gg, cap1, by rw [hlen.out]; rfl, by rw [hlen.out, hv.out]; exact own1.out, BW.out⟩

set_option maxHeartbeats 2000000 in
set_option maxRecDepth 100000 in
theorem way_down (a b : Nat) (w : World) (ha : a < 24) (hb : b < 24) (h : b < a) :
    Calls Tryd.prog 17 #[.int .i64 a, .int .i64 b] w fun e w' => ∃ g c, e = .returned (.tuple #[.slice (some ⟨g, 0, none⟩) (wayV a b).length c, .int .i64 0]) ∧ w'.ownsRow w.heap.size 3 1 (.slice (some ⟨g, 0, none⟩) (wayV a b).length c) (wayV a b).length (icells (wayV a b)) ∧ Below w.heap.size w w' := by
  obtain ⟨iw, hi, hz0, hz1, hz2⟩ := info_parts infoInt
  have hc : (b : Int) < (a : Int) := by omega
  have HH := Lib.hid h
  clear h
  go_enter Tryd.func17, Tryd.ntmps17
  go_wp2_with fail
  go_loopg [7, 8] (a - b) (fun r l i wr => ∃ n : Nat, n ≤ (a - b) ∧ r = (a - b) - n ∧ i = .int .i64 ((a : Int) - (n : Int)) ∧ Hid (wr.ownsRow w.heap.size 3 1 l n (icells (wayTo a b n)) ∧ Below w.heap.size w wr))
  case atStart => exact ⟨0, by omega, by omega, by simp, World.ownsRow_nil _ _ _ _, Below.refl _ _⟩
  case round =>
    obtain ⟨n, hn, hr, rfl, hq⟩ := hrel
    obtain ⟨q1, q2⟩ := hq.out
    have Q1 := Lib.hid q1
    have Q2 := Lib.hid q2
    have HR := Lib.hid hr
    clear q1 q2 hq hr
    have hz : w.heap.size ≤ wr.heap.size := Q2.out.size
    have hkm : n + 1 ≤ maxLen := by unfold maxLen; omega
    have hkb : (n + 1) * 8 ≤ 140737488355328 := by omega
    have HF := Lib.hid (wayTo_down a b n HH.out)
    by_cases hlt : n < (a - b)
    · have hne : (((a : Int) - (n : Int)) != (b : Int)) = true := by simp; omega
      go_wp2_with (refine wpList_append_lies _ (by rfl) (.tmp 33) (.tmp 35) 46 (by rfl) w.heap.size 3 iw _ 1 8 Tryd.underlying46 hi hz0 hz1 hz2 rfl (by omega) u7 n (icells (wayTo a b n)) (by rfl) (Q1.out.alloc _) ⟨wr.heap.size, 0, none⟩ 1 1 [.int .i64 ((a : Int) - (n : Int))] (by rfl) (by rfl) (World.news_of_block (cs := #[.int .i64 ((a : Int) - (n : Int))]) (t := 3) (fr := (0, 0)) (heap_alloc_new wr _)) (by simp [Value.oneCell']) (by omega) hkm hkb (by simp; omega) (wr.heap.size + 1) (by simp) ?_)
      intro gg cap1 w1 hown1 hgrow hat hlt1
      have own1 := Lib.hid hown1
      have BW := Lib.hid ((Q2.out.alloc hz (.cells #[.int .i64 ((a : Int) - (n : Int))] 3 (0, 0))).grown hgrow (by simp; omega) (fun kk hk' => ((Q1.out.lt kk hk').1)))
      clear hown1 hgrow hat hlt1
      go_wp2_with fail
      go_roundg ((a - b) - (n + 1))
      case measure => rw [HR.out]; omega
      case rel =>
        refine ⟨n + 1, by omega, rfl, by go_num, Lib.hid ⟨?_, BW.out⟩⟩
        rw [HF.out]
        exact own1.out
    · have he : ((a : Int) - (n : Int)) = (b : Int) := by omega
      have HL := Lib.hid (show n = (a - b) by omega)
      clear hlt
      go_wp2_with (refine wpList_append_lies _ (by rfl) (.tmp 37) (.tmp 39) 46 (by rfl) w.heap.size 3 iw _ 1 8 Tryd.underlying46 hi hz0 hz1 hz2 rfl (by omega) u7 n (icells (wayTo a b n)) (by rfl) (Q1.out.alloc _) ⟨wr.heap.size, 0, none⟩ 1 1 [.int .i64 (b : Int)] (by rfl) (by rfl) (World.news_of_block (cs := #[.int .i64 (b : Int)]) (t := 3) (fr := (0, 0)) (heap_alloc_new wr _)) (by simp [Value.oneCell']) (by omega) hkm hkb (by simp; omega) (wr.heap.size + 1) (by simp) ?_)
      intro gg cap1 w1 hown1 hgrow hat hlt1
      have BW := Lib.hid ((Q2.out.alloc hz (.cells #[.int .i64 (b : Int)] 3 (0, 0))).grown hgrow (by simp; omega) (fun kk hk' => ((Q1.out.lt kk hk').1)))
      have hv : Hid (wayV a b = wayTo a b (n + 1)) := by unfold Hid wayV; rw [HL.out]; congr 1; have := HH.out; omega
      have hown1 : w1.ownsRow w.heap.size 3 1 (.slice (some ⟨gg, 0, none⟩) (n + 1) cap1) (n + 1) (icells (wayTo a b (n + 1))) := by
        rw [HF.out, he]
        exact hown1
      have own1 := Lib.hid hown1
      have hlen : Hid ((wayV a b).length = n + 1) := by unfold Hid; rw [hv.out, wayTo_len]
      clear hown1 hgrow hat hlt1
      go_wp2_with fail
      go_ret2
      exact ⟨gg, cap1, by rw [hlen.out]; rfl, by rw [hlen.out, hv.out]; exact own1.out, BW.out⟩
end Go.Proofs.YtnomamimpnogpaaDoor
