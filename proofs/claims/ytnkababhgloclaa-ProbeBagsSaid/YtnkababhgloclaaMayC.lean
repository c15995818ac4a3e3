/- Whether a card may be: card.may, the document's May. (Printed by tools/genmay.py.) -/
import Derived.Test.YtnkababhgloclaaTextC
namespace Go.Proofs.Ytnkababhgloclaa
open Go.RowKit Go.Lib Tx Nm
def mayB (c : Cd) : Bool := nameB c.name && nameB c.fam && (decide (c.quirk.size = 0) || nameB c.quirk) && decide (c.lvl ≤ 4) && decide (-100 ≤ c.score) && decide (c.score ≤ 100) && decide (-1 ≤ c.ent) && decide (c.ent ≤ 47) && textsB c.comp
theorem toList_nil {s : ByteArray} (h : s.size = 0) : s.toList = [] := by
  apply List.eq_nil_of_length_eq_zero
  rw [ByteArray.toList_eq]
  exact h
theorem toList_some {s : ByteArray} (h : ¬ s.size = 0) : s.toList.isEmpty = false ∧ ¬ s.toList = [] := by
  have e : ¬ s.toList = [] := by
    rw [ByteArray.toList_eq]
    exact fun h' => h (congrArg List.length h')
  exact ⟨by rw [List.isEmpty_eq_false_iff]; exact e, e⟩
theorem zero_idx (s : ByteArray) : (0 ≤ Lib.indexByte s.data.toList 0 ∧ (s.data.toList.all fun c => c != 0) = false) ∨ (Lib.indexByte s.data.toList 0 = -1 ∧ (s.data.toList.all fun c => c != 0) = true) := by
  have hg := Lib.indexByte_ge s.data.toList 0
  rcases Int.lt_or_le (Lib.indexByte s.data.toList 0) 0 with h1 | h1
  · right
    have h2 : Lib.indexByte s.data.toList 0 = -1 := by omega
    refine ⟨h2, ?_⟩
    rw [List.all_eq_true]
    intro c hc
    obtain ⟨k, hk, rfl⟩ := List.getElem_of_mem hc
    have := Lib.indexByte_none h2 k
    rw [List.getElem?_eq_getElem hk] at this
    exact bne_iff_ne.2 (fun h => this (congrArg some h))
  · left
    refine ⟨h1, ?_⟩
    obtain ⟨x, hx⟩ : ∃ x : Nat, Lib.indexByte s.data.toList 0 = x := ⟨(Lib.indexByte s.data.toList 0).toNat, by omega⟩
    obtain ⟨h2, _⟩ := Lib.indexByte_some hx
    rw [List.all_eq_false]
    exact ⟨0, List.mem_of_getElem? h2, by simp⟩
theorem box_cells {w w' : World} {n f q : ByteArray} {l sc e : Int} {sl : Value} (h : Below (w.heap.size + 1) (w.alloc (.cells #[.string n, .string f, .int .u8 l, sl, .int .i8 sc, .string q, .int .i16 e] 50)) w') :
    w'.cell? ⟨w.heap.size, 0, none⟩ = some (.string n) ∧ w'.cell? ⟨w.heap.size, 1, none⟩ = some (.string f) ∧ w'.cell? ⟨w.heap.size, 2, none⟩ = some (.int .u8 l) ∧ w'.cell? ⟨w.heap.size, 3, none⟩ = some sl ∧
    w'.cell? ⟨w.heap.size, 4, none⟩ = some (.int .i8 sc) ∧ w'.cell? ⟨w.heap.size, 5, none⟩ = some (.string q) ∧ w'.cell? ⟨w.heap.size, 6, none⟩ = some (.int .i16 e) := by
  have hb := (h.block w.heap.size (by omega)).trans (heap_alloc_new w _)
  refine ⟨?_, ?_, ?_, ?_, ?_, ?_, ?_⟩ <;> · rw [cell_of_row w' w.heap.size _ _ _ _ hb]; rfl

set_option maxHeartbeats 8000000 in
set_option maxRecDepth 100000 in
theorem may_walk (n f q : ByteArray) (l sc e : Int) (ss : List ByteArray) (sl : Value) (w : World) (hs : Strs w sl ss) (hok : Cd.ok ⟨n, f, l, ss, sc, q, e⟩) :
    Calls Try.prog 70 #[.agg #[.string n, .string f, .int .u8 l, sl, .int .i8 sc, .string q, .int .i16 e]] w (GivesB (mayB ⟨n, f, l, ss, sc, q, e⟩) w) := by
  obtain ⟨o1, o2, o3, o4, o5, o6⟩ := hok
  simp only at o1 o2 o3 o4 o5 o6
  have HS := Lib.hid hs
  obtain ⟨a, cap, hsl, hm, hnc, hnil, _⟩ := hs
  subst hsl
  have B0 : Hid (Below w.heap.size w (w.alloc (.cells #[.string n, .string f, .int .u8 l, .slice a ss.length cap, .int .i8 sc, .string q, .int .i16 e] 50))) := Lib.hid ((Below.refl _ w).alloc (Nat.le_refl _) _)
  have hz0 : (w.alloc (.cells #[.string n, .string f, .int .u8 l, .slice a ss.length cap, .int .i8 sc, .string q, .int .i16 e] 50)).heap.size = w.heap.size + 1 := by simp
  have HZ0 := Lib.hid hz0
  clear hz0
  have C1 := fun w => Nm.name_any n w
  have C2 := fun w => Nm.name_any f w
  have C3 := fun w => Nm.name_any q w
  obtain ⟨b1, hb1⟩ : ∃ b, nameB n = b := ⟨_, rfl⟩
  obtain ⟨b2, hb2⟩ : ∃ b, nameB f = b := ⟨_, rfl⟩
  obtain ⟨b3, hb3⟩ : ∃ b, nameB q = b := ⟨_, rfl⟩
  rw [hb1] at C1
  rw [hb2] at C2
  rw [hb3] at C3
  have C1 := Lib.hid C1
  have C2 := Lib.hid C2
  have C3 := Lib.hid C3
  have E1 := Lib.hid hb1
  have E2 := Lib.hid hb2
  have E3 := Lib.hid hb3
  clear hb1 hb2 hb3
  cases b1 with
  | false =>
    have HF : Hid (mayB ⟨n, f, l, ss, sc, q, e⟩ = false) := Lib.hid (by unfold mayB; simp only; rw [E1.out]; simp)
    go_enter Try.func70, Try.ntmps70
    go_wp2_with fail
    refine (C1.out _).mono ?_
    rintro er w1 ⟨rfl, hb⟩
    have T1 : Hid (Below (w.heap.size + 1) (w.alloc (.cells #[.string n, .string f, .int .u8 l, .slice a ss.length cap, .int .i8 sc, .string q, .int .i16 e] 50)) w1) := Lib.hid (by rw [← HZ0.out]; exact hb)
    clear hb
    obtain ⟨k0, k1, k2, k3, k4, k5, k6⟩ := box_cells T1.out
    go_wp2_with fail
    go_ret
    exact ⟨by rw [HF.out]; rfl, B0.out.trans (T1.out.mono (by omega))⟩
  | true =>
  cases b2 with
  | false =>
    have HF : Hid (mayB ⟨n, f, l, ss, sc, q, e⟩ = false) := Lib.hid (by unfold mayB; simp only; rw [E2.out]; simp)
    go_enter Try.func70, Try.ntmps70
    go_wp2_with fail
    refine (C1.out _).mono ?_
    rintro er w1 ⟨rfl, hb⟩
    have T1 : Hid (Below (w.heap.size + 1) (w.alloc (.cells #[.string n, .string f, .int .u8 l, .slice a ss.length cap, .int .i8 sc, .string q, .int .i16 e] 50)) w1) := Lib.hid (by rw [← HZ0.out]; exact hb)
    clear hb
    obtain ⟨k0, k1, k2, k3, k4, k5, k6⟩ := box_cells T1.out
    go_wp2_with fail
    refine (C2.out _).mono ?_
    rintro er w2 ⟨rfl, hb⟩
    have T2 : Hid (Below (w.heap.size + 1) (w.alloc (.cells #[.string n, .string f, .int .u8 l, .slice a ss.length cap, .int .i8 sc, .string q, .int .i16 e] 50)) w2) := Lib.hid (T1.out.trans (hb.mono (by have := T1.out.size; rw [HZ0.out] at this; exact this)))
    clear hb
    obtain ⟨k0, k1, k2, k3, k4, k5, k6⟩ := box_cells T2.out
    go_wp2_with fail
    go_ret
    exact ⟨by rw [HF.out]; rfl, B0.out.trans (T2.out.mono (by omega))⟩
  | true =>
  by_cases q0 : q.size = 0
  · have ql := toList_nil q0
    have HQ := Lib.hid q0
    clear q0
    by_cases n0 : 4 < l
    · have HF : Hid (mayB ⟨n, f, l, ss, sc, q, e⟩ = false) := Lib.hid (by unfold mayB; simp only; rw [decide_eq_false (show ¬ l ≤ 4 by omega)]; simp)
      have t1 : decide (l > 4) = true := decide_eq_true (by omega)
      go_enter Try.func70, Try.ntmps70
      go_wp2_with fail
      refine (C1.out _).mono ?_
      rintro er w1 ⟨rfl, hb⟩
      have T1 : Hid (Below (w.heap.size + 1) (w.alloc (.cells #[.string n, .string f, .int .u8 l, .slice a ss.length cap, .int .i8 sc, .string q, .int .i16 e] 50)) w1) := Lib.hid (by rw [← HZ0.out]; exact hb)
      clear hb
      obtain ⟨k0, k1, k2, k3, k4, k5, k6⟩ := box_cells T1.out
      go_wp2_with fail
      refine (C2.out _).mono ?_
      rintro er w2 ⟨rfl, hb⟩
      have T2 : Hid (Below (w.heap.size + 1) (w.alloc (.cells #[.string n, .string f, .int .u8 l, .slice a ss.length cap, .int .i8 sc, .string q, .int .i16 e] 50)) w2) := Lib.hid (T1.out.trans (hb.mono (by have := T1.out.size; rw [HZ0.out] at this; exact this)))
      clear hb
      obtain ⟨k0, k1, k2, k3, k4, k5, k6⟩ := box_cells T2.out
      go_wp2_with fail
      go_ret
      exact ⟨by rw [HF.out]; rfl, B0.out.trans (T2.out.mono (by omega))⟩
    have t1 : decide (l > 4) = false := decide_eq_false (by omega)
    by_cases n1 : sc < -100
    · have HF : Hid (mayB ⟨n, f, l, ss, sc, q, e⟩ = false) := Lib.hid (by unfold mayB; simp only; rw [decide_eq_false (show ¬ -100 ≤ sc by omega)]; simp)
      have t2 : decide (sc < -100) = true := decide_eq_true (by omega)
      go_enter Try.func70, Try.ntmps70
      go_wp2_with fail
      refine (C1.out _).mono ?_
      rintro er w1 ⟨rfl, hb⟩
      have T1 : Hid (Below (w.heap.size + 1) (w.alloc (.cells #[.string n, .string f, .int .u8 l, .slice a ss.length cap, .int .i8 sc, .string q, .int .i16 e] 50)) w1) := Lib.hid (by rw [← HZ0.out]; exact hb)
      clear hb
      obtain ⟨k0, k1, k2, k3, k4, k5, k6⟩ := box_cells T1.out
      go_wp2_with fail
      refine (C2.out _).mono ?_
      rintro er w2 ⟨rfl, hb⟩
      have T2 : Hid (Below (w.heap.size + 1) (w.alloc (.cells #[.string n, .string f, .int .u8 l, .slice a ss.length cap, .int .i8 sc, .string q, .int .i16 e] 50)) w2) := Lib.hid (T1.out.trans (hb.mono (by have := T1.out.size; rw [HZ0.out] at this; exact this)))
      clear hb
      obtain ⟨k0, k1, k2, k3, k4, k5, k6⟩ := box_cells T2.out
      go_wp2_with fail
      go_ret
      exact ⟨by rw [HF.out]; rfl, B0.out.trans (T2.out.mono (by omega))⟩
    have t2 : decide (sc < -100) = false := decide_eq_false (by omega)
    by_cases n2 : 100 < sc
    · have HF : Hid (mayB ⟨n, f, l, ss, sc, q, e⟩ = false) := Lib.hid (by unfold mayB; simp only; rw [decide_eq_false (show ¬ sc ≤ 100 by omega)]; simp)
      have t3 : decide (sc > 100) = true := decide_eq_true (by omega)
      go_enter Try.func70, Try.ntmps70
      go_wp2_with fail
      refine (C1.out _).mono ?_
      rintro er w1 ⟨rfl, hb⟩
      have T1 : Hid (Below (w.heap.size + 1) (w.alloc (.cells #[.string n, .string f, .int .u8 l, .slice a ss.length cap, .int .i8 sc, .string q, .int .i16 e] 50)) w1) := Lib.hid (by rw [← HZ0.out]; exact hb)
      clear hb
      obtain ⟨k0, k1, k2, k3, k4, k5, k6⟩ := box_cells T1.out
      go_wp2_with fail
      refine (C2.out _).mono ?_
      rintro er w2 ⟨rfl, hb⟩
      have T2 : Hid (Below (w.heap.size + 1) (w.alloc (.cells #[.string n, .string f, .int .u8 l, .slice a ss.length cap, .int .i8 sc, .string q, .int .i16 e] 50)) w2) := Lib.hid (T1.out.trans (hb.mono (by have := T1.out.size; rw [HZ0.out] at this; exact this)))
      clear hb
      obtain ⟨k0, k1, k2, k3, k4, k5, k6⟩ := box_cells T2.out
      go_wp2_with fail
      go_ret
      exact ⟨by rw [HF.out]; rfl, B0.out.trans (T2.out.mono (by omega))⟩
    have t3 : decide (sc > 100) = false := decide_eq_false (by omega)
    by_cases n3 : e < -1
    · have HF : Hid (mayB ⟨n, f, l, ss, sc, q, e⟩ = false) := Lib.hid (by unfold mayB; simp only; rw [decide_eq_false (show ¬ -1 ≤ e by omega)]; simp)
      have t4 : decide (e < -1) = true := decide_eq_true (by omega)
      go_enter Try.func70, Try.ntmps70
      go_wp2_with fail
      refine (C1.out _).mono ?_
      rintro er w1 ⟨rfl, hb⟩
      have T1 : Hid (Below (w.heap.size + 1) (w.alloc (.cells #[.string n, .string f, .int .u8 l, .slice a ss.length cap, .int .i8 sc, .string q, .int .i16 e] 50)) w1) := Lib.hid (by rw [← HZ0.out]; exact hb)
      clear hb
      obtain ⟨k0, k1, k2, k3, k4, k5, k6⟩ := box_cells T1.out
      go_wp2_with fail
      refine (C2.out _).mono ?_
      rintro er w2 ⟨rfl, hb⟩
      have T2 : Hid (Below (w.heap.size + 1) (w.alloc (.cells #[.string n, .string f, .int .u8 l, .slice a ss.length cap, .int .i8 sc, .string q, .int .i16 e] 50)) w2) := Lib.hid (T1.out.trans (hb.mono (by have := T1.out.size; rw [HZ0.out] at this; exact this)))
      clear hb
      obtain ⟨k0, k1, k2, k3, k4, k5, k6⟩ := box_cells T2.out
      go_wp2_with fail
      go_ret
      exact ⟨by rw [HF.out]; rfl, B0.out.trans (T2.out.mono (by omega))⟩
    have t4 : decide (e < -1) = false := decide_eq_false (by omega)
    by_cases n4 : 47 < e
    · have HF : Hid (mayB ⟨n, f, l, ss, sc, q, e⟩ = false) := Lib.hid (by unfold mayB; simp only; rw [decide_eq_false (show ¬ e ≤ 47 by omega)]; simp)
      have t5 : decide (e > 47) = true := decide_eq_true (by omega)
      go_enter Try.func70, Try.ntmps70
      go_wp2_with fail
      refine (C1.out _).mono ?_
      rintro er w1 ⟨rfl, hb⟩
      have T1 : Hid (Below (w.heap.size + 1) (w.alloc (.cells #[.string n, .string f, .int .u8 l, .slice a ss.length cap, .int .i8 sc, .string q, .int .i16 e] 50)) w1) := Lib.hid (by rw [← HZ0.out]; exact hb)
      clear hb
      obtain ⟨k0, k1, k2, k3, k4, k5, k6⟩ := box_cells T1.out
      go_wp2_with fail
      refine (C2.out _).mono ?_
      rintro er w2 ⟨rfl, hb⟩
      have T2 : Hid (Below (w.heap.size + 1) (w.alloc (.cells #[.string n, .string f, .int .u8 l, .slice a ss.length cap, .int .i8 sc, .string q, .int .i16 e] 50)) w2) := Lib.hid (T1.out.trans (hb.mono (by have := T1.out.size; rw [HZ0.out] at this; exact this)))
      clear hb
      obtain ⟨k0, k1, k2, k3, k4, k5, k6⟩ := box_cells T2.out
      go_wp2_with fail
      go_ret
      exact ⟨by rw [HF.out]; rfl, B0.out.trans (T2.out.mono (by omega))⟩
    have t5 : decide (e > 47) = false := decide_eq_false (by omega)
    by_cases m0 : ss.length = 0
    · have HF : Hid (mayB ⟨n, f, l, ss, sc, q, e⟩ = false) := Lib.hid (by unfold mayB; simp only; rw [textsB_short m0]; simp)
      have u1 : ((ss.length : Int) == 0) = true := by rw [m0]; rfl
      have HM := Lib.hid m0
      clear m0
      go_enter Try.func70, Try.ntmps70
      go_wp2_with fail
      refine (C1.out _).mono ?_
      rintro er w1 ⟨rfl, hb⟩
      have T1 : Hid (Below (w.heap.size + 1) (w.alloc (.cells #[.string n, .string f, .int .u8 l, .slice a ss.length cap, .int .i8 sc, .string q, .int .i16 e] 50)) w1) := Lib.hid (by rw [← HZ0.out]; exact hb)
      clear hb
      obtain ⟨k0, k1, k2, k3, k4, k5, k6⟩ := box_cells T1.out
      go_wp2_with fail
      refine (C2.out _).mono ?_
      rintro er w2 ⟨rfl, hb⟩
      have T2 : Hid (Below (w.heap.size + 1) (w.alloc (.cells #[.string n, .string f, .int .u8 l, .slice a ss.length cap, .int .i8 sc, .string q, .int .i16 e] 50)) w2) := Lib.hid (T1.out.trans (hb.mono (by have := T1.out.size; rw [HZ0.out] at this; exact this)))
      clear hb
      obtain ⟨k0, k1, k2, k3, k4, k5, k6⟩ := box_cells T2.out
      go_wp2_with fail
      go_ret
      exact ⟨by rw [HF.out]; rfl, B0.out.trans (T2.out.mono (by omega))⟩
    have u1 : ((ss.length : Int) == 0) = false := beq_eq_false_iff_ne.2 (by omega)
    by_cases m8 : 8 < ss.length
    · have HF : Hid (mayB ⟨n, f, l, ss, sc, q, e⟩ = false) := Lib.hid (by unfold mayB; simp only; rw [textsB_long m8]; simp)
      have u2 : (ss.length : Int) > 8 := by omega
      go_enter Try.func70, Try.ntmps70
      go_wp2_with fail
      refine (C1.out _).mono ?_
      rintro er w1 ⟨rfl, hb⟩
      have T1 : Hid (Below (w.heap.size + 1) (w.alloc (.cells #[.string n, .string f, .int .u8 l, .slice a ss.length cap, .int .i8 sc, .string q, .int .i16 e] 50)) w1) := Lib.hid (by rw [← HZ0.out]; exact hb)
      clear hb
      obtain ⟨k0, k1, k2, k3, k4, k5, k6⟩ := box_cells T1.out
      go_wp2_with fail
      refine (C2.out _).mono ?_
      rintro er w2 ⟨rfl, hb⟩
      have T2 : Hid (Below (w.heap.size + 1) (w.alloc (.cells #[.string n, .string f, .int .u8 l, .slice a ss.length cap, .int .i8 sc, .string q, .int .i16 e] 50)) w2) := Lib.hid (T1.out.trans (hb.mono (by have := T1.out.size; rw [HZ0.out] at this; exact this)))
      clear hb
      obtain ⟨k0, k1, k2, k3, k4, k5, k6⟩ := box_cells T2.out
      go_wp2_with fail
      go_ret
      exact ⟨by rw [HF.out]; rfl, B0.out.trans (T2.out.mono (by omega))⟩
    have u2 : ¬ (ss.length : Int) > 8 := by omega
    have HM1 : Hid (mayB ⟨n, f, l, ss, sc, q, e⟩ = textsB ss) := Lib.hid (by unfold mayB; simp only; rw [E1.out, E2.out, decide_eq_true HQ.out, decide_eq_true (show l ≤ 4 by omega), decide_eq_true (show -100 ≤ sc by omega), decide_eq_true (show sc ≤ 100 by omega), decide_eq_true (show -1 ≤ e by omega), decide_eq_true (show e ≤ 47 by omega)]; simp)
    go_enter Try.func70, Try.ntmps70
    go_wp2_with fail
    refine (C1.out _).mono ?_
    rintro er w1 ⟨rfl, hb⟩
    have T1 : Hid (Below (w.heap.size + 1) (w.alloc (.cells #[.string n, .string f, .int .u8 l, .slice a ss.length cap, .int .i8 sc, .string q, .int .i16 e] 50)) w1) := Lib.hid (by rw [← HZ0.out]; exact hb)
    clear hb
    obtain ⟨k0, k1, k2, k3, k4, k5, k6⟩ := box_cells T1.out
    go_wp2_with fail
    refine (C2.out _).mono ?_
    rintro er w2 ⟨rfl, hb⟩
    have T2 : Hid (Below (w.heap.size + 1) (w.alloc (.cells #[.string n, .string f, .int .u8 l, .slice a ss.length cap, .int .i8 sc, .string q, .int .i16 e] 50)) w2) := Lib.hid (T1.out.trans (hb.mono (by have := T1.out.size; rw [HZ0.out] at this; exact this)))
    clear hb
    obtain ⟨k0, k1, k2, k3, k4, k5, k6⟩ := box_cells T2.out
    go_wp2_with fail
    have BW : Hid (Below w.heap.size w w2) := Lib.hid (B0.out.trans (T2.out.mono (by omega)))
    have SQ := Lib.hid (HS.out.below BW.out)
    clear C1 C2 C3 HS B0 T1 T2
    unfold maxLen at hm
    go_loopg [3, 4, 64] ss.length (fun r _ _ vi wr => ∃ k : Nat, k ≤ ss.length ∧ r = ss.length - k ∧ vi = .int .i64 k ∧ wr = w2 ∧ Hid (∀ j, j < k → goodB ss j = true))
    case atStart => exact ⟨0, by omega, by omega, rfl, rfl, Lib.hid (fun j h => by omega)⟩
    case round =>
      obtain ⟨k, hk, hr, rfl, rfl, hh⟩ := hrel
      have HR := Lib.hid hr
      clear hr
      by_cases hlt : k < ss.length
      · obtain ⟨a', cap', he, _, _, _, hc⟩ := SQ.out
        simp only [Value.slice.injEq, true_and] at he
        obtain ⟨rfl, rfl⟩ := he
        obtain ⟨b, off, hp, g⟩ := hc k hlt
        clear hc
        subst hp
        obtain ⟨s, hsn⟩ : ∃ s, nthS ss k = s := ⟨_, rfl⟩
        have HSN := Lib.hid hsn
        rw [hsn] at g
        clear hsn
        by_cases s0 : s.size = 0
        · have HF : Hid (mayB ⟨n, f, l, ss, sc, q, e⟩ = false) := Lib.hid (by rw [HM1.out]; exact textsB_bad hlt (goodB_short (by rw [HSN.out]; exact s0)))
          have e0 := toList_nil s0
          clear s0 hh
          go_wp2_with fail
          go_ret
          exact ⟨by rw [HF.out]; rfl, BW.out⟩
        obtain ⟨e0, e1⟩ := toList_some s0
        by_cases s6 : 63 < s.size
        · have HF : Hid (mayB ⟨n, f, l, ss, sc, q, e⟩ = false) := Lib.hid (by rw [HM1.out]; exact textsB_bad hlt (goodB_long (by rw [HSN.out]; exact s6)))
          have e2 : decide ((s.size : Int) > 63) = true := decide_eq_true (by omega)
          clear hh
          go_wp2_with fail
          go_ret
          exact ⟨by rw [HF.out]; rfl, BW.out⟩
        have e2 : decide ((s.size : Int) > 63) = false := decide_eq_false (by omega)
        have CI := fun w => ib_any s 0 w
        rw [show (0 : Int).toNat.toUInt8 = 0 from rfl] at CI
        obtain ⟨x, hx⟩ : ∃ x, Lib.indexByte s.data.toList 0 = x := ⟨_, rfl⟩
        have hz := zero_idx s
        rw [hx] at CI hz
        have CI := Lib.hid CI
        clear hx
        rcases hz with ⟨hz1, hz2⟩ | ⟨hz1, hz2⟩
        · have HF : Hid (mayB ⟨n, f, l, ss, sc, q, e⟩ = false) := Lib.hid (by rw [HM1.out]; exact textsB_bad hlt (goodB_zero (by rw [HSN.out]; exact hz2)))
          have e3 : decide (x ≥ 0) = true := decide_eq_true hz1
          clear hh hz2
          go_wp2_with fail
          refine (CI.out _).mono ?_
          rintro er w' ⟨rfl, rfl⟩
          go_wp2_with fail
          go_ret
          exact ⟨by rw [HF.out]; rfl, BW.out⟩
        subst hz1
        have hkc : (k : Int) ≤ (cap : Int) := by omega
        have CC := fun w' (hw : w' = wr) => contains_any (.slice (some ⟨b, off, none⟩) k cap) (ss.take k) s w' (by rw [hw]; exact Tx.Strs.take SQ.out k hk)
        obtain ⟨y, hy⟩ : ∃ y, hasS (ss.take k) s = y := ⟨_, rfl⟩
        rw [hy] at CC
        have CC := Lib.hid CC
        have HY := Lib.hid hy
        have HZ2 := Lib.hid hz2
        clear hy hz2
        cases y with
        | true =>
          have HF : Hid (mayB ⟨n, f, l, ss, sc, q, e⟩ = false) := Lib.hid (by rw [HM1.out]; exact textsB_bad hlt (goodB_dup (by rw [HSN.out]; exact HY.out)))
          clear hh
          go_wp2_with fail
          refine (CI.out _).mono ?_
          rintro er w' ⟨rfl, rfl⟩
          go_wp2_with fail
          refine (CC.out _ rfl).mono ?_
          rintro er w' ⟨rfl, rfl⟩
          go_wp2_with fail
          go_ret
          exact ⟨by rw [HF.out]; rfl, BW.out⟩
        | false =>
          have HN : Hid (∀ j, j < k + 1 → goodB ss j = true) := Lib.hid (fun j hj => by
            by_cases ej : j = k
            · subst ej
              exact goodB_yes (by rw [HSN.out]; omega) (by rw [HSN.out]; omega) (by rw [HSN.out]; exact HZ2.out) (by rw [HSN.out]; exact HY.out)
            · exact hh.out j (by omega))
          clear hh
          go_wp2_with fail
          refine (CI.out _).mono ?_
          rintro er w' ⟨rfl, rfl⟩
          go_wp2_with fail
          refine (CC.out _ rfl).mono ?_
          rintro er w' ⟨rfl, rfl⟩
          go_wp2_with fail
          go_roundg (ss.length - (k + 1))
          case measure => rw [HR.out]; omega
          case rel => exact ⟨k + 1, by omega, rfl, by first | rfl | simp, rfl, HN⟩
      · obtain rfl : k = ss.length := by omega
        have HF : Hid (mayB ⟨n, f, l, ss, sc, q, e⟩ = true) := Lib.hid (by rw [HM1.out]; exact textsB_good (by omega) (by omega) (fun j hj => hh.out j hj))
        clear hh
        go_wp2_with fail
        go_ret
        exact ⟨by rw [HF.out]; rfl, BW.out⟩
  · obtain ⟨ql, ql2⟩ := toList_some q0
    have HQ := Lib.hid q0
    clear q0
    cases b3 with
    | false =>
      have HF : Hid (mayB ⟨n, f, l, ss, sc, q, e⟩ = false) := Lib.hid (by unfold mayB; simp only; rw [E3.out, decide_eq_false HQ.out]; simp)
      go_enter Try.func70, Try.ntmps70
      go_wp2_with fail
      refine (C1.out _).mono ?_
      rintro er w1 ⟨rfl, hb⟩
      have T1 : Hid (Below (w.heap.size + 1) (w.alloc (.cells #[.string n, .string f, .int .u8 l, .slice a ss.length cap, .int .i8 sc, .string q, .int .i16 e] 50)) w1) := Lib.hid (by rw [← HZ0.out]; exact hb)
      clear hb
      obtain ⟨k0, k1, k2, k3, k4, k5, k6⟩ := box_cells T1.out
      go_wp2_with fail
      refine (C2.out _).mono ?_
      rintro er w2 ⟨rfl, hb⟩
      have T2 : Hid (Below (w.heap.size + 1) (w.alloc (.cells #[.string n, .string f, .int .u8 l, .slice a ss.length cap, .int .i8 sc, .string q, .int .i16 e] 50)) w2) := Lib.hid (T1.out.trans (hb.mono (by have := T1.out.size; rw [HZ0.out] at this; exact this)))
      clear hb
      obtain ⟨k0, k1, k2, k3, k4, k5, k6⟩ := box_cells T2.out
      go_wp2_with fail
      refine (C3.out _).mono ?_
      rintro er w3 ⟨rfl, hb⟩
      have T3 : Hid (Below (w.heap.size + 1) (w.alloc (.cells #[.string n, .string f, .int .u8 l, .slice a ss.length cap, .int .i8 sc, .string q, .int .i16 e] 50)) w3) := Lib.hid (T2.out.trans (hb.mono (by have := T2.out.size; rw [HZ0.out] at this; exact this)))
      clear hb
      obtain ⟨k0, k1, k2, k3, k4, k5, k6⟩ := box_cells T3.out
      go_wp2_with fail
      go_ret
      exact ⟨by rw [HF.out]; rfl, B0.out.trans (T3.out.mono (by omega))⟩
    | true =>
      by_cases n0 : 4 < l
      · have HF : Hid (mayB ⟨n, f, l, ss, sc, q, e⟩ = false) := Lib.hid (by unfold mayB; simp only; rw [decide_eq_false (show ¬ l ≤ 4 by omega)]; simp)
        have t1 : decide (l > 4) = true := decide_eq_true (by omega)
        go_enter Try.func70, Try.ntmps70
        go_wp2_with fail
        refine (C1.out _).mono ?_
        rintro er w1 ⟨rfl, hb⟩
        have T1 : Hid (Below (w.heap.size + 1) (w.alloc (.cells #[.string n, .string f, .int .u8 l, .slice a ss.length cap, .int .i8 sc, .string q, .int .i16 e] 50)) w1) := Lib.hid (by rw [← HZ0.out]; exact hb)
        clear hb
        obtain ⟨k0, k1, k2, k3, k4, k5, k6⟩ := box_cells T1.out
        go_wp2_with fail
        refine (C2.out _).mono ?_
        rintro er w2 ⟨rfl, hb⟩
        have T2 : Hid (Below (w.heap.size + 1) (w.alloc (.cells #[.string n, .string f, .int .u8 l, .slice a ss.length cap, .int .i8 sc, .string q, .int .i16 e] 50)) w2) := Lib.hid (T1.out.trans (hb.mono (by have := T1.out.size; rw [HZ0.out] at this; exact this)))
        clear hb
        obtain ⟨k0, k1, k2, k3, k4, k5, k6⟩ := box_cells T2.out
        go_wp2_with fail
        refine (C3.out _).mono ?_
        rintro er w3 ⟨rfl, hb⟩
        have T3 : Hid (Below (w.heap.size + 1) (w.alloc (.cells #[.string n, .string f, .int .u8 l, .slice a ss.length cap, .int .i8 sc, .string q, .int .i16 e] 50)) w3) := Lib.hid (T2.out.trans (hb.mono (by have := T2.out.size; rw [HZ0.out] at this; exact this)))
        clear hb
        obtain ⟨k0, k1, k2, k3, k4, k5, k6⟩ := box_cells T3.out
        go_wp2_with fail
        go_ret
        exact ⟨by rw [HF.out]; rfl, B0.out.trans (T3.out.mono (by omega))⟩
      have t1 : decide (l > 4) = false := decide_eq_false (by omega)
      by_cases n1 : sc < -100
      · have HF : Hid (mayB ⟨n, f, l, ss, sc, q, e⟩ = false) := Lib.hid (by unfold mayB; simp only; rw [decide_eq_false (show ¬ -100 ≤ sc by omega)]; simp)
        have t2 : decide (sc < -100) = true := decide_eq_true (by omega)
        go_enter Try.func70, Try.ntmps70
        go_wp2_with fail
        refine (C1.out _).mono ?_
        rintro er w1 ⟨rfl, hb⟩
        have T1 : Hid (Below (w.heap.size + 1) (w.alloc (.cells #[.string n, .string f, .int .u8 l, .slice a ss.length cap, .int .i8 sc, .string q, .int .i16 e] 50)) w1) := Lib.hid (by rw [← HZ0.out]; exact hb)
        clear hb
        obtain ⟨k0, k1, k2, k3, k4, k5, k6⟩ := box_cells T1.out
        go_wp2_with fail
        refine (C2.out _).mono ?_
        rintro er w2 ⟨rfl, hb⟩
        have T2 : Hid (Below (w.heap.size + 1) (w.alloc (.cells #[.string n, .string f, .int .u8 l, .slice a ss.length cap, .int .i8 sc, .string q, .int .i16 e] 50)) w2) := Lib.hid (T1.out.trans (hb.mono (by have := T1.out.size; rw [HZ0.out] at this; exact this)))
        clear hb
        obtain ⟨k0, k1, k2, k3, k4, k5, k6⟩ := box_cells T2.out
        go_wp2_with fail
        refine (C3.out _).mono ?_
        rintro er w3 ⟨rfl, hb⟩
        have T3 : Hid (Below (w.heap.size + 1) (w.alloc (.cells #[.string n, .string f, .int .u8 l, .slice a ss.length cap, .int .i8 sc, .string q, .int .i16 e] 50)) w3) := Lib.hid (T2.out.trans (hb.mono (by have := T2.out.size; rw [HZ0.out] at this; exact this)))
        clear hb
        obtain ⟨k0, k1, k2, k3, k4, k5, k6⟩ := box_cells T3.out
        go_wp2_with fail
        go_ret
        exact ⟨by rw [HF.out]; rfl, B0.out.trans (T3.out.mono (by omega))⟩
      have t2 : decide (sc < -100) = false := decide_eq_false (by omega)
      by_cases n2 : 100 < sc
      · have HF : Hid (mayB ⟨n, f, l, ss, sc, q, e⟩ = false) := Lib.hid (by unfold mayB; simp only; rw [decide_eq_false (show ¬ sc ≤ 100 by omega)]; simp)
        have t3 : decide (sc > 100) = true := decide_eq_true (by omega)
        go_enter Try.func70, Try.ntmps70
        go_wp2_with fail
        refine (C1.out _).mono ?_
        rintro er w1 ⟨rfl, hb⟩
        have T1 : Hid (Below (w.heap.size + 1) (w.alloc (.cells #[.string n, .string f, .int .u8 l, .slice a ss.length cap, .int .i8 sc, .string q, .int .i16 e] 50)) w1) := Lib.hid (by rw [← HZ0.out]; exact hb)
        clear hb
        obtain ⟨k0, k1, k2, k3, k4, k5, k6⟩ := box_cells T1.out
        go_wp2_with fail
        refine (C2.out _).mono ?_
        rintro er w2 ⟨rfl, hb⟩
        have T2 : Hid (Below (w.heap.size + 1) (w.alloc (.cells #[.string n, .string f, .int .u8 l, .slice a ss.length cap, .int .i8 sc, .string q, .int .i16 e] 50)) w2) := Lib.hid (T1.out.trans (hb.mono (by have := T1.out.size; rw [HZ0.out] at this; exact this)))
        clear hb
        obtain ⟨k0, k1, k2, k3, k4, k5, k6⟩ := box_cells T2.out
        go_wp2_with fail
        refine (C3.out _).mono ?_
        rintro er w3 ⟨rfl, hb⟩
        have T3 : Hid (Below (w.heap.size + 1) (w.alloc (.cells #[.string n, .string f, .int .u8 l, .slice a ss.length cap, .int .i8 sc, .string q, .int .i16 e] 50)) w3) := Lib.hid (T2.out.trans (hb.mono (by have := T2.out.size; rw [HZ0.out] at this; exact this)))
        clear hb
        obtain ⟨k0, k1, k2, k3, k4, k5, k6⟩ := box_cells T3.out
        go_wp2_with fail
        go_ret
        exact ⟨by rw [HF.out]; rfl, B0.out.trans (T3.out.mono (by omega))⟩
      have t3 : decide (sc > 100) = false := decide_eq_false (by omega)
      by_cases n3 : e < -1
      · have HF : Hid (mayB ⟨n, f, l, ss, sc, q, e⟩ = false) := Lib.hid (by unfold mayB; simp only; rw [decide_eq_false (show ¬ -1 ≤ e by omega)]; simp)
        have t4 : decide (e < -1) = true := decide_eq_true (by omega)
        go_enter Try.func70, Try.ntmps70
        go_wp2_with fail
        refine (C1.out _).mono ?_
        rintro er w1 ⟨rfl, hb⟩
        have T1 : Hid (Below (w.heap.size + 1) (w.alloc (.cells #[.string n, .string f, .int .u8 l, .slice a ss.length cap, .int .i8 sc, .string q, .int .i16 e] 50)) w1) := Lib.hid (by rw [← HZ0.out]; exact hb)
        clear hb
        obtain ⟨k0, k1, k2, k3, k4, k5, k6⟩ := box_cells T1.out
        go_wp2_with fail
        refine (C2.out _).mono ?_
        rintro er w2 ⟨rfl, hb⟩
        have T2 : Hid (Below (w.heap.size + 1) (w.alloc (.cells #[.string n, .string f, .int .u8 l, .slice a ss.length cap, .int .i8 sc, .string q, .int .i16 e] 50)) w2) := Lib.hid (T1.out.trans (hb.mono (by have := T1.out.size; rw [HZ0.out] at this; exact this)))
        clear hb
        obtain ⟨k0, k1, k2, k3, k4, k5, k6⟩ := box_cells T2.out
        go_wp2_with fail
        refine (C3.out _).mono ?_
        rintro er w3 ⟨rfl, hb⟩
        have T3 : Hid (Below (w.heap.size + 1) (w.alloc (.cells #[.string n, .string f, .int .u8 l, .slice a ss.length cap, .int .i8 sc, .string q, .int .i16 e] 50)) w3) := Lib.hid (T2.out.trans (hb.mono (by have := T2.out.size; rw [HZ0.out] at this; exact this)))
        clear hb
        obtain ⟨k0, k1, k2, k3, k4, k5, k6⟩ := box_cells T3.out
        go_wp2_with fail
        go_ret
        exact ⟨by rw [HF.out]; rfl, B0.out.trans (T3.out.mono (by omega))⟩
      have t4 : decide (e < -1) = false := decide_eq_false (by omega)
      by_cases n4 : 47 < e
      · have HF : Hid (mayB ⟨n, f, l, ss, sc, q, e⟩ = false) := Lib.hid (by unfold mayB; simp only; rw [decide_eq_false (show ¬ e ≤ 47 by omega)]; simp)
        have t5 : decide (e > 47) = true := decide_eq_true (by omega)
        go_enter Try.func70, Try.ntmps70
        go_wp2_with fail
        refine (C1.out _).mono ?_
        rintro er w1 ⟨rfl, hb⟩
        have T1 : Hid (Below (w.heap.size + 1) (w.alloc (.cells #[.string n, .string f, .int .u8 l, .slice a ss.length cap, .int .i8 sc, .string q, .int .i16 e] 50)) w1) := Lib.hid (by rw [← HZ0.out]; exact hb)
        clear hb
        obtain ⟨k0, k1, k2, k3, k4, k5, k6⟩ := box_cells T1.out
        go_wp2_with fail
        refine (C2.out _).mono ?_
        rintro er w2 ⟨rfl, hb⟩
        have T2 : Hid (Below (w.heap.size + 1) (w.alloc (.cells #[.string n, .string f, .int .u8 l, .slice a ss.length cap, .int .i8 sc, .string q, .int .i16 e] 50)) w2) := Lib.hid (T1.out.trans (hb.mono (by have := T1.out.size; rw [HZ0.out] at this; exact this)))
        clear hb
        obtain ⟨k0, k1, k2, k3, k4, k5, k6⟩ := box_cells T2.out
        go_wp2_with fail
        refine (C3.out _).mono ?_
        rintro er w3 ⟨rfl, hb⟩
        have T3 : Hid (Below (w.heap.size + 1) (w.alloc (.cells #[.string n, .string f, .int .u8 l, .slice a ss.length cap, .int .i8 sc, .string q, .int .i16 e] 50)) w3) := Lib.hid (T2.out.trans (hb.mono (by have := T2.out.size; rw [HZ0.out] at this; exact this)))
        clear hb
        obtain ⟨k0, k1, k2, k3, k4, k5, k6⟩ := box_cells T3.out
        go_wp2_with fail
        go_ret
        exact ⟨by rw [HF.out]; rfl, B0.out.trans (T3.out.mono (by omega))⟩
      have t5 : decide (e > 47) = false := decide_eq_false (by omega)
      by_cases m0 : ss.length = 0
      · have HF : Hid (mayB ⟨n, f, l, ss, sc, q, e⟩ = false) := Lib.hid (by unfold mayB; simp only; rw [textsB_short m0]; simp)
        have u1 : ((ss.length : Int) == 0) = true := by rw [m0]; rfl
        have HM := Lib.hid m0
        clear m0
        go_enter Try.func70, Try.ntmps70
        go_wp2_with fail
        refine (C1.out _).mono ?_
        rintro er w1 ⟨rfl, hb⟩
        have T1 : Hid (Below (w.heap.size + 1) (w.alloc (.cells #[.string n, .string f, .int .u8 l, .slice a ss.length cap, .int .i8 sc, .string q, .int .i16 e] 50)) w1) := Lib.hid (by rw [← HZ0.out]; exact hb)
        clear hb
        obtain ⟨k0, k1, k2, k3, k4, k5, k6⟩ := box_cells T1.out
        go_wp2_with fail
        refine (C2.out _).mono ?_
        rintro er w2 ⟨rfl, hb⟩
        have T2 : Hid (Below (w.heap.size + 1) (w.alloc (.cells #[.string n, .string f, .int .u8 l, .slice a ss.length cap, .int .i8 sc, .string q, .int .i16 e] 50)) w2) := Lib.hid (T1.out.trans (hb.mono (by have := T1.out.size; rw [HZ0.out] at this; exact this)))
        clear hb
        obtain ⟨k0, k1, k2, k3, k4, k5, k6⟩ := box_cells T2.out
        go_wp2_with fail
        refine (C3.out _).mono ?_
        rintro er w3 ⟨rfl, hb⟩
        have T3 : Hid (Below (w.heap.size + 1) (w.alloc (.cells #[.string n, .string f, .int .u8 l, .slice a ss.length cap, .int .i8 sc, .string q, .int .i16 e] 50)) w3) := Lib.hid (T2.out.trans (hb.mono (by have := T2.out.size; rw [HZ0.out] at this; exact this)))
        clear hb
        obtain ⟨k0, k1, k2, k3, k4, k5, k6⟩ := box_cells T3.out
        go_wp2_with fail
        go_ret
        exact ⟨by rw [HF.out]; rfl, B0.out.trans (T3.out.mono (by omega))⟩
      have u1 : ((ss.length : Int) == 0) = false := beq_eq_false_iff_ne.2 (by omega)
      by_cases m8 : 8 < ss.length
      · have HF : Hid (mayB ⟨n, f, l, ss, sc, q, e⟩ = false) := Lib.hid (by unfold mayB; simp only; rw [textsB_long m8]; simp)
        have u2 : (ss.length : Int) > 8 := by omega
        go_enter Try.func70, Try.ntmps70
        go_wp2_with fail
        refine (C1.out _).mono ?_
        rintro er w1 ⟨rfl, hb⟩
        have T1 : Hid (Below (w.heap.size + 1) (w.alloc (.cells #[.string n, .string f, .int .u8 l, .slice a ss.length cap, .int .i8 sc, .string q, .int .i16 e] 50)) w1) := Lib.hid (by rw [← HZ0.out]; exact hb)
        clear hb
        obtain ⟨k0, k1, k2, k3, k4, k5, k6⟩ := box_cells T1.out
        go_wp2_with fail
        refine (C2.out _).mono ?_
        rintro er w2 ⟨rfl, hb⟩
        have T2 : Hid (Below (w.heap.size + 1) (w.alloc (.cells #[.string n, .string f, .int .u8 l, .slice a ss.length cap, .int .i8 sc, .string q, .int .i16 e] 50)) w2) := Lib.hid (T1.out.trans (hb.mono (by have := T1.out.size; rw [HZ0.out] at this; exact this)))
        clear hb
        obtain ⟨k0, k1, k2, k3, k4, k5, k6⟩ := box_cells T2.out
        go_wp2_with fail
        refine (C3.out _).mono ?_
        rintro er w3 ⟨rfl, hb⟩
        have T3 : Hid (Below (w.heap.size + 1) (w.alloc (.cells #[.string n, .string f, .int .u8 l, .slice a ss.length cap, .int .i8 sc, .string q, .int .i16 e] 50)) w3) := Lib.hid (T2.out.trans (hb.mono (by have := T2.out.size; rw [HZ0.out] at this; exact this)))
        clear hb
        obtain ⟨k0, k1, k2, k3, k4, k5, k6⟩ := box_cells T3.out
        go_wp2_with fail
        go_ret
        exact ⟨by rw [HF.out]; rfl, B0.out.trans (T3.out.mono (by omega))⟩
      have u2 : ¬ (ss.length : Int) > 8 := by omega
      have HM1 : Hid (mayB ⟨n, f, l, ss, sc, q, e⟩ = textsB ss) := Lib.hid (by unfold mayB; simp only; rw [E1.out, E2.out, E3.out, decide_eq_false HQ.out, decide_eq_true (show l ≤ 4 by omega), decide_eq_true (show -100 ≤ sc by omega), decide_eq_true (show sc ≤ 100 by omega), decide_eq_true (show -1 ≤ e by omega), decide_eq_true (show e ≤ 47 by omega)]; simp)
      go_enter Try.func70, Try.ntmps70
      go_wp2_with fail
      refine (C1.out _).mono ?_
      rintro er w1 ⟨rfl, hb⟩
      have T1 : Hid (Below (w.heap.size + 1) (w.alloc (.cells #[.string n, .string f, .int .u8 l, .slice a ss.length cap, .int .i8 sc, .string q, .int .i16 e] 50)) w1) := Lib.hid (by rw [← HZ0.out]; exact hb)
      clear hb
      obtain ⟨k0, k1, k2, k3, k4, k5, k6⟩ := box_cells T1.out
      go_wp2_with fail
      refine (C2.out _).mono ?_
      rintro er w2 ⟨rfl, hb⟩
      have T2 : Hid (Below (w.heap.size + 1) (w.alloc (.cells #[.string n, .string f, .int .u8 l, .slice a ss.length cap, .int .i8 sc, .string q, .int .i16 e] 50)) w2) := Lib.hid (T1.out.trans (hb.mono (by have := T1.out.size; rw [HZ0.out] at this; exact this)))
      clear hb
      obtain ⟨k0, k1, k2, k3, k4, k5, k6⟩ := box_cells T2.out
      go_wp2_with fail
      refine (C3.out _).mono ?_
      rintro er w3 ⟨rfl, hb⟩
      have T3 : Hid (Below (w.heap.size + 1) (w.alloc (.cells #[.string n, .string f, .int .u8 l, .slice a ss.length cap, .int .i8 sc, .string q, .int .i16 e] 50)) w3) := Lib.hid (T2.out.trans (hb.mono (by have := T2.out.size; rw [HZ0.out] at this; exact this)))
      clear hb
      obtain ⟨k0, k1, k2, k3, k4, k5, k6⟩ := box_cells T3.out
      go_wp2_with fail
      have BW : Hid (Below w.heap.size w w3) := Lib.hid (B0.out.trans (T3.out.mono (by omega)))
      have SQ := Lib.hid (HS.out.below BW.out)
      clear C1 C2 C3 HS B0 T1 T2 T3
      unfold maxLen at hm
      go_loopg [3, 4, 64] ss.length (fun r _ _ vi wr => ∃ k : Nat, k ≤ ss.length ∧ r = ss.length - k ∧ vi = .int .i64 k ∧ wr = w3 ∧ Hid (∀ j, j < k → goodB ss j = true))
      case atStart => exact ⟨0, by omega, by omega, rfl, rfl, Lib.hid (fun j h => by omega)⟩
      case round =>
        obtain ⟨k, hk, hr, rfl, rfl, hh⟩ := hrel
        have HR := Lib.hid hr
        clear hr
        by_cases hlt : k < ss.length
        · obtain ⟨a', cap', he, _, _, _, hc⟩ := SQ.out
          simp only [Value.slice.injEq, true_and] at he
          obtain ⟨rfl, rfl⟩ := he
          obtain ⟨b, off, hp, g⟩ := hc k hlt
          clear hc
          subst hp
          obtain ⟨s, hsn⟩ : ∃ s, nthS ss k = s := ⟨_, rfl⟩
          have HSN := Lib.hid hsn
          rw [hsn] at g
          clear hsn
          by_cases s0 : s.size = 0
          · have HF : Hid (mayB ⟨n, f, l, ss, sc, q, e⟩ = false) := Lib.hid (by rw [HM1.out]; exact textsB_bad hlt (goodB_short (by rw [HSN.out]; exact s0)))
            have e0 := toList_nil s0
            clear s0 hh
            go_wp2_with fail
            go_ret
            exact ⟨by rw [HF.out]; rfl, BW.out⟩
          obtain ⟨e0, e1⟩ := toList_some s0
          by_cases s6 : 63 < s.size
          · have HF : Hid (mayB ⟨n, f, l, ss, sc, q, e⟩ = false) := Lib.hid (by rw [HM1.out]; exact textsB_bad hlt (goodB_long (by rw [HSN.out]; exact s6)))
            have e2 : decide ((s.size : Int) > 63) = true := decide_eq_true (by omega)
            clear hh
            go_wp2_with fail
            go_ret
            exact ⟨by rw [HF.out]; rfl, BW.out⟩
          have e2 : decide ((s.size : Int) > 63) = false := decide_eq_false (by omega)
          have CI := fun w => ib_any s 0 w
          rw [show (0 : Int).toNat.toUInt8 = 0 from rfl] at CI
          obtain ⟨x, hx⟩ : ∃ x, Lib.indexByte s.data.toList 0 = x := ⟨_, rfl⟩
          have hz := zero_idx s
          rw [hx] at CI hz
          have CI := Lib.hid CI
          clear hx
          rcases hz with ⟨hz1, hz2⟩ | ⟨hz1, hz2⟩
          · have HF : Hid (mayB ⟨n, f, l, ss, sc, q, e⟩ = false) := Lib.hid (by rw [HM1.out]; exact textsB_bad hlt (goodB_zero (by rw [HSN.out]; exact hz2)))
            have e3 : decide (x ≥ 0) = true := decide_eq_true hz1
            clear hh hz2
            go_wp2_with fail
            refine (CI.out _).mono ?_
            rintro er w' ⟨rfl, rfl⟩
            go_wp2_with fail
            go_ret
            exact ⟨by rw [HF.out]; rfl, BW.out⟩
          subst hz1
          have hkc : (k : Int) ≤ (cap : Int) := by omega
          have CC := fun w' (hw : w' = wr) => contains_any (.slice (some ⟨b, off, none⟩) k cap) (ss.take k) s w' (by rw [hw]; exact Tx.Strs.take SQ.out k hk)
          obtain ⟨y, hy⟩ : ∃ y, hasS (ss.take k) s = y := ⟨_, rfl⟩
          rw [hy] at CC
          have CC := Lib.hid CC
          have HY := Lib.hid hy
          have HZ2 := Lib.hid hz2
          clear hy hz2
          cases y with
          | true =>
            have HF : Hid (mayB ⟨n, f, l, ss, sc, q, e⟩ = false) := Lib.hid (by rw [HM1.out]; exact textsB_bad hlt (goodB_dup (by rw [HSN.out]; exact HY.out)))
            clear hh
            go_wp2_with fail
            refine (CI.out _).mono ?_
            rintro er w' ⟨rfl, rfl⟩
            go_wp2_with fail
            refine (CC.out _ rfl).mono ?_
            rintro er w' ⟨rfl, rfl⟩
            go_wp2_with fail
            go_ret
            exact ⟨by rw [HF.out]; rfl, BW.out⟩
          | false =>
            have HN : Hid (∀ j, j < k + 1 → goodB ss j = true) := Lib.hid (fun j hj => by
              by_cases ej : j = k
              · subst ej
                exact goodB_yes (by rw [HSN.out]; omega) (by rw [HSN.out]; omega) (by rw [HSN.out]; exact HZ2.out) (by rw [HSN.out]; exact HY.out)
              · exact hh.out j (by omega))
            clear hh
            go_wp2_with fail
            refine (CI.out _).mono ?_
            rintro er w' ⟨rfl, rfl⟩
            go_wp2_with fail
            refine (CC.out _ rfl).mono ?_
            rintro er w' ⟨rfl, rfl⟩
            go_wp2_with fail
            go_roundg (ss.length - (k + 1))
            case measure => rw [HR.out]; omega
            case rel => exact ⟨k + 1, by omega, rfl, by first | rfl | simp, rfl, HN⟩
        · obtain rfl : k = ss.length := by omega
          have HF : Hid (mayB ⟨n, f, l, ss, sc, q, e⟩ = true) := Lib.hid (by rw [HM1.out]; exact textsB_good (by omega) (by omega) (fun j hj => hh.out j hj))
          clear hh
          go_wp2_with fail
          go_ret
          exact ⟨by rw [HF.out]; rfl, BW.out⟩
end Go.Proofs.Ytnkababhgloclaa
