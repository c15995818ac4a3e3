/- Whether a card may be: the document's May. (Printed by tools/genmay.py.) -/
import Derived.Test.YtnkababhgloclaaMayC
namespace Go.Proofs.Ytnkababhgloclaa
open Go.RowKit Go.Lib Tx Nm
set_option maxHeartbeats 8000000 in
set_option maxRecDepth 100000 in
theorem rmay_walk (n f q : ByteArray) (l sc e : Int) (ss : List ByteArray) (sl : Value) (w : World) (hs : Strs w sl ss) (hok : Cd.ok ⟨n, f, l, ss, sc, q, e⟩) :
    Calls Try.prog 58 #[.agg #[.string n, .string f, .int .u8 l, sl, .int .i8 sc, .string q, .int .i16 e]] w (GivesB (mayB ⟨n, f, l, ss, sc, q, e⟩) w) := by
  obtain ⟨o1, o2, o3, o4, o5, o6⟩ := hok
  simp only at o1 o2 o3 o4 o5 o6
  have HS := Lib.hid hs
  obtain ⟨a, cap, hsl, hm, hnc, hnil, _⟩ := hs
  subst hsl
  have B0 : Hid (Below w.heap.size w (w.alloc (.cells #[.string n, .string f, .int .u8 l, .slice a ss.length cap, .int .i8 sc, .string q, .int .i16 e] 50))) := Lib.hid ((Below.refl _ w).alloc (Nat.le_refl _) _)
  have hz0 : (w.alloc (.cells #[.string n, .string f, .int .u8 l, .slice a ss.length cap, .int .i8 sc, .string q, .int .i16 e] 50)).heap.size = w.heap.size + 1 := by simp
  have HZ0 := Lib.hid hz0
  clear hz0
  have HT := Lib.hid (fun w' (hb : Below w.heap.size w w') => rtexts_any (.slice a ss.length cap) ss w' (HS.out.below hb))
  have C1 := fun w => rname_any n w
  have C2 := fun w => rname_any f w
  have C3 := fun w => rname_any q w
  obtain ⟨b1, hb1⟩ : ∃ b, nameB n = b := ⟨_, rfl⟩
  obtain ⟨b2, hb2⟩ : ∃ b, nameB f = b := ⟨_, rfl⟩
  obtain ⟨b3, hb3⟩ : ∃ b, nameB q = b := ⟨_, rfl⟩
  rw [hb1] at C1
  rw [hb2] at C2
  rw [hb3] at C3
  have C1 := Lib.hid C1
  have C2 := Lib.hid C2
  have C3 := Lib.hid C3
  have E1 := Lib.hid hb1
  have E2 := Lib.hid hb2
  have E3 := Lib.hid hb3
  clear hb1 hb2 hb3
  cases b1 with
  | false =>
    have HF : Hid (mayB ⟨n, f, l, ss, sc, q, e⟩ = false) := Lib.hid (by unfold mayB; simp only; rw [E1.out]; simp)
    go_enter Try.func58, Try.ntmps58
    go_wp2_with fail
    refine (C1.out _).mono ?_
    rintro er w1 ⟨rfl, rfl⟩
    go_wp2_with fail
    go_ret
    exact ⟨by rw [HF.out]; rfl, B0.out⟩
  | true =>
  cases b2 with
  | false =>
    have HF : Hid (mayB ⟨n, f, l, ss, sc, q, e⟩ = false) := Lib.hid (by unfold mayB; simp only; rw [E2.out]; simp)
    go_enter Try.func58, Try.ntmps58
    go_wp2_with fail
    refine (C1.out _).mono ?_
    rintro er w1 ⟨rfl, rfl⟩
    go_wp2_with fail
    refine (C2.out _).mono ?_
    rintro er w1 ⟨rfl, rfl⟩
    go_wp2_with fail
    go_ret
    exact ⟨by rw [HF.out]; rfl, B0.out⟩
  | true =>
  by_cases n0 : 4 < l
  · have t0 : decide (l ≤ 4) = false := decide_eq_false (by omega)
    have HF : Hid (mayB ⟨n, f, l, ss, sc, q, e⟩ = false) := Lib.hid (by unfold mayB; simp only; rw [decide_eq_false (show ¬ l ≤ 4 by omega)]; simp)
    go_enter Try.func58, Try.ntmps58
    go_wp2_with fail
    refine (C1.out _).mono ?_
    rintro er w1 ⟨rfl, rfl⟩
    go_wp2_with fail
    refine (C2.out _).mono ?_
    rintro er w1 ⟨rfl, rfl⟩
    go_wp2_with fail
    go_ret
    exact ⟨by rw [HF.out]; rfl, B0.out⟩
  have t0 : decide (l ≤ 4) = true := decide_eq_true (by omega)
  by_cases n1 : sc < -100
  · have t1 : decide (sc ≥ -100) = false := decide_eq_false (by omega)
    have HF : Hid (mayB ⟨n, f, l, ss, sc, q, e⟩ = false) := Lib.hid (by unfold mayB; simp only; rw [decide_eq_false (show ¬ -100 ≤ sc by omega)]; simp)
    go_enter Try.func58, Try.ntmps58
    go_wp2_with fail
    refine (C1.out _).mono ?_
    rintro er w1 ⟨rfl, rfl⟩
    go_wp2_with fail
    refine (C2.out _).mono ?_
    rintro er w1 ⟨rfl, rfl⟩
    go_wp2_with fail
    go_ret
    exact ⟨by rw [HF.out]; rfl, B0.out⟩
  have t1 : decide (sc ≥ -100) = true := decide_eq_true (by omega)
  by_cases n2 : 100 < sc
  · have t2 : decide (sc ≤ 100) = false := decide_eq_false (by omega)
    have HF : Hid (mayB ⟨n, f, l, ss, sc, q, e⟩ = false) := Lib.hid (by unfold mayB; simp only; rw [decide_eq_false (show ¬ sc ≤ 100 by omega)]; simp)
    go_enter Try.func58, Try.ntmps58
    go_wp2_with fail
    refine (C1.out _).mono ?_
    rintro er w1 ⟨rfl, rfl⟩
    go_wp2_with fail
    refine (C2.out _).mono ?_
    rintro er w1 ⟨rfl, rfl⟩
    go_wp2_with fail
    go_ret
    exact ⟨by rw [HF.out]; rfl, B0.out⟩
  have t2 : decide (sc ≤ 100) = true := decide_eq_true (by omega)
  by_cases q0 : q.size = 0
  · have ql := toList_nil q0
    have HQ := Lib.hid q0
    clear q0
    by_cases m0 : e < -1
    · have u0 : decide (e ≥ -1) = false := decide_eq_false (by omega)
      have HF : Hid (mayB ⟨n, f, l, ss, sc, q, e⟩ = false) := Lib.hid (by unfold mayB; simp only; rw [decide_eq_false (show ¬ -1 ≤ e by omega)]; simp)
      go_enter Try.func58, Try.ntmps58
      go_wp2_with fail
      refine (C1.out _).mono ?_
      rintro er w1 ⟨rfl, rfl⟩
      go_wp2_with fail
      refine (C2.out _).mono ?_
      rintro er w1 ⟨rfl, rfl⟩
      go_wp2_with fail
      go_ret
      exact ⟨by rw [HF.out]; rfl, B0.out⟩
    have u0 : decide (e ≥ -1) = true := decide_eq_true (by omega)
    by_cases m1 : 47 < e
    · have u1 : decide (e ≤ 47) = false := decide_eq_false (by omega)
      have HF : Hid (mayB ⟨n, f, l, ss, sc, q, e⟩ = false) := Lib.hid (by unfold mayB; simp only; rw [decide_eq_false (show ¬ e ≤ 47 by omega)]; simp)
      go_enter Try.func58, Try.ntmps58
      go_wp2_with fail
      refine (C1.out _).mono ?_
      rintro er w1 ⟨rfl, rfl⟩
      go_wp2_with fail
      refine (C2.out _).mono ?_
      rintro er w1 ⟨rfl, rfl⟩
      go_wp2_with fail
      go_ret
      exact ⟨by rw [HF.out]; rfl, B0.out⟩
    have u1 : decide (e ≤ 47) = true := decide_eq_true (by omega)
    have HM1 : Hid (mayB ⟨n, f, l, ss, sc, q, e⟩ = textsB ss) := Lib.hid (by unfold mayB; simp only; rw [E1.out, E2.out, decide_eq_true HQ.out, decide_eq_true (show l ≤ 4 by omega), decide_eq_true (show -100 ≤ sc by omega), decide_eq_true (show sc ≤ 100 by omega), decide_eq_true (show -1 ≤ e by omega), decide_eq_true (show e ≤ 47 by omega)]; simp)
    have CT := Lib.hid (HT.out _ B0.out)
    obtain ⟨b, hb⟩ : ∃ b, textsB ss = b := ⟨_, rfl⟩
    rw [hb] at CT HM1
    clear hb
    go_enter Try.func58, Try.ntmps58
    go_wp2_with fail
    refine (C1.out _).mono ?_
    rintro er w1 ⟨rfl, rfl⟩
    go_wp2_with fail
    refine (C2.out _).mono ?_
    rintro er w1 ⟨rfl, rfl⟩
    go_wp2_with fail
    refine CT.out.mono ?_
    rintro er w1 ⟨rfl, nd, rfl⟩
    go_wp2_with fail
    go_ret
    exact ⟨by rw [HM1.out]; rfl, below_drewN B0.out nd⟩
  · obtain ⟨ql, ql2⟩ := toList_some q0
    have HQ := Lib.hid q0
    clear q0
    cases b3 with
    | false =>
      have HF : Hid (mayB ⟨n, f, l, ss, sc, q, e⟩ = false) := Lib.hid (by unfold mayB; simp only; rw [E3.out, decide_eq_false HQ.out]; simp)
      go_enter Try.func58, Try.ntmps58
      go_wp2_with fail
      refine (C1.out _).mono ?_
      rintro er w1 ⟨rfl, rfl⟩
      go_wp2_with fail
      refine (C2.out _).mono ?_
      rintro er w1 ⟨rfl, rfl⟩
      go_wp2_with fail
      refine (C3.out _).mono ?_
      rintro er w1 ⟨rfl, rfl⟩
      go_wp2_with fail
      go_ret
      exact ⟨by rw [HF.out]; rfl, B0.out⟩
    | true =>
      by_cases m0 : e < -1
      · have u0 : decide (e ≥ -1) = false := decide_eq_false (by omega)
        have HF : Hid (mayB ⟨n, f, l, ss, sc, q, e⟩ = false) := Lib.hid (by unfold mayB; simp only; rw [decide_eq_false (show ¬ -1 ≤ e by omega)]; simp)
        go_enter Try.func58, Try.ntmps58
        go_wp2_with fail
        refine (C1.out _).mono ?_
        rintro er w1 ⟨rfl, rfl⟩
        go_wp2_with fail
        refine (C2.out _).mono ?_
        rintro er w1 ⟨rfl, rfl⟩
        go_wp2_with fail
        refine (C3.out _).mono ?_
        rintro er w1 ⟨rfl, rfl⟩
        go_wp2_with fail
        go_ret
        exact ⟨by rw [HF.out]; rfl, B0.out⟩
      have u0 : decide (e ≥ -1) = true := decide_eq_true (by omega)
      by_cases m1 : 47 < e
      · have u1 : decide (e ≤ 47) = false := decide_eq_false (by omega)
        have HF : Hid (mayB ⟨n, f, l, ss, sc, q, e⟩ = false) := Lib.hid (by unfold mayB; simp only; rw [decide_eq_false (show ¬ e ≤ 47 by omega)]; simp)
        go_enter Try.func58, Try.ntmps58
        go_wp2_with fail
        refine (C1.out _).mono ?_
        rintro er w1 ⟨rfl, rfl⟩
        go_wp2_with fail
        refine (C2.out _).mono ?_
        rintro er w1 ⟨rfl, rfl⟩
        go_wp2_with fail
        refine (C3.out _).mono ?_
        rintro er w1 ⟨rfl, rfl⟩
        go_wp2_with fail
        go_ret
        exact ⟨by rw [HF.out]; rfl, B0.out⟩
      have u1 : decide (e ≤ 47) = true := decide_eq_true (by omega)
      have HM1 : Hid (mayB ⟨n, f, l, ss, sc, q, e⟩ = textsB ss) := Lib.hid (by unfold mayB; simp only; rw [E1.out, E2.out, E3.out, decide_eq_false HQ.out, decide_eq_true (show l ≤ 4 by omega), decide_eq_true (show -100 ≤ sc by omega), decide_eq_true (show sc ≤ 100 by omega), decide_eq_true (show -1 ≤ e by omega), decide_eq_true (show e ≤ 47 by omega)]; simp)
      have CT := Lib.hid (HT.out _ B0.out)
      obtain ⟨b, hb⟩ : ∃ b, textsB ss = b := ⟨_, rfl⟩
      rw [hb] at CT HM1
      clear hb
      go_enter Try.func58, Try.ntmps58
      go_wp2_with fail
      refine (C1.out _).mono ?_
      rintro er w1 ⟨rfl, rfl⟩
      go_wp2_with fail
      refine (C2.out _).mono ?_
      rintro er w1 ⟨rfl, rfl⟩
      go_wp2_with fail
      refine (C3.out _).mono ?_
      rintro er w1 ⟨rfl, rfl⟩
      go_wp2_with fail
      refine CT.out.mono ?_
      rintro er w1 ⟨rfl, nd, rfl⟩
      go_wp2_with fail
      go_ret
      exact ⟨by rw [HM1.out]; rfl, below_drewN B0.out nd⟩
theorem may_any (c : Cd) (sl : Value) (w : World) (hs : Strs w sl c.comp) (hok : c.ok) : Calls Try.prog 70 #[.agg (c.cells sl).toArray] w (GivesB (mayB c) w) :=
  may_walk c.name c.fam c.quirk c.lvl c.score c.ent c.comp sl w hs hok
theorem rmay_any (c : Cd) (sl : Value) (w : World) (hs : Strs w sl c.comp) (hok : c.ok) : Calls Try.prog 58 #[.agg (c.cells sl).toArray] w (GivesB (mayB c) w) :=
  rmay_walk c.name c.fam c.quirk c.lvl c.score c.ent c.comp sl w hs hok
end Go.Proofs.Ytnkababhgloclaa
