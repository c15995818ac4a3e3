/- Is one of the cards called so: slices.ContainsFunc at cards, with Enter's closure. -/
import Derived.Test.YtpafbnmncioppaaCheckC
namespace Go.Proofs.Ytpafbnmncioppaa
open Go.RowKit Go.Lib Tx Nm
set_option maxHeartbeats 1000000 in
theorem cl_any (n f q : ByteArray) (l s e : Int) (sl : Value) (p : Nat) (x : ByteArray) (w : World) (hx : w.cell? ⟨p, 0, none⟩ = some (.string x)) :
    Calls Try.prog 45 #[.agg #[.string n, .string f, .int .u8 l, sl, .int .i8 s, .string q, .int .i16 e], .pointer (some ⟨p, 0, none⟩)] w (GivesB (decide (n = x)) w) := by
  have hp : p < w.heap.size := World.block_lt_of_cell? w _ hx
  have b1 : Below w.heap.size w (w.alloc (.cells #[.string n, .string f, .int .u8 l, sl, .int .i8 s, .string q, .int .i16 e] 38)) := (Below.refl _ w).alloc (Nat.le_refl _) _
  have B1 := Lib.hid b1
  have g1 := (b1.cell (p := ⟨p, 0, none⟩) hp).trans hx
  clear b1 hx
  by_cases h : n = x
  · subst h
    go_enter Try.func45, Try.ntmps45
    go_wp2_with fail
    go_ret
    exact ⟨by simp, B1.out⟩
  · have HF : Hid (decide (n = x) = false) := Lib.hid (decide_eq_false h)
    have e1 := beq_no h
    clear h
    go_enter Try.func45, Try.ntmps45
    go_wp2_with fail
    go_ret
    exact ⟨by rw [HF.out]; rfl, B1.out⟩
def FoundB (b : Bool) (w : World) (e : Ending) (w' : World) : Prop := ∃ x : Int, e = .returned (.int .i64 x) ∧ decide (0 ≤ x) = b ∧ Below w.heap.size w w'
set_option maxHeartbeats 4000000 in
set_option maxRecDepth 100000 in
theorem find_any (v : Value) (cs : List Cd) (p : Nat) (x : ByteArray) (w : World) (hv : CardsAt w v cs) (hx : w.cell? ⟨p, 0, none⟩ = some (.string x)) :
    Calls Try.prog 54 #[v, .func (.func 45) #[] #[.pointer (some ⟨p, 0, none⟩)]] w (FoundB (namedB cs x) w) := by
  have HV := Lib.hid hv
  have HX := Lib.hid hx
  have HP : Hid (p < w.heap.size) := Lib.hid (World.block_lt_of_cell? w _ hx)
  obtain ⟨a, cap, rfl, ⟨hm, hmc⟩, _, _⟩ := hv
  unfold maxLen at hm
  clear hx
  go_enter Try.func54, Try.ntmps54
  go_wp2_with fail
  go_loopg [5, 8] cs.length (fun r _ vi wr => ∃ k : Nat, k ≤ cs.length ∧ r = cs.length - k ∧ vi = .int .i64 k ∧ Hid (Below w.heap.size w wr ∧ ∀ j, j < k → (nthC cs j).name ≠ x))
  case atStart => exact ⟨0, by omega, by omega, rfl, Lib.hid ⟨Below.refl _ _, fun j h => by omega⟩⟩
  case round =>
    obtain ⟨k, hk, hr, rfl, hq⟩ := hrel
    have HR := Lib.hid hr
    have HB := Lib.hid hq.out.1
    have HG := Lib.hid hq.out.2
    clear hr hq
    by_cases hlt : k < cs.length
    · have HVr := Lib.hid (CardsAt.below HV.out HB.out)
      obtain ⟨hy, b, off, sl, hp, g, hst⟩ := CardsAt.at HVr.out k hlt
      clear hy hst
      subst hp
      obtain ⟨c, hc⟩ : ∃ c, nthC cs k = c := ⟨_, rfl⟩
      rw [hc] at g
      have HC := Lib.hid hc
      obtain ⟨n, f, l, ss, sc, q, en⟩ := c
      have g0 : wr.cell? ⟨b, off + k * 7, none⟩ = some (.string n) := g 0 _ rfl
      have g1 : wr.cell? ⟨b, off + k * 7 + 1, none⟩ = some (.string f) := g 1 _ rfl
      have g2 : wr.cell? ⟨b, off + k * 7 + 2, none⟩ = some (.int .u8 l) := g 2 _ rfl
      have g3 : wr.cell? ⟨b, off + k * 7 + 3, none⟩ = some sl := g 3 _ rfl
      have g4 : wr.cell? ⟨b, off + k * 7 + 4, none⟩ = some (.int .i8 sc) := g 4 _ rfl
      have g5 : wr.cell? ⟨b, off + k * 7 + 5, none⟩ = some (.string q) := g 5 _ rfl
      have g6 : wr.cell? ⟨b, off + k * 7 + 6, none⟩ = some (.int .i16 en) := g 6 _ rfl
      clear hc g
      have hkc1 : (0 : Int) ≤ (k : Int) := by omega
      have hkc2 : (k : Int) < (cs.length : Int) := by omega
      have CM := Lib.hid (cl_any n f q l sc en sl p x wr ((HB.out.cell (p := ⟨p, 0, none⟩) HP.out).trans HX.out))
      by_cases he : n = x
      · have HF := Lib.hid (namedB_yes (x := x) hlt (by rw [HC.out]; exact he))
        have HD : Hid (decide (n = x) = true) := Lib.hid (decide_eq_true he)
        clear he
        go_wp2_with fail
        refine CM.out.mono ?_
        rintro er w1 ⟨rfl, hb⟩
        rw [HD.out]
        have B1 := Lib.hid (HB.out.trans (hb.mono HB.out.size))
        clear hb
        go_wp2_with fail
        go_ret
        exact ⟨_, rfl, by rw [HF.out]; exact decide_eq_true (by omega), B1.out⟩
      · have HN : Hid (∀ j, j < k + 1 → (nthC cs j).name ≠ x) := Lib.hid (fun j hj => by
          by_cases e : j = k
          · subst e; rw [HC.out]; exact he
          · exact HG.out j (by omega))
        have HD : Hid (decide (n = x) = false) := Lib.hid (decide_eq_false he)
        clear he
        go_wp2_with fail
        refine CM.out.mono ?_
        rintro er w1 ⟨rfl, hb⟩
        rw [HD.out]
        have B1 := Lib.hid (HB.out.trans (hb.mono HB.out.size))
        clear hb
        go_wp2_with fail
        go_roundg (cs.length - (k + 1))
        case measure => rw [HR.out]; omega
        case rel => exact ⟨k + 1, by omega, rfl, by first | rfl | simp, Lib.hid ⟨B1.out, HN.out⟩⟩
    · obtain rfl : k = cs.length := by omega
      have HF := Lib.hid (namedB_no (fun j hj => HG.out j hj))
      go_wp2_with fail
      go_ret
      exact ⟨_, rfl, by rw [HF.out]; rfl, HB.out⟩
set_option maxHeartbeats 1000000 in
theorem has_any (v : Value) (cs : List Cd) (p : Nat) (x : ByteArray) (w : World) (hv : CardsAt w v cs) (hx : w.cell? ⟨p, 0, none⟩ = some (.string x)) :
    Calls Try.prog 44 #[v, .func (.func 45) #[] #[.pointer (some ⟨p, 0, none⟩)]] w (GivesB (namedB cs x) w) := by
  have C := Lib.hid (find_any v cs p x w hv hx)
  clear hv hx
  generalize namedB cs x = m at C ⊢
  go_enter Try.func44, Try.ntmps44
  go_wp2_with fail
  refine C.out.mono ?_
  rintro er w1 ⟨i, rfl, hi, hb⟩
  have HB := Lib.hid hb
  clear hb
  cases m with
  | true =>
    have d1 : decide (i ≥ 0) = true := hi
    have d2 : (0 : Int) ≤ i := of_decide_eq_true hi
    clear hi
    go_wp2_with fail
    go_ret
    exact ⟨by first | rfl | simp, HB.out⟩
  | false =>
    have d1 : decide (i ≥ 0) = false := hi
    have d2 : ¬ (0 : Int) ≤ i := of_decide_eq_false hi
    clear hi
    go_wp2_with fail
    go_ret
    exact ⟨by first | rfl | simp, HB.out⟩
end Go.Proofs.Ytpafbnmncioppaa
