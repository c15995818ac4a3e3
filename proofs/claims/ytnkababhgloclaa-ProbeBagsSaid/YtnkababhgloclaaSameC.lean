/- Whether two cards are the same: slices.Equal, card.Same, the document's Same. (Printed by tools/gensame.py.) -/
import Derived.Test.YtnkababhgloclaaMayC
namespace Go.Proofs.Ytnkababhgloclaa
open Go.RowKit Go.Lib Tx Nm
theorem strs_ext {ss tt : List ByteArray} (h : ss.length = tt.length) (g : ∀ j, j < ss.length → nthS ss j = nthS tt j) : ss = tt := by
  apply List.ext_getElem h
  intro i h1 h2
  have := g i h1
  rwa [nthS_eq h1, nthS_eq h2] at this
theorem lens_ne {a b : Nat} (h : a ≠ b) : decide ((a : Int) = (b : Int)) = false := decide_eq_false (by omega)
def sameB (c d : Cd) : Bool := decide (c.name = d.name) && decide (c.fam = d.fam) && decide (c.lvl = d.lvl) && decide (c.score = d.score) && decide (c.quirk = d.quirk) && decide (c.ent = d.ent) && decide (c.comp = d.comp)

set_option maxHeartbeats 8000000 in
set_option maxRecDepth 100000 in
theorem rsame_walk (n f q n' f' q' : ByteArray) (l sc e l' sc' e' : Int) (ss tt : List ByteArray) (sl sm : Value) (w : World) (hs : Strs w sl ss) (ht : Strs w sm tt) :
    Calls Try.prog 24 #[.agg #[.string n, .string f, .int .u8 l, sl, .int .i8 sc, .string q, .int .i16 e], .agg #[.string n', .string f', .int .u8 l', sm, .int .i8 sc', .string q', .int .i16 e']] w (GivesB (sameB ⟨n, f, l, ss, sc, q, e⟩ ⟨n', f', l', tt, sc', q', e'⟩) w) := by
  have HS := Lib.hid hs
  have HT := Lib.hid ht
  obtain ⟨a, cap, hsl, hm, _, _, hc⟩ := hs
  obtain ⟨a', cap', hsm, hm', _, _, hc'⟩ := ht
  have HC := Lib.hid hc
  have HC' := Lib.hid hc'
  subst hsl hsm
  unfold maxLen at hm hm'
  clear hc hc'
  have B0 : Hid (Below w.heap.size w ((w.alloc (.cells #[.string n, .string f, .int .u8 l, .slice a ss.length cap, .int .i8 sc, .string q, .int .i16 e] 50)).alloc (.cells #[.string n', .string f', .int .u8 l', .slice a' tt.length cap', .int .i8 sc', .string q', .int .i16 e'] 50))) := Lib.hid (((Below.refl _ w).alloc (Nat.le_refl _) _).alloc (by simp) _)
  by_cases d0 : n = n'
  case neg =>
    have HF : Hid (sameB ⟨n, f, l, ss, sc, q, e⟩ ⟨n', f', l', tt, sc', q', e'⟩ = false) := Lib.hid (by unfold sameB; simp only; rw [decide_eq_false d0]; simp)
    have e0 := beq_no d0
    go_enter Try.func24, Try.ntmps24
    go_wp2_with fail
    go_ret
    exact ⟨by rw [HF.out]; rfl, B0.out⟩
  subst d0
  by_cases d1 : f = f'
  case neg =>
    have HF : Hid (sameB ⟨n, f, l, ss, sc, q, e⟩ ⟨n, f', l', tt, sc', q', e'⟩ = false) := Lib.hid (by unfold sameB; simp only; rw [decide_eq_false d1]; simp)
    have e1 := beq_no d1
    go_enter Try.func24, Try.ntmps24
    go_wp2_with fail
    go_ret
    exact ⟨by rw [HF.out]; rfl, B0.out⟩
  subst d1
  by_cases d2 : l = l'
  case neg =>
    have HF : Hid (sameB ⟨n, f, l, ss, sc, q, e⟩ ⟨n, f, l', tt, sc', q', e'⟩ = false) := Lib.hid (by unfold sameB; simp only; rw [decide_eq_false d2]; simp)
    have e2 := decide_eq_false d2
    go_enter Try.func24, Try.ntmps24
    go_wp2_with fail
    go_ret
    exact ⟨by rw [HF.out]; rfl, B0.out⟩
  subst d2
  by_cases d3 : sc = sc'
  case neg =>
    have HF : Hid (sameB ⟨n, f, l, ss, sc, q, e⟩ ⟨n, f, l, tt, sc', q', e'⟩ = false) := Lib.hid (by unfold sameB; simp only; rw [decide_eq_false d3]; simp)
    have e3 := decide_eq_false d3
    go_enter Try.func24, Try.ntmps24
    go_wp2_with fail
    go_ret
    exact ⟨by rw [HF.out]; rfl, B0.out⟩
  subst d3
  by_cases d4 : q = q'
  case neg =>
    have HF : Hid (sameB ⟨n, f, l, ss, sc, q, e⟩ ⟨n, f, l, tt, sc, q', e'⟩ = false) := Lib.hid (by unfold sameB; simp only; rw [decide_eq_false d4]; simp)
    have e4 := beq_no d4
    go_enter Try.func24, Try.ntmps24
    go_wp2_with fail
    go_ret
    exact ⟨by rw [HF.out]; rfl, B0.out⟩
  subst d4
  by_cases d5 : e = e'
  case neg =>
    have HF : Hid (sameB ⟨n, f, l, ss, sc, q, e⟩ ⟨n, f, l, tt, sc, q, e'⟩ = false) := Lib.hid (by unfold sameB; simp only; rw [decide_eq_false d5]; simp)
    have e5 := decide_eq_false d5
    go_enter Try.func24, Try.ntmps24
    go_wp2_with fail
    go_ret
    exact ⟨by rw [HF.out]; rfl, B0.out⟩
  subst d5
  by_cases hl : ss.length = tt.length
  case neg =>
    have HF : Hid (sameB ⟨n, f, l, ss, sc, q, e⟩ ⟨n, f, l, tt, sc, q, e⟩ = false) := Lib.hid (by unfold sameB; simp only; rw [decide_eq_false (show ¬ ss = tt from fun h => hl (by rw [h]))]; simp)
    have e6 := lens_ne hl
    go_enter Try.func24, Try.ntmps24
    go_wp2_with fail
    go_ret
    exact ⟨by rw [HF.out]; rfl, B0.out⟩
  have HL := Lib.hid hl
  have HE : Hid (sameB ⟨n, f, l, ss, sc, q, e⟩ ⟨n, f, l, tt, sc, q, e⟩ = decide (ss = tt)) := Lib.hid (by unfold sameB; simp only; simp)
  have hz : (w.alloc (.cells #[.string n, .string f, .int .u8 l, .slice a ss.length cap, .int .i8 sc, .string q, .int .i16 e] 50)).heap.size = w.heap.size + 1 := by simp
  have HK : Hid (((w.alloc (.cells #[.string n, .string f, .int .u8 l, .slice a ss.length cap, .int .i8 sc, .string q, .int .i16 e] 50)).alloc (.cells #[.string n, .string f, .int .u8 l, .slice a' tt.length cap', .int .i8 sc, .string q, .int .i16 e] 50)).cell? ⟨w.heap.size, 3, none⟩ = some (.slice a ss.length cap) ∧ ((w.alloc (.cells #[.string n, .string f, .int .u8 l, .slice a ss.length cap, .int .i8 sc, .string q, .int .i16 e] 50)).alloc (.cells #[.string n, .string f, .int .u8 l, .slice a' tt.length cap', .int .i8 sc, .string q, .int .i16 e] 50)).cell? ⟨w.heap.size + 1, 3, none⟩ = some (.slice a' tt.length cap')) := Lib.hid ⟨(box_cells ((Below.refl _ _).alloc (by simp) _)).2.2.2.1, by
    have := (box_cells (w := w.alloc (.cells #[.string n, .string f, .int .u8 l, .slice a ss.length cap, .int .i8 sc, .string q, .int .i16 e] 50)) (Below.refl _ (w.alloc (.cells #[.string n, .string f, .int .u8 l, .slice a ss.length cap, .int .i8 sc, .string q, .int .i16 e] 50) |>.alloc (.cells #[.string n, .string f, .int .u8 l, .slice a' tt.length cap', .int .i8 sc, .string q, .int .i16 e] 50)))).2.2.2.1
    rwa [hz] at this⟩
  rw [← hl] at HK B0 hm'
  rw [← hl]
  clear hl hz
  go_enter Try.func24, Try.ntmps24
  go_wp2_with fail
  go_loopg [5] ss.length (fun r vi wr => ∃ k : Nat, k ≤ ss.length ∧ r = ss.length - k ∧ vi = .int .i64 k ∧ Hid (∃ p, wr = ((w.alloc (.cells #[.string n, .string f, .int .u8 l, .slice a ss.length cap, .int .i8 sc, .string q, .int .i16 e] 50)).alloc (.cells #[.string n, .string f, .int .u8 l, .slice a' ss.length cap', .int .i8 sc, .string q, .int .i16 e] 50)).drewN p) ∧ Hid (∀ j, j < k → nthS ss j = nthS tt j))
  case atStart => exact ⟨0, by omega, by omega, rfl, Lib.hid ⟨0, rfl⟩, Lib.hid (fun j h => by omega)⟩
  case round =>
    obtain ⟨k, hk, hr, rfl, hq, hh⟩ := hrel
    have HR := Lib.hid hr
    clear hr
    obtain ⟨n0, hwr⟩ := hq.out
    have HW := Lib.hid hwr
    have k3 : wr.cell? ⟨w.heap.size, 3, none⟩ = some (.slice a ss.length cap) := by rw [hwr]; exact HK.out.1
    have k3' : wr.cell? ⟨w.heap.size + 1, 3, none⟩ = some (.slice a' ss.length cap') := by rw [hwr]; exact HK.out.2
    clear hq
    have hkl : k ≤ tt.length := by rw [← HL.out]; exact hk
    by_cases hlt : k < ss.length
    · have hlt' : k < tt.length := by rw [← HL.out]; exact hlt
      obtain ⟨b, off, hp, g⟩ := HC.out k hlt
      obtain ⟨b', off', hp', g'⟩ := HC'.out k hlt'
      subst hp hp'
      have HB : Hid (Below w.heap.size w wr) := Lib.hid (by rw [hwr]; exact below_drewN B0.out _)
      have hb1 : b < w.heap.size := World.block_lt_of_cell? w _ g
      have hb2 : b' < w.heap.size := World.block_lt_of_cell? w _ g'
      replace g : wr.cell? ⟨b, off + k, none⟩ = some (.string (nthS ss k)) := (HB.out.cell (p := ⟨b, off + k, none⟩) hb1).trans g
      replace g' : wr.cell? ⟨b', off' + k, none⟩ = some (.string (nthS tt k)) := (HB.out.cell (p := ⟨b', off' + k, none⟩) hb2).trans g'
      clear hwr hb1 hb2
      by_cases he : nthS ss k = nthS tt k
      · have HN : Hid (∀ j, j < k + 1 → nthS ss j = nthS tt j) := Lib.hid (fun j hj => by
          by_cases e : j = k
          · subst e; exact he
          · exact hh.out j (by omega))
        have e1 := beq_yes he
        obtain ⟨y, hy⟩ : ∃ y, nthS ss k = y := ⟨_, rfl⟩
        obtain ⟨z, hz⟩ : ∃ y, nthS tt k = y := ⟨_, rfl⟩
        rw [hy] at g e1
        rw [hz] at g' e1
        clear hy hz he hh
        go_wp2_with fail
        go_quiet (fail)
        go_wp2_with fail
        go_roundg (ss.length - (k + 1))
        case measure => rw [HR.out]; omega
        case rel => exact ⟨k + 1, by omega, rfl, by first | rfl | simp, Lib.hid ⟨n0 + _, by rw [HW.out, World.drewN_drewN]⟩, HN⟩
      · have HF : Hid (decide (ss = tt) = false) := Lib.hid (decide_eq_false (fun h => he (by rw [h])))
        have e1 := beq_no he
        obtain ⟨y, hy⟩ : ∃ y, nthS ss k = y := ⟨_, rfl⟩
        obtain ⟨z, hz⟩ : ∃ y, nthS tt k = y := ⟨_, rfl⟩
        rw [hy] at g e1
        rw [hz] at g' e1
        clear hy hz he hh
        go_wp2_with fail
        go_quiet (fail)
        go_wp2_with fail
        go_ret
        exact ⟨by rw [HE.out, HF.out]; rfl, below_drewN HB.out _⟩
    · obtain rfl : k = ss.length := by omega
      have HF : Hid (decide (ss = tt) = true) := Lib.hid (decide_eq_true (strs_ext HL.out hh.out))
      have HB : Hid (Below w.heap.size w wr) := Lib.hid (by rw [hwr]; exact below_drewN B0.out _)
      clear hwr
      go_wp2_with fail
      go_ret
      exact ⟨by rw [HE.out, HF.out]; rfl, HB.out⟩
theorem rsame_any (c d : Cd) (sl sm : Value) (w : World) (hs : Strs w sl c.comp) (ht : Strs w sm d.comp) : Calls Try.prog 24 #[.agg (c.cells sl).toArray, .agg (d.cells sm).toArray] w (GivesB (sameB c d) w) :=
  rsame_walk c.name c.fam c.quirk d.name d.fam d.quirk c.lvl c.score c.ent d.lvl d.score d.ent c.comp d.comp sl sm w hs ht
end Go.Proofs.Ytnkababhgloclaa
