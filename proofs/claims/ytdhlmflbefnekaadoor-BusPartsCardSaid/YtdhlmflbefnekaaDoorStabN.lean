/- The library's stable sort at elements of one cell, whatever the test 'cmp' lays: swapRange, rotate, symMerge, stable. Printed by tools/genstab.py. -/
import Derived.Test.YtdhlmflbefnekaaDoorStabM
import Derived.Test.YtdhlmflbefnekaaDoorStabS
import Derived.Test.YtdhlmflbefnekaaDoorBase
import Derived.Shelf.SlSortCmp.Kit1
import Derived.Deep.LoopGhost
import Derived.KernelRfl
import Derived.Lib.Hide
namespace Go.Proofs.YtdhlmflbefnekaaDoor
namespace Stb
open Go.Shelf Go.RowKit Go.Lib Go.Sort
variable {α : Type} [Inhabited α]
/-- What the rotation leaves to be done, and what it comes to. -/
def Whole (ct lt : α → α → Bool) (a s mid ed b : Nat) (d e : Array α) : Prop :=
  Halves ct lt a s mid e ∧ ∀ e1, PermIn a mid e e1 → SortedIn lt a mid e1 → Halves ct lt mid ed b e1 ∧ (¬ (mid < ed ∧ ed < b) → PermIn a b d e1 ∧ SortedIn lt a b e1) ∧ ∀ e2, PermIn mid b e1 e2 → SortedIn lt mid b e2 → PermIn a b d e2 ∧ SortedIn lt a b e2
theorem whole {ct lt : α → α → Bool} (hS : SWO lt) {a m b mid s s0 r0 : Nat} {d e : Array α} (H : Halves ct lt a m b d) (h1 : a < m) (h2 : m < b) (hmid : mid = (a + b) / 2) (hs0 : s0 = if mid < m then mid + m - b else a) (hr0 : r0 = if mid < m then mid else m)
    (hs : s0 ≤ s) (hr : s ≤ r0) (hlo : ∀ c, s0 ≤ c → c < s → ct d[mid + m - 1 - c]! d[c]! = false) (hhi : ∀ c, s ≤ c → c < r0 → ct d[mid + m - 1 - c]! d[c]! = true) (hR : Rot d e s m (mid + m - s)) (hP : PermIn a b d e) (hb : b ≤ d.size) : Whole ct lt a s mid (mid + m - s) b d e := by
  obtain ⟨g1, g2, g3⟩ := parts hS H h1 h2 hmid hs0 hr0 hs hr hlo hhi hR
  have k0 : s ≤ m ∧ mid ≤ mid + m - s ∧ mid + m - s ≤ b := by
    by_cases c : mid < m
    · rw [if_pos c] at hs0 hr0; omega
    · rw [if_neg c] at hs0 hr0; omega
  refine ⟨g1, fun e1 p1 s1 => ?_⟩
  have g4 : Halves ct lt mid (mid + m - s) b e1 := g2.same (fun i hi => p1.2.1 i (Or.inr hi)) k0.2.1
  have g5 : ∀ e2, PermIn mid b e1 e2 → SortedIn lt mid b e2 → PermIn a b d e2 ∧ SortedIn lt a b e2 := fun e2 p2 s2 => fin (by omega) (by omega) hb hP g3 p1 s1 p2 s2
  refine ⟨g4, fun hn => g5 e1 (permIn_refl e1 _ _) ?_, g5⟩
  by_cases c : mid < mid + m - s
  · have e' : mid + m - s = b := by omega
    have := g4.left
    rwa [e'] at this
  · have e' : mid + m - s = mid := by omega
    have := g4.right
    rwa [e'] at this
set_option maxHeartbeats 16000000 in
set_option maxRecDepth 1000000 in
theorem sym_more (enc : α → Value) (cf : α → α → Int) (lt : α → α → Bool) (hS : SWO lt) (g : Nat) (cb : Array Value) (blk off cap a m b : Nat) (d0 d : Array α) (w0 w : World) (N : Nat)
    (eg : ∀ args w, (callFunc g args).run Tryd.prog w = .ok (.enter g args) w) (hcmp : CmpLays1 Tryd.prog g cb enc cf blk off d0.size w0) (IH : Merges enc cf lt g cb blk off cap d0 w0 N) (hN : b - a ≤ N + 1) (R : Row1 enc w0 blk off d0) (hs : d0.size = d.size) (S : SW enc w0 blk off d w) (hm1 : a + 2 ≤ m) (hm2 : m + 2 ≤ b) (hb : b ≤ d.size) (hsz : d.size < 4611686018427387904) (H : Halves (ltOf cf) lt a m b d) :
    Calls Tryd.prog 48 #[.slice (some ⟨blk, off, none⟩) d.size cap, .int .i64 a, .int .i64 m, .int .i64 b, .func (.func g) #[] cb] w fun e w' => e = .returned (.tuple #[]) ∧ ∃ d', PermIn a b d d' ∧ SortedIn lt a b d' ∧ SW enc w0 blk off d' w' := by
  have mixed : Tryd.prog.follows .mixedOrders = true := by kernel_rfl
  have hcl0 := R.hO.cells
  simp only [Value.cells] at hcl0
  have hst := R.hO.store Tryd.prog
  have S0 : Aside (SW enc w0 blk off d w) := S
  clear S
  have HC : Aside _ := hcmp
  have HH : Hid _ := Lib.hid H
  have HS : Hid _ := Lib.hid hS
  clear hcmp H hS
  obtain ⟨L1, hL1⟩ : ∃ L, L = m - a := ⟨_, rfl⟩
  have em1 : (m : Int) - (a : Int) = (L1 : Int) := by omega
  have em2 : ¬ (L1 : Int) = 1 := by omega
  have em3 : ((L1 : Int) == 1) = false := beq_eq_false_iff_ne.2 em2
  obtain ⟨L2, hL2⟩ : ∃ L, L = b - m := ⟨_, rfl⟩
  have em4 : (b : Int) - (m : Int) = (L2 : Int) := by omega
  have em5 : ¬ (L2 : Int) = 1 := by omega
  have em6 : ((L2 : Int) == 1) = false := beq_eq_false_iff_ne.2 em5
  clear hL1 hL2
  obtain ⟨smmid, hsmmid⟩ : ∃ q, q = a + b := ⟨_, rfl⟩
  obtain ⟨mid, hmid⟩ : ∃ q, q = smmid / 2 := ⟨_, rfl⟩
  have admid : (a : Int) + (b : Int) = (smmid : Int) := by omega
  have bdmid : smmid < 9223372036854775808 := by omega
  have hmid' : 2 * mid ≤ a + b ∧ a + b ≤ 2 * mid + 1 := by omega
  have eqmid : (smmid : Int) / 2 = (mid : Int) := by omega
  clear hmid hsmmid
  obtain ⟨nn, hnn⟩ : ∃ q, q = mid + m := ⟨_, rfl⟩
  have en : (mid : Int) + (m : Int) = (nn : Int) := by omega
  have hn1 : nn ≤ mid + m ∧ mid + m ≤ nn := by omega
  clear hnn
  obtain ⟨pp, hpp⟩ : ∃ q, q + 1 = nn := ⟨nn - 1, by omega⟩
  have ep : (nn : Int) - 1 = (pp : Int) := by omega
  go_enter Tryd.func48, Tryd.ntmps48
  by_cases hcase : mid < m
  · have hcz : (mid : Int) < (m : Int) := by omega
    obtain ⟨s0, hs0⟩ : ∃ q, q + b = nn := ⟨nn - b, by omega⟩
    have es0 : (nn : Int) - (b : Int) = (s0 : Int) := by omega
    have HD : Hid (Down (fun c => !ltOf cf d[pp - c]! d[c]!) s0 mid) := Lib.hid (down3 HS.out HH.out (by omega) (by omega) (fun c c1 c2 => by omega))
    go_wp2
    go_loopg [20, 21] (mid - s0) (fun kx vs vr wr => ∃ (s r : Nat), vs = .int .i64 s ∧ vr = .int .i64 r ∧ s0 ≤ s ∧ s ≤ r ∧ r ≤ mid ∧ r - s ≤ kx ∧ Aside (SW enc w0 blk off d wr) ∧ Hid (Cut (fun c => !ltOf cf d[pp - c]! d[c]!) s0 s r mid))
    case atStart => exact ⟨s0, mid, by first | rfl | simp, rfl, by omega, by omega, by omega, by omega, S0, Lib.hid (Cut.start _ _ _)⟩
    case round =>
      clear S0
      obtain ⟨s, r, rfl, rfl, hs1, hsr, hr1, hkx, S1, HP⟩ := hrel
      by_cases hlt : s < r
      · have hltz : (s : Int) < (r : Int) := by omega
        obtain ⟨smc, hsmc⟩ : ∃ q, q = s + r := ⟨_, rfl⟩
        obtain ⟨c, hc⟩ : ∃ q, q = smc / 2 := ⟨_, rfl⟩
        have adc : (s : Int) + (r : Int) = (smc : Int) := by omega
        have bdc : smc < 9223372036854775808 := by omega
        have hc' : 2 * c ≤ s + r ∧ s + r ≤ 2 * c + 1 := by omega
        have eqc : (smc : Int) / 2 = (c : Int) := by omega
        clear hc hsmc
        have hc0 : s0 ≤ c ∧ c < mid ∧ c ≤ pp ∧ m ≤ pp - c ∧ pp - c < b := by omega
        cases hlv : ltOf cf d[pp - c]! d[c]! with
        | false =>
          have HP2 : Hid (Cut (fun c => !ltOf cf d[pp - c]! d[c]!) s0 (c + 1) r mid) := Lib.hid (HP.out.up HD.out (by omega) (by simp only [hlv]; rfl))
          clear HP
          go_wp2_with fail
          obtain ⟨iN8, hiN8⟩ : ∃ q, q = pp - c := ⟨_, rfl⟩
          obtain ⟨jN8, hjN8⟩ : ∃ q, q = c := ⟨_, rfl⟩
          have ea8 : ((pp : Int) - (c : Int)).toNat = iN8 := by omega
          have pa8 : (0 : Int) ≤ (pp : Int) - (c : Int) := by omega
          have ba8 : (pp : Int) - (c : Int) < (d.size : Int) := by omega
          have ra8 : IntKind.i64.wrap ((pp : Int) - (c : Int)) = (pp : Int) - (c : Int) := by rw [IntKind.wrap_i64]; omega
          have ec8 : ((c : Int)).toNat = jN8 := by omega
          have pc8 : (0 : Int) ≤ (c : Int) := by omega
          have bc8 : (c : Int) < (d.size : Int) := by omega
          have rc8 : IntKind.i64.wrap ((c : Int)) = (c : Int) := by rw [IntKind.wrap_i64]; omega
          obtain ⟨x8, hx8⟩ : ∃ x, x = d[pp - c]! := ⟨_, rfl⟩
          obtain ⟨y8, hy8⟩ : ∃ x, x = d[c]! := ⟨_, rfl⟩
          have l8a := S1.out.cl R (by omega) (pp - c) (by omega)
          have l8b := S1.out.cl R (by omega) (c) (by omega)
          rw [← hx8, ← hiN8] at l8a
          rw [← hy8, ← hjN8] at l8b
          have hc8 := S1.out.cmp HC.out (by omega) x8 y8
          have hv8 : ¬ cf x8 y8 < 0 := by rw [hx8, hy8]; exact of_decide_eq_false hlv
          have hd8 : decide (cf x8 y8 < 0) = false := decide_eq_false hv8
          clear hx8 hy8 hiN8 hjN8
          go_wp2_with fail
          go_quiet_grown (first | (go_at_fn g; refine Calls.grown_of (hc8 _ _)))
          have S2 : Aside (SW enc w0 blk off d (grow (wr.drewN nq) osq)) := S1.out.grown nq osq
          clear l8a l8b hc8 S1
          generalize grow (wr.drewN nq) osq = w2 at S2 ⊢
          clear nq osq
          clear ea8 ec8
          go_wp2
          go_roundg (r - (c + 1))
          case measure => omega
          case rel => exact ⟨c + 1, r, by first | rfl | simp, rfl, by omega, by omega, by omega, by omega, S2, HP2⟩
        | true =>
          have HP2 : Hid (Cut (fun c => !ltOf cf d[pp - c]! d[c]!) s0 s c mid) := Lib.hid (HP.out.dn HD.out (by omega) (by simp only [hlv]; rfl))
          clear HP
          go_wp2_with fail
          obtain ⟨iN9, hiN9⟩ : ∃ q, q = pp - c := ⟨_, rfl⟩
          obtain ⟨jN9, hjN9⟩ : ∃ q, q = c := ⟨_, rfl⟩
          have ea9 : ((pp : Int) - (c : Int)).toNat = iN9 := by omega
          have pa9 : (0 : Int) ≤ (pp : Int) - (c : Int) := by omega
          have ba9 : (pp : Int) - (c : Int) < (d.size : Int) := by omega
          have ra9 : IntKind.i64.wrap ((pp : Int) - (c : Int)) = (pp : Int) - (c : Int) := by rw [IntKind.wrap_i64]; omega
          have ec9 : ((c : Int)).toNat = jN9 := by omega
          have pc9 : (0 : Int) ≤ (c : Int) := by omega
          have bc9 : (c : Int) < (d.size : Int) := by omega
          have rc9 : IntKind.i64.wrap ((c : Int)) = (c : Int) := by rw [IntKind.wrap_i64]; omega
          obtain ⟨x9, hx9⟩ : ∃ x, x = d[pp - c]! := ⟨_, rfl⟩
          obtain ⟨y9, hy9⟩ : ∃ x, x = d[c]! := ⟨_, rfl⟩
          have l9a := S1.out.cl R (by omega) (pp - c) (by omega)
          have l9b := S1.out.cl R (by omega) (c) (by omega)
          rw [← hx9, ← hiN9] at l9a
          rw [← hy9, ← hjN9] at l9b
          have hc9 := S1.out.cmp HC.out (by omega) x9 y9
          have hv9 : cf x9 y9 < 0 := by rw [hx9, hy9]; exact of_decide_eq_true hlv
          have hd9 : decide (cf x9 y9 < 0) = true := decide_eq_true hv9
          clear hx9 hy9 hiN9 hjN9
          go_wp2_with fail
          go_quiet_grown (first | (go_at_fn g; refine Calls.grown_of (hc9 _ _)))
          have S2 : Aside (SW enc w0 blk off d (grow (wr.drewN nq) osq)) := S1.out.grown nq osq
          clear l9a l9b hc9 S1
          generalize grow (wr.drewN nq) osq = w2 at S2 ⊢
          clear nq osq
          clear ea9 ec9
          go_wp2
          go_roundg (c - s)
          case measure => omega
          case rel => exact ⟨s, c, rfl, rfl, by omega, by omega, by omega, by omega, S2, HP2⟩
      · obtain rfl : s = r := by omega
        obtain ⟨ed, hed⟩ : ∃ q, q = nn - s := ⟨_, rfl⟩
        have eed : (nn : Int) - (s : Int) = (ed : Int) := by omega
        have hed' : ed + s = nn := by omega
        have HW : Hid (∀ E, Rot d E s m ed → PermIn a b d E → Whole (ltOf cf) lt a s mid ed b d E) := Lib.hid (fun E hE hP => by
          obtain rfl : pp = mid + m - 1 := by omega
          obtain rfl : ed = mid + m - s := by omega
          exact whole HS.out HH.out (by omega) (by omega) (by omega) (by rw [if_pos hcase] <;> omega) (by rw [if_pos hcase] <;> omega) hs1 hr1 (fun c c1 c2 => by simpa using HP.out.yes c c1 c2) (fun c c1 c2 => by simpa using HP.out.no c c1 c2) hE hP hb)
        clear hed HP HD
        by_cases hrot : s < m ∧ m < ed
        · obtain ⟨hro1, hro2⟩ := hrot
          have zo1 : (s : Int) < (m : Int) := by omega
          have zo2 : (m : Int) < (ed : Int) := by omega
          have hcall := rotate_s enc (.func (.func g) #[] cb) blk off cap s m ed d0 d w0 wr R hs S1.out hro1 hro2 (by omega) hsz
          clear S1
          go_wp2_with fail
          all_goals
            refine hcall.mono ?_
            rintro e w3 ⟨rfl, E, hR, hP, S3⟩
            have hE : E.size = d.size := hP.1
            have HX : Hid (Whole (ltOf cf) lt a s mid ed b d E) := Lib.hid (HW.out E hR (permIn_mono _ _ _ _ _ _ (by omega) (by omega) (by omega) hP))
            have SD : Aside (SW enc w0 blk off E w3) := S3
            clear hcall hR hP S3 HW
            by_cases hl : a < s ∧ s < mid
            · obtain ⟨hl1, hl2⟩ := hl
              have zl1 : (a : Int) < (s : Int) := by omega
              have zl2 : (s : Int) < (mid : Int) := by omega
              have hcall := IH a s mid E _ (by omega) (by omega) SD.out hl1 hl2 (by omega) HX.out.1
              rw [hE] at hcall
              clear SD
              go_wp2_with fail
              all_goals
                refine hcall.mono ?_
                rintro e w4 ⟨rfl, e1, p1, s1, S4⟩
                have hE1 : e1.size = d.size := by first | exact p1.1 | exact p1.1.trans hE
                have HF := Lib.hid (HX.out.2 e1 p1 s1)
                have SE : Aside (SW enc w0 blk off e1 w4) := S4
                clear hcall p1 s1 S4 HX
                by_cases hr : mid < ed ∧ ed < b
                · obtain ⟨hr1, hr2⟩ := hr
                  have zr1 : (mid : Int) < (ed : Int) := by omega
                  have zr2 : (ed : Int) < (b : Int) := by omega
                  have hcall := IH mid ed b e1 _ (by omega) (by omega) SE.out hr1 hr2 (by omega) HF.out.1
                  rw [hE1] at hcall
                  clear SE
                  go_wp2_with fail
                  all_goals
                    refine hcall.mono ?_
                    rintro e w5 ⟨rfl, e2, p2, s2, S5⟩
                    have HG : Hid (PermIn a b d e2 ∧ SortedIn lt a b e2) := Lib.hid (HF.out.2.2 e2 p2 s2)
                    have SF : Aside (SW enc w0 blk off e2 w5) := S5
                    clear hcall p2 s2 S5 HF
                    go_wp2
                    all_goals
                      go_end0
                      exact ⟨rfl, e2, HG.out.1, HG.out.2, SF.out⟩
                · have HG : Hid (PermIn a b d e1 ∧ SortedIn lt a b e1) := Lib.hid (HF.out.2.1 hr)
                  clear HF
                  by_cases hr1 : mid < ed
                  · have zr1 : (mid : Int) < (ed : Int) := by omega
                    have zr2 : ¬ (ed : Int) < (b : Int) := by omega
                    go_wp2
                    all_goals
                      go_end0
                      exact ⟨rfl, e1, HG.out.1, HG.out.2, SE.out⟩
                  · have zr1 : ¬ (mid : Int) < (ed : Int) := by omega
                    go_wp2
                    all_goals
                      go_end0
                      exact ⟨rfl, e1, HG.out.1, HG.out.2, SE.out⟩
            · have hE1 : E.size = d.size := hE
              have HF := Lib.hid (HX.out.2 E (permIn_refl E _ _) (by
                by_cases c : s < mid
                · have e : a = s := by omega
                  have := HX.out.1.right
                  rwa [← e] at this
                · have e : s = mid := by omega
                  have := HX.out.1.left
                  rwa [e] at this))
              have SE : Aside _ := SD.out
              clear SD HX
              by_cases hl1 : a < s
              · have zl1 : (a : Int) < (s : Int) := by omega
                have zl2 : ¬ (s : Int) < (mid : Int) := by omega
                clear hl
                by_cases hr : mid < ed ∧ ed < b
                · obtain ⟨hr1, hr2⟩ := hr
                  have zr1 : (mid : Int) < (ed : Int) := by omega
                  have zr2 : (ed : Int) < (b : Int) := by omega
                  have hcall := IH mid ed b E _ (by omega) (by omega) SE.out hr1 hr2 (by omega) HF.out.1
                  rw [hE1] at hcall
                  clear SE
                  go_wp2_with fail
                  all_goals
                    refine hcall.mono ?_
                    rintro e w5 ⟨rfl, e2, p2, s2, S5⟩
                    have HG : Hid (PermIn a b d e2 ∧ SortedIn lt a b e2) := Lib.hid (HF.out.2.2 e2 p2 s2)
                    have SF : Aside (SW enc w0 blk off e2 w5) := S5
                    clear hcall p2 s2 S5 HF
                    go_wp2
                    all_goals
                      go_end0
                      exact ⟨rfl, e2, HG.out.1, HG.out.2, SF.out⟩
                · have HG : Hid (PermIn a b d E ∧ SortedIn lt a b E) := Lib.hid (HF.out.2.1 hr)
                  clear HF
                  by_cases hr1 : mid < ed
                  · have zr1 : (mid : Int) < (ed : Int) := by omega
                    have zr2 : ¬ (ed : Int) < (b : Int) := by omega
                    go_wp2
                    all_goals
                      go_end0
                      exact ⟨rfl, E, HG.out.1, HG.out.2, SE.out⟩
                  · have zr1 : ¬ (mid : Int) < (ed : Int) := by omega
                    go_wp2
                    all_goals
                      go_end0
                      exact ⟨rfl, E, HG.out.1, HG.out.2, SE.out⟩
              · have zl1 : ¬ (a : Int) < (s : Int) := by omega
                clear hl
                by_cases hr : mid < ed ∧ ed < b
                · obtain ⟨hr1, hr2⟩ := hr
                  have zr1 : (mid : Int) < (ed : Int) := by omega
                  have zr2 : (ed : Int) < (b : Int) := by omega
                  have hcall := IH mid ed b E _ (by omega) (by omega) SE.out hr1 hr2 (by omega) HF.out.1
                  rw [hE1] at hcall
                  clear SE
                  go_wp2_with fail
                  all_goals
                    refine hcall.mono ?_
                    rintro e w5 ⟨rfl, e2, p2, s2, S5⟩
                    have HG : Hid (PermIn a b d e2 ∧ SortedIn lt a b e2) := Lib.hid (HF.out.2.2 e2 p2 s2)
                    have SF : Aside (SW enc w0 blk off e2 w5) := S5
                    clear hcall p2 s2 S5 HF
                    go_wp2
                    all_goals
                      go_end0
                      exact ⟨rfl, e2, HG.out.1, HG.out.2, SF.out⟩
                · have HG : Hid (PermIn a b d E ∧ SortedIn lt a b E) := Lib.hid (HF.out.2.1 hr)
                  clear HF
                  by_cases hr1 : mid < ed
                  · have zr1 : (mid : Int) < (ed : Int) := by omega
                    have zr2 : ¬ (ed : Int) < (b : Int) := by omega
                    go_wp2
                    all_goals
                      go_end0
                      exact ⟨rfl, E, HG.out.1, HG.out.2, SE.out⟩
                  · have zr1 : ¬ (mid : Int) < (ed : Int) := by omega
                    go_wp2
                    all_goals
                      go_end0
                      exact ⟨rfl, E, HG.out.1, HG.out.2, SE.out⟩
        · have hE : d.size = d.size := rfl
          have HX : Hid (Whole (ltOf cf) lt a s mid ed b d d) := Lib.hid (HW.out d (by
            by_cases c : s < m
            · have e : m = ed := by omega
              rw [← e]
              exact Rot.none_r d s m
            · have e : s = m := by omega
              rw [e]
              exact Rot.none_l d m ed) (permIn_refl d _ _))
          have SD : Aside _ := S1.out
          clear S1 HW
          by_cases hro1 : s < m
          · have zo1 : (s : Int) < (m : Int) := by omega
            have zo2 : ¬ (m : Int) < (ed : Int) := by omega
            clear hrot
            by_cases hl : a < s ∧ s < mid
            · obtain ⟨hl1, hl2⟩ := hl
              have zl1 : (a : Int) < (s : Int) := by omega
              have zl2 : (s : Int) < (mid : Int) := by omega
              have hcall := IH a s mid d _ (by omega) (by omega) SD.out hl1 hl2 (by omega) HX.out.1
              rw [hE] at hcall
              clear SD
              go_wp2_with fail
              all_goals
                refine hcall.mono ?_
                rintro e w4 ⟨rfl, e1, p1, s1, S4⟩
                have hE1 : e1.size = d.size := by first | exact p1.1 | exact p1.1.trans hE
                have HF := Lib.hid (HX.out.2 e1 p1 s1)
                have SE : Aside (SW enc w0 blk off e1 w4) := S4
                clear hcall p1 s1 S4 HX
                by_cases hr : mid < ed ∧ ed < b
                · obtain ⟨hr1, hr2⟩ := hr
                  have zr1 : (mid : Int) < (ed : Int) := by omega
                  have zr2 : (ed : Int) < (b : Int) := by omega
                  have hcall := IH mid ed b e1 _ (by omega) (by omega) SE.out hr1 hr2 (by omega) HF.out.1
                  rw [hE1] at hcall
                  clear SE
                  go_wp2_with fail
                  all_goals
                    refine hcall.mono ?_
                    rintro e w5 ⟨rfl, e2, p2, s2, S5⟩
                    have HG : Hid (PermIn a b d e2 ∧ SortedIn lt a b e2) := Lib.hid (HF.out.2.2 e2 p2 s2)
                    have SF : Aside (SW enc w0 blk off e2 w5) := S5
                    clear hcall p2 s2 S5 HF
                    go_wp2
                    all_goals
                      go_end0
                      exact ⟨rfl, e2, HG.out.1, HG.out.2, SF.out⟩
                · have HG : Hid (PermIn a b d e1 ∧ SortedIn lt a b e1) := Lib.hid (HF.out.2.1 hr)
                  clear HF
                  by_cases hr1 : mid < ed
                  · have zr1 : (mid : Int) < (ed : Int) := by omega
                    have zr2 : ¬ (ed : Int) < (b : Int) := by omega
                    go_wp2
                    all_goals
                      go_end0
                      exact ⟨rfl, e1, HG.out.1, HG.out.2, SE.out⟩
                  · have zr1 : ¬ (mid : Int) < (ed : Int) := by omega
                    go_wp2
                    all_goals
                      go_end0
                      exact ⟨rfl, e1, HG.out.1, HG.out.2, SE.out⟩
            · have hE1 : d.size = d.size := hE
              have HF := Lib.hid (HX.out.2 d (permIn_refl d _ _) (by
                by_cases c : s < mid
                · have e : a = s := by omega
                  have := HX.out.1.right
                  rwa [← e] at this
                · have e : s = mid := by omega
                  have := HX.out.1.left
                  rwa [e] at this))
              have SE : Aside _ := SD.out
              clear SD HX
              by_cases hl1 : a < s
              · have zl1 : (a : Int) < (s : Int) := by omega
                have zl2 : ¬ (s : Int) < (mid : Int) := by omega
                clear hl
                by_cases hr : mid < ed ∧ ed < b
                · obtain ⟨hr1, hr2⟩ := hr
                  have zr1 : (mid : Int) < (ed : Int) := by omega
                  have zr2 : (ed : Int) < (b : Int) := by omega
                  have hcall := IH mid ed b d _ (by omega) (by omega) SE.out hr1 hr2 (by omega) HF.out.1
                  rw [hE1] at hcall
                  clear SE
                  go_wp2_with fail
                  all_goals
                    refine hcall.mono ?_
                    rintro e w5 ⟨rfl, e2, p2, s2, S5⟩
                    have HG : Hid (PermIn a b d e2 ∧ SortedIn lt a b e2) := Lib.hid (HF.out.2.2 e2 p2 s2)
                    have SF : Aside (SW enc w0 blk off e2 w5) := S5
                    clear hcall p2 s2 S5 HF
                    go_wp2
                    all_goals
                      go_end0
                      exact ⟨rfl, e2, HG.out.1, HG.out.2, SF.out⟩
                · have HG : Hid (PermIn a b d d ∧ SortedIn lt a b d) := Lib.hid (HF.out.2.1 hr)
                  clear HF
                  by_cases hr1 : mid < ed
                  · have zr1 : (mid : Int) < (ed : Int) := by omega
                    have zr2 : ¬ (ed : Int) < (b : Int) := by omega
                    go_wp2
                    all_goals
                      go_end0
                      exact ⟨rfl, d, HG.out.1, HG.out.2, SE.out⟩
                  · have zr1 : ¬ (mid : Int) < (ed : Int) := by omega
                    go_wp2
                    all_goals
                      go_end0
                      exact ⟨rfl, d, HG.out.1, HG.out.2, SE.out⟩
              · have zl1 : ¬ (a : Int) < (s : Int) := by omega
                clear hl
                by_cases hr : mid < ed ∧ ed < b
                · obtain ⟨hr1, hr2⟩ := hr
                  have zr1 : (mid : Int) < (ed : Int) := by omega
                  have zr2 : (ed : Int) < (b : Int) := by omega
                  have hcall := IH mid ed b d _ (by omega) (by omega) SE.out hr1 hr2 (by omega) HF.out.1
                  rw [hE1] at hcall
                  clear SE
                  go_wp2_with fail
                  all_goals
                    refine hcall.mono ?_
                    rintro e w5 ⟨rfl, e2, p2, s2, S5⟩
                    have HG : Hid (PermIn a b d e2 ∧ SortedIn lt a b e2) := Lib.hid (HF.out.2.2 e2 p2 s2)
                    have SF : Aside (SW enc w0 blk off e2 w5) := S5
                    clear hcall p2 s2 S5 HF
                    go_wp2
                    all_goals
                      go_end0
                      exact ⟨rfl, e2, HG.out.1, HG.out.2, SF.out⟩
                · have HG : Hid (PermIn a b d d ∧ SortedIn lt a b d) := Lib.hid (HF.out.2.1 hr)
                  clear HF
                  by_cases hr1 : mid < ed
                  · have zr1 : (mid : Int) < (ed : Int) := by omega
                    have zr2 : ¬ (ed : Int) < (b : Int) := by omega
                    go_wp2
                    all_goals
                      go_end0
                      exact ⟨rfl, d, HG.out.1, HG.out.2, SE.out⟩
                  · have zr1 : ¬ (mid : Int) < (ed : Int) := by omega
                    go_wp2
                    all_goals
                      go_end0
                      exact ⟨rfl, d, HG.out.1, HG.out.2, SE.out⟩
          · have zo1 : ¬ (s : Int) < (m : Int) := by omega
            clear hrot
            by_cases hl : a < s ∧ s < mid
            · obtain ⟨hl1, hl2⟩ := hl
              have zl1 : (a : Int) < (s : Int) := by omega
              have zl2 : (s : Int) < (mid : Int) := by omega
              have hcall := IH a s mid d _ (by omega) (by omega) SD.out hl1 hl2 (by omega) HX.out.1
              rw [hE] at hcall
              clear SD
              go_wp2_with fail
              all_goals
                refine hcall.mono ?_
                rintro e w4 ⟨rfl, e1, p1, s1, S4⟩
                have hE1 : e1.size = d.size := by first | exact p1.1 | exact p1.1.trans hE
                have HF := Lib.hid (HX.out.2 e1 p1 s1)
                have SE : Aside (SW enc w0 blk off e1 w4) := S4
                clear hcall p1 s1 S4 HX
                by_cases hr : mid < ed ∧ ed < b
                · obtain ⟨hr1, hr2⟩ := hr
                  have zr1 : (mid : Int) < (ed : Int) := by omega
                  have zr2 : (ed : Int) < (b : Int) := by omega
                  have hcall := IH mid ed b e1 _ (by omega) (by omega) SE.out hr1 hr2 (by omega) HF.out.1
                  rw [hE1] at hcall
                  clear SE
                  go_wp2_with fail
                  all_goals
                    refine hcall.mono ?_
                    rintro e w5 ⟨rfl, e2, p2, s2, S5⟩
                    have HG : Hid (PermIn a b d e2 ∧ SortedIn lt a b e2) := Lib.hid (HF.out.2.2 e2 p2 s2)
                    have SF : Aside (SW enc w0 blk off e2 w5) := S5
                    clear hcall p2 s2 S5 HF
                    go_wp2
                    all_goals
                      go_end0
                      exact ⟨rfl, e2, HG.out.1, HG.out.2, SF.out⟩
                · have HG : Hid (PermIn a b d e1 ∧ SortedIn lt a b e1) := Lib.hid (HF.out.2.1 hr)
                  clear HF
                  by_cases hr1 : mid < ed
                  · have zr1 : (mid : Int) < (ed : Int) := by omega
                    have zr2 : ¬ (ed : Int) < (b : Int) := by omega
                    go_wp2
                    all_goals
                      go_end0
                      exact ⟨rfl, e1, HG.out.1, HG.out.2, SE.out⟩
                  · have zr1 : ¬ (mid : Int) < (ed : Int) := by omega
                    go_wp2
                    all_goals
                      go_end0
                      exact ⟨rfl, e1, HG.out.1, HG.out.2, SE.out⟩
            · have hE1 : d.size = d.size := hE
              have HF := Lib.hid (HX.out.2 d (permIn_refl d _ _) (by
                by_cases c : s < mid
                · have e : a = s := by omega
                  have := HX.out.1.right
                  rwa [← e] at this
                · have e : s = mid := by omega
                  have := HX.out.1.left
                  rwa [e] at this))
              have SE : Aside _ := SD.out
              clear SD HX
              by_cases hl1 : a < s
              · have zl1 : (a : Int) < (s : Int) := by omega
                have zl2 : ¬ (s : Int) < (mid : Int) := by omega
                clear hl
                by_cases hr : mid < ed ∧ ed < b
                · obtain ⟨hr1, hr2⟩ := hr
                  have zr1 : (mid : Int) < (ed : Int) := by omega
                  have zr2 : (ed : Int) < (b : Int) := by omega
                  have hcall := IH mid ed b d _ (by omega) (by omega) SE.out hr1 hr2 (by omega) HF.out.1
                  rw [hE1] at hcall
                  clear SE
                  go_wp2_with fail
                  all_goals
                    refine hcall.mono ?_
                    rintro e w5 ⟨rfl, e2, p2, s2, S5⟩
                    have HG : Hid (PermIn a b d e2 ∧ SortedIn lt a b e2) := Lib.hid (HF.out.2.2 e2 p2 s2)
                    have SF : Aside (SW enc w0 blk off e2 w5) := S5
                    clear hcall p2 s2 S5 HF
                    go_wp2
                    all_goals
                      go_end0
                      exact ⟨rfl, e2, HG.out.1, HG.out.2, SF.out⟩
                · have HG : Hid (PermIn a b d d ∧ SortedIn lt a b d) := Lib.hid (HF.out.2.1 hr)
                  clear HF
                  by_cases hr1 : mid < ed
                  · have zr1 : (mid : Int) < (ed : Int) := by omega
                    have zr2 : ¬ (ed : Int) < (b : Int) := by omega
                    go_wp2
                    all_goals
                      go_end0
                      exact ⟨rfl, d, HG.out.1, HG.out.2, SE.out⟩
                  · have zr1 : ¬ (mid : Int) < (ed : Int) := by omega
                    go_wp2
                    all_goals
                      go_end0
                      exact ⟨rfl, d, HG.out.1, HG.out.2, SE.out⟩
              · have zl1 : ¬ (a : Int) < (s : Int) := by omega
                clear hl
                by_cases hr : mid < ed ∧ ed < b
                · obtain ⟨hr1, hr2⟩ := hr
                  have zr1 : (mid : Int) < (ed : Int) := by omega
                  have zr2 : (ed : Int) < (b : Int) := by omega
                  have hcall := IH mid ed b d _ (by omega) (by omega) SE.out hr1 hr2 (by omega) HF.out.1
                  rw [hE1] at hcall
                  clear SE
                  go_wp2_with fail
                  all_goals
                    refine hcall.mono ?_
                    rintro e w5 ⟨rfl, e2, p2, s2, S5⟩
                    have HG : Hid (PermIn a b d e2 ∧ SortedIn lt a b e2) := Lib.hid (HF.out.2.2 e2 p2 s2)
                    have SF : Aside (SW enc w0 blk off e2 w5) := S5
                    clear hcall p2 s2 S5 HF
                    go_wp2
                    all_goals
                      go_end0
                      exact ⟨rfl, e2, HG.out.1, HG.out.2, SF.out⟩
                · have HG : Hid (PermIn a b d d ∧ SortedIn lt a b d) := Lib.hid (HF.out.2.1 hr)
                  clear HF
                  by_cases hr1 : mid < ed
                  · have zr1 : (mid : Int) < (ed : Int) := by omega
                    have zr2 : ¬ (ed : Int) < (b : Int) := by omega
                    go_wp2
                    all_goals
                      go_end0
                      exact ⟨rfl, d, HG.out.1, HG.out.2, SE.out⟩
                  · have zr1 : ¬ (mid : Int) < (ed : Int) := by omega
                    go_wp2
                    all_goals
                      go_end0
                      exact ⟨rfl, d, HG.out.1, HG.out.2, SE.out⟩
  · have hcz : ¬ (mid : Int) < (m : Int) := by omega
    have HD : Hid (Down (fun c => !ltOf cf d[pp - c]! d[c]!) a m) := Lib.hid (down3 HS.out HH.out (by omega) (by omega) (fun c c1 c2 => by omega))
    go_wp2
    go_loopg [20, 21] (m - a) (fun kx vs vr wr => ∃ (s r : Nat), vs = .int .i64 s ∧ vr = .int .i64 r ∧ a ≤ s ∧ s ≤ r ∧ r ≤ m ∧ r - s ≤ kx ∧ Aside (SW enc w0 blk off d wr) ∧ Hid (Cut (fun c => !ltOf cf d[pp - c]! d[c]!) a s r m))
    case atStart => exact ⟨a, m, by first | rfl | simp, rfl, by omega, by omega, by omega, by omega, S0, Lib.hid (Cut.start _ _ _)⟩
    case round =>
      clear S0
      obtain ⟨s, r, rfl, rfl, hs1, hsr, hr1, hkx, S1, HP⟩ := hrel
      by_cases hlt : s < r
      · have hltz : (s : Int) < (r : Int) := by omega
        obtain ⟨smc, hsmc⟩ : ∃ q, q = s + r := ⟨_, rfl⟩
        obtain ⟨c, hc⟩ : ∃ q, q = smc / 2 := ⟨_, rfl⟩
        have adc : (s : Int) + (r : Int) = (smc : Int) := by omega
        have bdc : smc < 9223372036854775808 := by omega
        have hc' : 2 * c ≤ s + r ∧ s + r ≤ 2 * c + 1 := by omega
        have eqc : (smc : Int) / 2 = (c : Int) := by omega
        clear hc hsmc
        have hc0 : a ≤ c ∧ c < m ∧ c ≤ pp ∧ m ≤ pp - c ∧ pp - c < b := by omega
        cases hlv : ltOf cf d[pp - c]! d[c]! with
        | false =>
          have HP2 : Hid (Cut (fun c => !ltOf cf d[pp - c]! d[c]!) a (c + 1) r m) := Lib.hid (HP.out.up HD.out (by omega) (by simp only [hlv]; rfl))
          clear HP
          go_wp2_with fail
          obtain ⟨iN10, hiN10⟩ : ∃ q, q = pp - c := ⟨_, rfl⟩
          obtain ⟨jN10, hjN10⟩ : ∃ q, q = c := ⟨_, rfl⟩
          have ea10 : ((pp : Int) - (c : Int)).toNat = iN10 := by omega
          have pa10 : (0 : Int) ≤ (pp : Int) - (c : Int) := by omega
          have ba10 : (pp : Int) - (c : Int) < (d.size : Int) := by omega
          have ra10 : IntKind.i64.wrap ((pp : Int) - (c : Int)) = (pp : Int) - (c : Int) := by rw [IntKind.wrap_i64]; omega
          have ec10 : ((c : Int)).toNat = jN10 := by omega
          have pc10 : (0 : Int) ≤ (c : Int) := by omega
          have bc10 : (c : Int) < (d.size : Int) := by omega
          have rc10 : IntKind.i64.wrap ((c : Int)) = (c : Int) := by rw [IntKind.wrap_i64]; omega
          obtain ⟨x10, hx10⟩ : ∃ x, x = d[pp - c]! := ⟨_, rfl⟩
          obtain ⟨y10, hy10⟩ : ∃ x, x = d[c]! := ⟨_, rfl⟩
          have l10a := S1.out.cl R (by omega) (pp - c) (by omega)
          have l10b := S1.out.cl R (by omega) (c) (by omega)
          rw [← hx10, ← hiN10] at l10a
          rw [← hy10, ← hjN10] at l10b
          have hc10 := S1.out.cmp HC.out (by omega) x10 y10
          have hv10 : ¬ cf x10 y10 < 0 := by rw [hx10, hy10]; exact of_decide_eq_false hlv
          have hd10 : decide (cf x10 y10 < 0) = false := decide_eq_false hv10
          clear hx10 hy10 hiN10 hjN10
          go_wp2_with fail
          go_quiet_grown (first | (go_at_fn g; refine Calls.grown_of (hc10 _ _)))
          have S2 : Aside (SW enc w0 blk off d (grow (wr.drewN nq) osq)) := S1.out.grown nq osq
          clear l10a l10b hc10 S1
          generalize grow (wr.drewN nq) osq = w2 at S2 ⊢
          clear nq osq
          clear ea10 ec10
          go_wp2
          go_roundg (r - (c + 1))
          case measure => omega
          case rel => exact ⟨c + 1, r, by first | rfl | simp, rfl, by omega, by omega, by omega, by omega, S2, HP2⟩
        | true =>
          have HP2 : Hid (Cut (fun c => !ltOf cf d[pp - c]! d[c]!) a s c m) := Lib.hid (HP.out.dn HD.out (by omega) (by simp only [hlv]; rfl))
          clear HP
          go_wp2_with fail
          obtain ⟨iN11, hiN11⟩ : ∃ q, q = pp - c := ⟨_, rfl⟩
          obtain ⟨jN11, hjN11⟩ : ∃ q, q = c := ⟨_, rfl⟩
          have ea11 : ((pp : Int) - (c : Int)).toNat = iN11 := by omega
          have pa11 : (0 : Int) ≤ (pp : Int) - (c : Int) := by omega
          have ba11 : (pp : Int) - (c : Int) < (d.size : Int) := by omega
          have ra11 : IntKind.i64.wrap ((pp : Int) - (c : Int)) = (pp : Int) - (c : Int) := by rw [IntKind.wrap_i64]; omega
          have ec11 : ((c : Int)).toNat = jN11 := by omega
          have pc11 : (0 : Int) ≤ (c : Int) := by omega
          have bc11 : (c : Int) < (d.size : Int) := by omega
          have rc11 : IntKind.i64.wrap ((c : Int)) = (c : Int) := by rw [IntKind.wrap_i64]; omega
          obtain ⟨x11, hx11⟩ : ∃ x, x = d[pp - c]! := ⟨_, rfl⟩
          obtain ⟨y11, hy11⟩ : ∃ x, x = d[c]! := ⟨_, rfl⟩
          have l11a := S1.out.cl R (by omega) (pp - c) (by omega)
          have l11b := S1.out.cl R (by omega) (c) (by omega)
          rw [← hx11, ← hiN11] at l11a
          rw [← hy11, ← hjN11] at l11b
          have hc11 := S1.out.cmp HC.out (by omega) x11 y11
          have hv11 : cf x11 y11 < 0 := by rw [hx11, hy11]; exact of_decide_eq_true hlv
          have hd11 : decide (cf x11 y11 < 0) = true := decide_eq_true hv11
          clear hx11 hy11 hiN11 hjN11
          go_wp2_with fail
          go_quiet_grown (first | (go_at_fn g; refine Calls.grown_of (hc11 _ _)))
          have S2 : Aside (SW enc w0 blk off d (grow (wr.drewN nq) osq)) := S1.out.grown nq osq
          clear l11a l11b hc11 S1
          generalize grow (wr.drewN nq) osq = w2 at S2 ⊢
          clear nq osq
          clear ea11 ec11
          go_wp2
          go_roundg (c - s)
          case measure => omega
          case rel => exact ⟨s, c, rfl, rfl, by omega, by omega, by omega, by omega, S2, HP2⟩
      · obtain rfl : s = r := by omega
        obtain ⟨ed, hed⟩ : ∃ q, q = nn - s := ⟨_, rfl⟩
        have eed : (nn : Int) - (s : Int) = (ed : Int) := by omega
        have hed' : ed + s = nn := by omega
        have HW : Hid (∀ E, Rot d E s m ed → PermIn a b d E → Whole (ltOf cf) lt a s mid ed b d E) := Lib.hid (fun E hE hP => by
          obtain rfl : pp = mid + m - 1 := by omega
          obtain rfl : ed = mid + m - s := by omega
          exact whole HS.out HH.out (by omega) (by omega) (by omega) (by rw [if_neg hcase]) (by rw [if_neg hcase]) hs1 hr1 (fun c c1 c2 => by simpa using HP.out.yes c c1 c2) (fun c c1 c2 => by simpa using HP.out.no c c1 c2) hE hP hb)
        clear hed HP HD
        by_cases hrot : s < m ∧ m < ed
        · obtain ⟨hro1, hro2⟩ := hrot
          have zo1 : (s : Int) < (m : Int) := by omega
          have zo2 : (m : Int) < (ed : Int) := by omega
          have hcall := rotate_s enc (.func (.func g) #[] cb) blk off cap s m ed d0 d w0 wr R hs S1.out hro1 hro2 (by omega) hsz
          clear S1
          go_wp2_with fail
          all_goals
            refine hcall.mono ?_
            rintro e w3 ⟨rfl, E, hR, hP, S3⟩
            have hE : E.size = d.size := hP.1
            have HX : Hid (Whole (ltOf cf) lt a s mid ed b d E) := Lib.hid (HW.out E hR (permIn_mono _ _ _ _ _ _ (by omega) (by omega) (by omega) hP))
            have SD : Aside (SW enc w0 blk off E w3) := S3
            clear hcall hR hP S3 HW
            by_cases hl : a < s ∧ s < mid
            · obtain ⟨hl1, hl2⟩ := hl
              have zl1 : (a : Int) < (s : Int) := by omega
              have zl2 : (s : Int) < (mid : Int) := by omega
              have hcall := IH a s mid E _ (by omega) (by omega) SD.out hl1 hl2 (by omega) HX.out.1
              rw [hE] at hcall
              clear SD
              go_wp2_with fail
              all_goals
                refine hcall.mono ?_
                rintro e w4 ⟨rfl, e1, p1, s1, S4⟩
                have hE1 : e1.size = d.size := by first | exact p1.1 | exact p1.1.trans hE
                have HF := Lib.hid (HX.out.2 e1 p1 s1)
                have SE : Aside (SW enc w0 blk off e1 w4) := S4
                clear hcall p1 s1 S4 HX
                by_cases hr : mid < ed ∧ ed < b
                · obtain ⟨hr1, hr2⟩ := hr
                  have zr1 : (mid : Int) < (ed : Int) := by omega
                  have zr2 : (ed : Int) < (b : Int) := by omega
                  have hcall := IH mid ed b e1 _ (by omega) (by omega) SE.out hr1 hr2 (by omega) HF.out.1
                  rw [hE1] at hcall
                  clear SE
                  go_wp2_with fail
                  all_goals
                    refine hcall.mono ?_
                    rintro e w5 ⟨rfl, e2, p2, s2, S5⟩
                    have HG : Hid (PermIn a b d e2 ∧ SortedIn lt a b e2) := Lib.hid (HF.out.2.2 e2 p2 s2)
                    have SF : Aside (SW enc w0 blk off e2 w5) := S5
                    clear hcall p2 s2 S5 HF
                    go_wp2
                    all_goals
                      go_end0
                      exact ⟨rfl, e2, HG.out.1, HG.out.2, SF.out⟩
                · have HG : Hid (PermIn a b d e1 ∧ SortedIn lt a b e1) := Lib.hid (HF.out.2.1 hr)
                  clear HF
                  by_cases hr1 : mid < ed
                  · have zr1 : (mid : Int) < (ed : Int) := by omega
                    have zr2 : ¬ (ed : Int) < (b : Int) := by omega
                    go_wp2
                    all_goals
                      go_end0
                      exact ⟨rfl, e1, HG.out.1, HG.out.2, SE.out⟩
                  · have zr1 : ¬ (mid : Int) < (ed : Int) := by omega
                    go_wp2
                    all_goals
                      go_end0
                      exact ⟨rfl, e1, HG.out.1, HG.out.2, SE.out⟩
            · have hE1 : E.size = d.size := hE
              have HF := Lib.hid (HX.out.2 E (permIn_refl E _ _) (by
                by_cases c : s < mid
                · have e : a = s := by omega
                  have := HX.out.1.right
                  rwa [← e] at this
                · have e : s = mid := by omega
                  have := HX.out.1.left
                  rwa [e] at this))
              have SE : Aside _ := SD.out
              clear SD HX
              by_cases hl1 : a < s
              · have zl1 : (a : Int) < (s : Int) := by omega
                have zl2 : ¬ (s : Int) < (mid : Int) := by omega
                clear hl
                by_cases hr : mid < ed ∧ ed < b
                · obtain ⟨hr1, hr2⟩ := hr
                  have zr1 : (mid : Int) < (ed : Int) := by omega
                  have zr2 : (ed : Int) < (b : Int) := by omega
                  have hcall := IH mid ed b E _ (by omega) (by omega) SE.out hr1 hr2 (by omega) HF.out.1
                  rw [hE1] at hcall
                  clear SE
                  go_wp2_with fail
                  all_goals
                    refine hcall.mono ?_
                    rintro e w5 ⟨rfl, e2, p2, s2, S5⟩
                    have HG : Hid (PermIn a b d e2 ∧ SortedIn lt a b e2) := Lib.hid (HF.out.2.2 e2 p2 s2)
                    have SF : Aside (SW enc w0 blk off e2 w5) := S5
                    clear hcall p2 s2 S5 HF
                    go_wp2
                    all_goals
                      go_end0
                      exact ⟨rfl, e2, HG.out.1, HG.out.2, SF.out⟩
                · have HG : Hid (PermIn a b d E ∧ SortedIn lt a b E) := Lib.hid (HF.out.2.1 hr)
                  clear HF
                  by_cases hr1 : mid < ed
                  · have zr1 : (mid : Int) < (ed : Int) := by omega
                    have zr2 : ¬ (ed : Int) < (b : Int) := by omega
                    go_wp2
                    all_goals
                      go_end0
                      exact ⟨rfl, E, HG.out.1, HG.out.2, SE.out⟩
                  · have zr1 : ¬ (mid : Int) < (ed : Int) := by omega
                    go_wp2
                    all_goals
                      go_end0
                      exact ⟨rfl, E, HG.out.1, HG.out.2, SE.out⟩
              · have zl1 : ¬ (a : Int) < (s : Int) := by omega
                clear hl
                by_cases hr : mid < ed ∧ ed < b
                · obtain ⟨hr1, hr2⟩ := hr
                  have zr1 : (mid : Int) < (ed : Int) := by omega
                  have zr2 : (ed : Int) < (b : Int) := by omega
                  have hcall := IH mid ed b E _ (by omega) (by omega) SE.out hr1 hr2 (by omega) HF.out.1
                  rw [hE1] at hcall
                  clear SE
                  go_wp2_with fail
                  all_goals
                    refine hcall.mono ?_
                    rintro e w5 ⟨rfl, e2, p2, s2, S5⟩
                    have HG : Hid (PermIn a b d e2 ∧ SortedIn lt a b e2) := Lib.hid (HF.out.2.2 e2 p2 s2)
                    have SF : Aside (SW enc w0 blk off e2 w5) := S5
                    clear hcall p2 s2 S5 HF
                    go_wp2
                    all_goals
                      go_end0
                      exact ⟨rfl, e2, HG.out.1, HG.out.2, SF.out⟩
                · have HG : Hid (PermIn a b d E ∧ SortedIn lt a b E) := Lib.hid (HF.out.2.1 hr)
                  clear HF
                  by_cases hr1 : mid < ed
                  · have zr1 : (mid : Int) < (ed : Int) := by omega
                    have zr2 : ¬ (ed : Int) < (b : Int) := by omega
                    go_wp2
                    all_goals
                      go_end0
                      exact ⟨rfl, E, HG.out.1, HG.out.2, SE.out⟩
                  · have zr1 : ¬ (mid : Int) < (ed : Int) := by omega
                    go_wp2
                    all_goals
                      go_end0
                      exact ⟨rfl, E, HG.out.1, HG.out.2, SE.out⟩
        · have hE : d.size = d.size := rfl
          have HX : Hid (Whole (ltOf cf) lt a s mid ed b d d) := Lib.hid (HW.out d (by
            by_cases c : s < m
            · have e : m = ed := by omega
              rw [← e]
              exact Rot.none_r d s m
            · have e : s = m := by omega
              rw [e]
              exact Rot.none_l d m ed) (permIn_refl d _ _))
          have SD : Aside _ := S1.out
          clear S1 HW
          by_cases hro1 : s < m
          · have zo1 : (s : Int) < (m : Int) := by omega
            have zo2 : ¬ (m : Int) < (ed : Int) := by omega
            clear hrot
            by_cases hl : a < s ∧ s < mid
            · obtain ⟨hl1, hl2⟩ := hl
              have zl1 : (a : Int) < (s : Int) := by omega
              have zl2 : (s : Int) < (mid : Int) := by omega
              have hcall := IH a s mid d _ (by omega) (by omega) SD.out hl1 hl2 (by omega) HX.out.1
              rw [hE] at hcall
              clear SD
              go_wp2_with fail
              all_goals
                refine hcall.mono ?_
                rintro e w4 ⟨rfl, e1, p1, s1, S4⟩
                have hE1 : e1.size = d.size := by first | exact p1.1 | exact p1.1.trans hE
                have HF := Lib.hid (HX.out.2 e1 p1 s1)
                have SE : Aside (SW enc w0 blk off e1 w4) := S4
                clear hcall p1 s1 S4 HX
                by_cases hr : mid < ed ∧ ed < b
                · obtain ⟨hr1, hr2⟩ := hr
                  have zr1 : (mid : Int) < (ed : Int) := by omega
                  have zr2 : (ed : Int) < (b : Int) := by omega
                  have hcall := IH mid ed b e1 _ (by omega) (by omega) SE.out hr1 hr2 (by omega) HF.out.1
                  rw [hE1] at hcall
                  clear SE
                  go_wp2_with fail
                  all_goals
                    refine hcall.mono ?_
                    rintro e w5 ⟨rfl, e2, p2, s2, S5⟩
                    have HG : Hid (PermIn a b d e2 ∧ SortedIn lt a b e2) := Lib.hid (HF.out.2.2 e2 p2 s2)
                    have SF : Aside (SW enc w0 blk off e2 w5) := S5
                    clear hcall p2 s2 S5 HF
                    go_wp2
                    all_goals
                      go_end0
                      exact ⟨rfl, e2, HG.out.1, HG.out.2, SF.out⟩
                · have HG : Hid (PermIn a b d e1 ∧ SortedIn lt a b e1) := Lib.hid (HF.out.2.1 hr)
                  clear HF
                  by_cases hr1 : mid < ed
                  · have zr1 : (mid : Int) < (ed : Int) := by omega
                    have zr2 : ¬ (ed : Int) < (b : Int) := by omega
                    go_wp2
                    all_goals
                      go_end0
                      exact ⟨rfl, e1, HG.out.1, HG.out.2, SE.out⟩
                  · have zr1 : ¬ (mid : Int) < (ed : Int) := by omega
                    go_wp2
                    all_goals
                      go_end0
                      exact ⟨rfl, e1, HG.out.1, HG.out.2, SE.out⟩
            · have hE1 : d.size = d.size := hE
              have HF := Lib.hid (HX.out.2 d (permIn_refl d _ _) (by
                by_cases c : s < mid
                · have e : a = s := by omega
                  have := HX.out.1.right
                  rwa [← e] at this
                · have e : s = mid := by omega
                  have := HX.out.1.left
                  rwa [e] at this))
              have SE : Aside _ := SD.out
              clear SD HX
              by_cases hl1 : a < s
              · have zl1 : (a : Int) < (s : Int) := by omega
                have zl2 : ¬ (s : Int) < (mid : Int) := by omega
                clear hl
                by_cases hr : mid < ed ∧ ed < b
                · obtain ⟨hr1, hr2⟩ := hr
                  have zr1 : (mid : Int) < (ed : Int) := by omega
                  have zr2 : (ed : Int) < (b : Int) := by omega
                  have hcall := IH mid ed b d _ (by omega) (by omega) SE.out hr1 hr2 (by omega) HF.out.1
                  rw [hE1] at hcall
                  clear SE
                  go_wp2_with fail
                  all_goals
                    refine hcall.mono ?_
                    rintro e w5 ⟨rfl, e2, p2, s2, S5⟩
                    have HG : Hid (PermIn a b d e2 ∧ SortedIn lt a b e2) := Lib.hid (HF.out.2.2 e2 p2 s2)
                    have SF : Aside (SW enc w0 blk off e2 w5) := S5
                    clear hcall p2 s2 S5 HF
                    go_wp2
                    all_goals
                      go_end0
                      exact ⟨rfl, e2, HG.out.1, HG.out.2, SF.out⟩
                · have HG : Hid (PermIn a b d d ∧ SortedIn lt a b d) := Lib.hid (HF.out.2.1 hr)
                  clear HF
                  by_cases hr1 : mid < ed
                  · have zr1 : (mid : Int) < (ed : Int) := by omega
                    have zr2 : ¬ (ed : Int) < (b : Int) := by omega
                    go_wp2
                    all_goals
                      go_end0
                      exact ⟨rfl, d, HG.out.1, HG.out.2, SE.out⟩
                  · have zr1 : ¬ (mid : Int) < (ed : Int) := by omega
                    go_wp2
                    all_goals
                      go_end0
                      exact ⟨rfl, d, HG.out.1, HG.out.2, SE.out⟩
              · have zl1 : ¬ (a : Int) < (s : Int) := by omega
                clear hl
                by_cases hr : mid < ed ∧ ed < b
                · obtain ⟨hr1, hr2⟩ := hr
                  have zr1 : (mid : Int) < (ed : Int) := by omega
                  have zr2 : (ed : Int) < (b : Int) := by omega
                  have hcall := IH mid ed b d _ (by omega) (by omega) SE.out hr1 hr2 (by omega) HF.out.1
                  rw [hE1] at hcall
                  clear SE
                  go_wp2_with fail
                  all_goals
                    refine hcall.mono ?_
                    rintro e w5 ⟨rfl, e2, p2, s2, S5⟩
                    have HG : Hid (PermIn a b d e2 ∧ SortedIn lt a b e2) := Lib.hid (HF.out.2.2 e2 p2 s2)
                    have SF : Aside (SW enc w0 blk off e2 w5) := S5
                    clear hcall p2 s2 S5 HF
                    go_wp2
                    all_goals
                      go_end0
                      exact ⟨rfl, e2, HG.out.1, HG.out.2, SF.out⟩
                · have HG : Hid (PermIn a b d d ∧ SortedIn lt a b d) := Lib.hid (HF.out.2.1 hr)
                  clear HF
                  by_cases hr1 : mid < ed
                  · have zr1 : (mid : Int) < (ed : Int) := by omega
                    have zr2 : ¬ (ed : Int) < (b : Int) := by omega
                    go_wp2
                    all_goals
                      go_end0
                      exact ⟨rfl, d, HG.out.1, HG.out.2, SE.out⟩
                  · have zr1 : ¬ (mid : Int) < (ed : Int) := by omega
                    go_wp2
                    all_goals
                      go_end0
                      exact ⟨rfl, d, HG.out.1, HG.out.2, SE.out⟩
          · have zo1 : ¬ (s : Int) < (m : Int) := by omega
            clear hrot
            by_cases hl : a < s ∧ s < mid
            · obtain ⟨hl1, hl2⟩ := hl
              have zl1 : (a : Int) < (s : Int) := by omega
              have zl2 : (s : Int) < (mid : Int) := by omega
              have hcall := IH a s mid d _ (by omega) (by omega) SD.out hl1 hl2 (by omega) HX.out.1
              rw [hE] at hcall
              clear SD
              go_wp2_with fail
              all_goals
                refine hcall.mono ?_
                rintro e w4 ⟨rfl, e1, p1, s1, S4⟩
                have hE1 : e1.size = d.size := by first | exact p1.1 | exact p1.1.trans hE
                have HF := Lib.hid (HX.out.2 e1 p1 s1)
                have SE : Aside (SW enc w0 blk off e1 w4) := S4
                clear hcall p1 s1 S4 HX
                by_cases hr : mid < ed ∧ ed < b
                · obtain ⟨hr1, hr2⟩ := hr
                  have zr1 : (mid : Int) < (ed : Int) := by omega
                  have zr2 : (ed : Int) < (b : Int) := by omega
                  have hcall := IH mid ed b e1 _ (by omega) (by omega) SE.out hr1 hr2 (by omega) HF.out.1
                  rw [hE1] at hcall
                  clear SE
                  go_wp2_with fail
                  all_goals
                    refine hcall.mono ?_
                    rintro e w5 ⟨rfl, e2, p2, s2, S5⟩
                    have HG : Hid (PermIn a b d e2 ∧ SortedIn lt a b e2) := Lib.hid (HF.out.2.2 e2 p2 s2)
                    have SF : Aside (SW enc w0 blk off e2 w5) := S5
                    clear hcall p2 s2 S5 HF
                    go_wp2
                    all_goals
                      go_end0
                      exact ⟨rfl, e2, HG.out.1, HG.out.2, SF.out⟩
                · have HG : Hid (PermIn a b d e1 ∧ SortedIn lt a b e1) := Lib.hid (HF.out.2.1 hr)
                  clear HF
                  by_cases hr1 : mid < ed
                  · have zr1 : (mid : Int) < (ed : Int) := by omega
                    have zr2 : ¬ (ed : Int) < (b : Int) := by omega
                    go_wp2
                    all_goals
                      go_end0
                      exact ⟨rfl, e1, HG.out.1, HG.out.2, SE.out⟩
                  · have zr1 : ¬ (mid : Int) < (ed : Int) := by omega
                    go_wp2
                    all_goals
                      go_end0
                      exact ⟨rfl, e1, HG.out.1, HG.out.2, SE.out⟩
            · have hE1 : d.size = d.size := hE
              have HF := Lib.hid (HX.out.2 d (permIn_refl d _ _) (by
                by_cases c : s < mid
                · have e : a = s := by omega
                  have := HX.out.1.right
                  rwa [← e] at this
                · have e : s = mid := by omega
                  have := HX.out.1.left
                  rwa [e] at this))
              have SE : Aside _ := SD.out
              clear SD HX
              by_cases hl1 : a < s
              · have zl1 : (a : Int) < (s : Int) := by omega
                have zl2 : ¬ (s : Int) < (mid : Int) := by omega
                clear hl
                by_cases hr : mid < ed ∧ ed < b
                · obtain ⟨hr1, hr2⟩ := hr
                  have zr1 : (mid : Int) < (ed : Int) := by omega
                  have zr2 : (ed : Int) < (b : Int) := by omega
                  have hcall := IH mid ed b d _ (by omega) (by omega) SE.out hr1 hr2 (by omega) HF.out.1
                  rw [hE1] at hcall
                  clear SE
                  go_wp2_with fail
                  all_goals
                    refine hcall.mono ?_
                    rintro e w5 ⟨rfl, e2, p2, s2, S5⟩
                    have HG : Hid (PermIn a b d e2 ∧ SortedIn lt a b e2) := Lib.hid (HF.out.2.2 e2 p2 s2)
                    have SF : Aside (SW enc w0 blk off e2 w5) := S5
                    clear hcall p2 s2 S5 HF
                    go_wp2
                    all_goals
                      go_end0
                      exact ⟨rfl, e2, HG.out.1, HG.out.2, SF.out⟩
                · have HG : Hid (PermIn a b d d ∧ SortedIn lt a b d) := Lib.hid (HF.out.2.1 hr)
                  clear HF
                  by_cases hr1 : mid < ed
                  · have zr1 : (mid : Int) < (ed : Int) := by omega
                    have zr2 : ¬ (ed : Int) < (b : Int) := by omega
                    go_wp2
                    all_goals
                      go_end0
                      exact ⟨rfl, d, HG.out.1, HG.out.2, SE.out⟩
                  · have zr1 : ¬ (mid : Int) < (ed : Int) := by omega
                    go_wp2
                    all_goals
                      go_end0
                      exact ⟨rfl, d, HG.out.1, HG.out.2, SE.out⟩
              · have zl1 : ¬ (a : Int) < (s : Int) := by omega
                clear hl
                by_cases hr : mid < ed ∧ ed < b
                · obtain ⟨hr1, hr2⟩ := hr
                  have zr1 : (mid : Int) < (ed : Int) := by omega
                  have zr2 : (ed : Int) < (b : Int) := by omega
                  have hcall := IH mid ed b d _ (by omega) (by omega) SE.out hr1 hr2 (by omega) HF.out.1
                  rw [hE1] at hcall
                  clear SE
                  go_wp2_with fail
                  all_goals
                    refine hcall.mono ?_
                    rintro e w5 ⟨rfl, e2, p2, s2, S5⟩
                    have HG : Hid (PermIn a b d e2 ∧ SortedIn lt a b e2) := Lib.hid (HF.out.2.2 e2 p2 s2)
                    have SF : Aside (SW enc w0 blk off e2 w5) := S5
                    clear hcall p2 s2 S5 HF
                    go_wp2
                    all_goals
                      go_end0
                      exact ⟨rfl, e2, HG.out.1, HG.out.2, SF.out⟩
                · have HG : Hid (PermIn a b d d ∧ SortedIn lt a b d) := Lib.hid (HF.out.2.1 hr)
                  clear HF
                  by_cases hr1 : mid < ed
                  · have zr1 : (mid : Int) < (ed : Int) := by omega
                    have zr2 : ¬ (ed : Int) < (b : Int) := by omega
                    go_wp2
                    all_goals
                      go_end0
                      exact ⟨rfl, d, HG.out.1, HG.out.2, SE.out⟩
                  · have zr1 : ¬ (mid : Int) < (ed : Int) := by omega
                    go_wp2
                    all_goals
                      go_end0
                      exact ⟨rfl, d, HG.out.1, HG.out.2, SE.out⟩
end Stb
end Go.Proofs.YtdhlmflbefnekaaDoor
