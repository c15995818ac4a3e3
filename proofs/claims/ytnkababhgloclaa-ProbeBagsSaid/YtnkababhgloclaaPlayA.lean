/- ProbeBags: how many things a list has. -/
import Derived.Test.YtnkababhgloclaaRBagK
namespace Go.Proofs.Ytnkababhgloclaa
open Go.RowKit Go.ChangeShapes
def countR (L : List RT) : Nat := (L.filter fun t => !t.mark).length
theorem countR_snoc (L : List RT) (t : RT) : countR (L ++ [t]) = countR L + (if t.mark then 0 else 1) := by
  unfold countR
  cases h : t.mark <;> simp [h]
theorem countR_le (L : List RT) : countR L ≤ L.length := List.length_filter_le _ _
theorem wrapP {k : Nat} (h : k ≤ 256) : wrap64 ((k : Int) + 1) = ((k + 1 : Nat) : Int) := by rw [IntWalk.wrap64_in _ (by omega)]; omega
set_option maxHeartbeats 4000000 in
theorem things_any {w : World} {v : Value} {L : List RT} (hv : RTsAt w v L) (hl : L.length ≤ 256) :
    Calls Try.prog 37 #[v] w fun e w' => e = .returned (.int .i64 (countR L : Nat)) ∧ w' = w := by
  obtain ⟨a, c, rfl, hg⟩ := hv
  obtain ⟨n, hn⟩ : ∃ n, L.length = n := ⟨_, rfl⟩
  have HN := Lib.hid hn
  have HL : Hid (n ≤ 256) := Lib.hid (by rw [← hn]; exact hl)
  have HG := Lib.hid hg
  rw [hn]
  clear hg hn hl
  go_enter Try.func37, Try.ntmps37
  go_wp2_with fail
  go_loopg [3, 4] n (fun r v3 v4 wr => ∃ k : Nat, k ≤ n ∧ r = n - k ∧ v4 = .int .i64 k ∧ v3 = .int .i64 (countR (L.take k) : Nat) ∧ w = wr)
  case atStart => exact ⟨0, Nat.zero_le _, rfl, rfl, rfl, rfl⟩
  case round =>
    obtain ⟨k, hk, hr, rfl, rfl, rfl⟩ := hrel
    have HR := Lib.hid hr
    clear hr
    by_cases hlt : k < n
    · have hkL : k < L.length := by rw [HN.out]; exact hlt
      obtain ⟨b, off, rfl, gx⟩ := HG.out k hkL
      obtain ⟨⟨tid, tm, tn, tc, tp, tw⟩, ht⟩ : ∃ t, L[k] = t := ⟨_, rfl⟩
      rw [ht] at gx
      have d1 : w.cell? ⟨b, off + k * 6 + 1, none⟩ = some (.bool tm) := gx 1 _ rfl
      obtain ⟨h1, h2, wk⟩ := idxD hlt HL.out
      have EQ : Hid (countR (L.take (k + 1)) = countR (L.take k) + (if tm then 0 else 1)) := Lib.hid (by
        rw [List.take_succ_eq_append_getElem hkL, countR_snoc, ht])
      obtain ⟨cn, hcn⟩ : ∃ cn, countR (L.take k) = cn := ⟨_, rfl⟩
      have hc : cn ≤ 256 := by
        rw [← hcn]
        refine Nat.le_trans (countR_le _) ?_
        rw [List.length_take]
        have := HL.out
        omega
      have wc := wrapP hc
      have HLT := Lib.hid hlt
      have HCN := Lib.hid hcn
      rw [hcn]
      clear gx ht hlt hk hkL hc hcn
      cases tm with
      | true =>
        go_wp2_with fail
        go_roundg (n - (k + 1))
        case measure => exact measD HR.out HLT.out
        case rel => exact ⟨k + 1, HLT.out, rfl, by first | rfl | (rw [wk]; rfl), by rw [EQ.out, HCN.out]; rfl, rfl⟩
      | false =>
        go_wp2_with fail
        go_roundg (n - (k + 1))
        case measure => exact measD HR.out HLT.out
        case rel => exact ⟨k + 1, HLT.out, rfl, by first | rfl | (rw [wk]; rfl), by rw [EQ.out, HCN.out]; first | rfl | (rw [wc]; rfl), rfl⟩
    · obtain rfl : n = k := by omega
      have FIN : Hid (countR (L.take n) = countR L) := Lib.hid (by rw [List.take_of_length_le (by rw [HN.out]; exact Nat.le_refl _)])
      clear hk hlt HR
      go_wp2_with fail
      go_ret
      exact ⟨by rw [FIN.out]; rfl, rfl⟩
end Go.Proofs.Ytnkababhgloclaa
