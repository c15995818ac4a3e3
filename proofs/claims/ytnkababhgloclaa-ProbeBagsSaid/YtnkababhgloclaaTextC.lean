/- A card's texts: slices.Index and Contains, the document's texts. -/
import Derived.Test.YtnkababhgloclaaCardD
import Derived.Test.YtnkababhgloclaaNameP
import Derived.Lib.SlicesS
namespace Go.Proofs.Ytnkababhgloclaa
open Go.RowKit Go.Lib
namespace Tx
def hasS (ss : List ByteArray) (x : ByteArray) : Bool := ss.any fun s => decide (s = x)
theorem beq_yes {a b : ByteArray} (h : a = b) : (a.toList == b.toList) = true := by rw [h]; simp
theorem beq_no {a b : ByteArray} (h : a ≠ b) : (a.toList == b.toList) = false := by
  rw [← Bool.not_eq_true]
  intro h'
  exact h ((Lib.bytes_beq_iff _ _).1 h')
theorem hasS_yes {ss : List ByteArray} {k : Nat} {x : ByteArray} (hk : k < ss.length) (h : nthS ss k = x) : hasS ss x = true := by
  unfold hasS
  rw [List.any_eq_true]
  exact ⟨nthS ss k, by rw [nthS_eq hk]; exact List.getElem_mem _, decide_eq_true h⟩
theorem hasS_no {ss : List ByteArray} {x : ByteArray} (h : ∀ k, k < ss.length → nthS ss k ≠ x) : hasS ss x = false := by
  unfold hasS
  rw [List.any_eq_false]
  intro s hs
  obtain ⟨k, hk, rfl⟩ := List.getElem_of_mem hs
  have := h k hk
  rw [nthS_eq hk] at this
  simpa using this
theorem nthS_take {ss : List ByteArray} {n k : Nat} (h : k < n) : nthS (ss.take n) k = nthS ss k := by
  unfold nthS
  simp [List.getD_eq_getElem?_getD, List.getElem?_take, h]
theorem Strs.take {w : World} {a : Option Addr} {n cap : Nat} {ss : List ByteArray} (h : Strs w (.slice a n cap) ss) (i : Nat) (hi : i ≤ n) : Strs w (.slice a i cap) (ss.take i) := by
  obtain ⟨a', cap', he, g1, g0, g2, g3⟩ := h
  simp only [Value.slice.injEq] at he
  obtain ⟨rfl, rfl, rfl⟩ := he
  have hl : (ss.take i).length = i := by rw [List.length_take]; omega
  refine ⟨a, cap, by rw [hl], by omega, by omega, fun h => ?_, fun k hk => ?_⟩
  · obtain ⟨e1, e2⟩ := g2 h
    exact ⟨by rw [e1]; simp, e2⟩
  · rw [hl] at hk
    obtain ⟨b, off, h1, h2⟩ := g3 k (by omega)
    exact ⟨b, off, h1, by rw [nthS_take hk]; exact h2⟩
def Found (b : Bool) (w : World) (e : Ending) (w' : World) : Prop := ∃ x : Int, e = .returned (.int .i64 x) ∧ decide (0 ≤ x) = b ∧ w' = w
set_option maxHeartbeats 1000000 in
theorem index_any (v : Value) (ss : List ByteArray) (x : ByteArray) (w : World) (hv : Strs w v ss) : Calls Try.prog 85 #[v, .string x] w (Found (hasS ss x) w) := by
  obtain ⟨a, cap, rfl, hm, _, _, hc⟩ := hv
  have HC := Lib.hid hc
  unfold maxLen at hm
  clear hc
  go_enter Try.func85, Try.ntmps85
  go_wp2_with fail
  go_loopg [5, 8] ss.length (fun r _ vi wr => ∃ k : Nat, k ≤ ss.length ∧ r = ss.length - k ∧ vi = .int .i64 k ∧ wr = w ∧ Hid (∀ j, j < k → nthS ss j ≠ x))
  case atStart => exact ⟨0, by omega, by omega, rfl, rfl, Lib.hid (fun j h => by omega)⟩
  case round =>
    obtain ⟨k, hk, hr, rfl, rfl, hh⟩ := hrel
    have HR := Lib.hid hr
    clear hr
    by_cases hlt : k < ss.length
    · obtain ⟨b, off, hp, g⟩ := HC.out k hlt
      subst hp
      by_cases he : nthS ss k = x
      · have HF := Lib.hid (hasS_yes hlt he)
        have e1 := beq_yes he.symm
        obtain ⟨y, hy⟩ : ∃ y, nthS ss k = y := ⟨_, rfl⟩
        rw [hy] at g e1
        clear hy he hh
        go_wp2_with fail
        go_ret
        exact ⟨_, rfl, by rw [HF.out]; exact decide_eq_true (by omega), rfl⟩
      · have HN : Hid (∀ j, j < k + 1 → nthS ss j ≠ x) := Lib.hid (fun j hj => by
          by_cases e : j = k
          · subst e; exact he
          · exact hh.out j (by omega))
        have e1 := beq_no (Ne.symm he)
        obtain ⟨y, hy⟩ : ∃ y, nthS ss k = y := ⟨_, rfl⟩
        rw [hy] at g e1
        clear hy he hh
        go_wp2_with fail
        go_roundg (ss.length - (k + 1))
        case measure => rw [HR.out]; omega
        case rel => exact ⟨k + 1, by omega, rfl, by first | rfl | simp, rfl, HN⟩
    · obtain rfl : k = ss.length := by omega
      have HF := Lib.hid (hasS_no (fun j hj => hh.out j hj))
      go_wp2_with fail
      go_ret
      exact ⟨_, rfl, by rw [HF.out]; rfl, rfl⟩
theorem contains_any (v : Value) (ss : List ByteArray) (x : ByteArray) (w : World) (hv : Strs w v ss) : Calls Try.prog 80 #[v, .string x] w fun e w' => e = .returned (.bool (hasS ss x)) ∧ w' = w := by
  have h := Lib.hid (index_any v ss x w hv)
  clear hv
  go_enter Try.func80, Try.ntmps80
  go_wp2_with fail
  refine h.out.mono ?_
  rintro e w' ⟨r, rfl, hx, rfl⟩
  have HX := Lib.hid hx
  clear hx
  go_wp2_with fail
  go_ret
  exact ⟨congrArg (fun b => Ending.returned (.bool b)) HX.out, rfl⟩
/-- May a text be? -/
def textB (s : ByteArray) : Bool := decide (1 ≤ s.size) && decide (s.size ≤ 63) && s.data.toList.all fun c => c != 0
def goodB (ss : List ByteArray) (i : Nat) : Bool := textB (nthS ss i) && !hasS (ss.take i) (nthS ss i)
def textsB (ss : List ByteArray) : Bool := decide (1 ≤ ss.length) && decide (ss.length ≤ 8) && (List.range ss.length).all fun i => goodB ss i
theorem textsB_short {ss : List ByteArray} (h : ss.length = 0) : textsB ss = false := by
  unfold textsB
  rw [decide_eq_false (by omega)]
  rfl
theorem textsB_long {ss : List ByteArray} (h : 8 < ss.length) : textsB ss = false := by
  unfold textsB
  rw [decide_eq_false (show ¬ ss.length ≤ 8 by omega), Bool.and_false]
  rfl
theorem textsB_bad {ss : List ByteArray} {k : Nat} (hk : k < ss.length) (h : goodB ss k = false) : textsB ss = false := by
  unfold textsB
  have : ((List.range ss.length).all fun i => goodB ss i) = false := by
    rw [List.all_eq_false]
    exact ⟨k, List.mem_range.2 hk, by rw [h]; simp⟩
  rw [this, Bool.and_false]
theorem textsB_good {ss : List ByteArray} (h1 : 1 ≤ ss.length) (h2 : ss.length ≤ 8) (h : ∀ k, k < ss.length → goodB ss k = true) : textsB ss = true := by
  unfold textsB
  rw [decide_eq_true h1, decide_eq_true h2, Bool.true_and, Bool.true_and, List.all_eq_true]
  exact fun k hk => h k (List.mem_range.1 hk)
theorem zero_in {s : ByteArray} {k : Nat} (hk : k < s.size) (h : s[k] = 0) : (s.data.toList.all fun c => c != 0) = false := by
  rw [List.all_eq_false]
  exact ⟨s[k], List.mem_of_getElem (i := k) (h := by simpa using hk) rfl, by rw [h]; simp⟩
theorem zero_out {s : ByteArray} (h : ∀ k (hk : k < s.size), s[k] ≠ 0) : (s.data.toList.all fun c => c != 0) = true := by
  rw [List.all_eq_true]
  intro c hc
  obtain ⟨k, hk, rfl⟩ := List.getElem_of_mem hc
  have := h k (by simpa using hk)
  exact bne_iff_ne.2 this
theorem toNat_zero {c : UInt8} : c.toNat = 0 ↔ c = 0 := by
  constructor
  · intro h; exact UInt8.toNat_inj.1 (by rw [h]; rfl)
  · intro h; rw [h]; rfl
theorem goodB_short {ss : List ByteArray} {k : Nat} (h : (nthS ss k).size = 0) : goodB ss k = false := by
  unfold goodB textB
  rw [decide_eq_false (by omega)]
  rfl
theorem goodB_long {ss : List ByteArray} {k : Nat} (h : 63 < (nthS ss k).size) : goodB ss k = false := by
  unfold goodB textB
  rw [decide_eq_false (show ¬ (nthS ss k).size ≤ 63 by omega), Bool.and_false]
  rfl
theorem goodB_zero {ss : List ByteArray} {k : Nat} (h : ((nthS ss k).data.toList.all fun c => c != 0) = false) : goodB ss k = false := by
  unfold goodB textB
  rw [h, Bool.and_false]
  rfl
theorem goodB_dup {ss : List ByteArray} {k : Nat} (h : hasS (ss.take k) (nthS ss k) = true) : goodB ss k = false := by
  unfold goodB
  rw [h]
  simp
theorem goodB_yes {ss : List ByteArray} {k : Nat} (h1 : 1 ≤ (nthS ss k).size) (h2 : (nthS ss k).size ≤ 63) (h3 : ((nthS ss k).data.toList.all fun c => c != 0) = true) (h4 : hasS (ss.take k) (nthS ss k) = false) : goodB ss k = true := by
  unfold goodB textB
  rw [decide_eq_true h1, decide_eq_true h2, h3, h4]
  rfl
theorem hasS_take_yes {ss : List ByteArray} {k j : Nat} (hk : k < ss.length) (hj : j < k) (h : nthS ss j = nthS ss k) : hasS (ss.take k) (nthS ss k) = true :=
  hasS_yes (k := j) (by rw [List.length_take]; omega) (by rw [nthS_take hj]; exact h)
theorem hasS_take_no {ss : List ByteArray} {k : Nat} (h : ∀ j, j < k → nthS ss j ≠ nthS ss k) : hasS (ss.take k) (nthS ss k) = false :=
  hasS_no (fun j hj => by
    rw [List.length_take] at hj
    rw [nthS_take (by omega)]
    exact h j (by omega))
def Bl (b : Bool) (w : World) (e : Ending) (w' : World) : Prop := e = .returned (.bool b) ∧ ∃ n, w' = w.drewN n
set_option maxHeartbeats 4000000 in
theorem rtexts_any (v : Value) (ss : List ByteArray) (w : World) (hv : Strs w v ss) : Calls Try.prog 73 #[v] w (Bl (textsB ss) w) := by
  obtain ⟨a, cap, rfl, hm, _, _, hc⟩ := hv
  have HC := Lib.hid hc
  unfold maxLen at hm
  clear hc
  by_cases h0 : ss.length = 0
  · have HF := Lib.hid (textsB_short h0)
    have d1 : decide ((ss.length : Int) < 1) = true := decide_eq_true (by omega)
    have HH := Lib.hid h0
    clear h0
    go_enter Try.func73, Try.ntmps73
    go_wp2_with fail
    go_ret
    exact ⟨by rw [HF.out]; rfl, 0, rfl⟩
  have d1 : decide ((ss.length : Int) < 1) = false := decide_eq_false (by omega)
  by_cases h8 : 8 < ss.length
  · have HF := Lib.hid (textsB_long h8)
    have d2 : (ss.length : Int) > 8 := by omega
    go_enter Try.func73, Try.ntmps73
    go_wp2_with fail
    go_ret
    exact ⟨by rw [HF.out]; rfl, 0, rfl⟩
  have d2 : ¬ (ss.length : Int) > 8 := by omega
  go_enter Try.func73, Try.ntmps73
  go_wp2_with fail
  go_loopg [3, 4, 5] ss.length (fun r vi _ _ wr => ∃ (k dd : Nat), k ≤ ss.length ∧ r = ss.length - k ∧ vi = .int .i64 k ∧ wr = w.drewN dd ∧ Hid (∀ j, j < k → goodB ss j = true))
  case atStart => exact ⟨0, 0, by omega, by omega, rfl, rfl, Lib.hid (fun j h => by omega)⟩
  case round =>
    obtain ⟨k, dd, hk, hr, rfl, rfl, hh⟩ := hrel
    have HR := Lib.hid hr
    clear hr
    by_cases hlt : k < ss.length
    · obtain ⟨b, off, hp, g⟩ := HC.out k hlt
      subst hp
      obtain ⟨s, hs⟩ : ∃ s, nthS ss k = s := ⟨_, rfl⟩
      have HS := Lib.hid hs
      rw [hs] at g
      clear hs
      by_cases s0 : s.size = 0
      · have HF := Lib.hid (textsB_bad hlt (goodB_short (by rw [HS.out]; exact s0)))
        have e1 : decide ((s.size : Int) < 1) = true := decide_eq_true (by omega)
        have HH := Lib.hid s0
        clear s0
        go_wp2_with fail
        go_ret
        exact ⟨by rw [HF.out]; rfl, _, rfl⟩
      have e1 : decide ((s.size : Int) < 1) = false := decide_eq_false (by omega)
      by_cases s6 : 63 < s.size
      · have HF := Lib.hid (textsB_bad hlt (goodB_long (by rw [HS.out]; exact s6)))
        have e2 : (s.size : Int) > 63 := by omega
        go_wp2_with fail
        go_ret
        exact ⟨by rw [HF.out]; rfl, _, rfl⟩
      have e2 : ¬ (s.size : Int) > 63 := by omega
      go_wp2_with fail
      go_loopg [4] s.size (fun r vj wr => ∃ j : Nat, j ≤ s.size ∧ r = s.size - j ∧ vj = .int .i64 j ∧ wr = w.drewN dd ∧ Hid (∀ i (hi : i < s.size), i < j → s[i] ≠ 0))
      case atStart => exact ⟨0, by omega, by omega, rfl, rfl, Lib.hid (fun i _ h => by omega)⟩
      case round =>
        obtain ⟨j, hj, hr, rfl, rfl, hz⟩ := hrel
        have HR2 := Lib.hid hr
        clear hr
        by_cases hlt2 : j < s.size
        · by_cases hc0 : s[j] = 0
          · have HF := Lib.hid (textsB_bad hlt (goodB_zero (by rw [HS.out]; exact zero_in hlt2 hc0)))
            have e3 : ((s[j].toNat : Int) == 0) = true := by rw [toNat_zero.2 hc0]; rfl
            clear hc0 hz
            go_wp2_with fail
            go_ret
            exact ⟨by rw [HF.out]; rfl, _, rfl⟩
          · have HN : Hid (∀ i (hi : i < s.size), i < j + 1 → s[i] ≠ 0) := Lib.hid (fun i hi hij => by
              by_cases e : i = j
              · subst e; exact hc0
              · exact hz.out i hi (by omega))
            have e3 : ((s[j].toNat : Int) == 0) = false := beq_eq_false_iff_ne.2 (fun h => hc0 (toNat_zero.1 (by omega)))
            have e4 : (s[j] == 0) = false := beq_eq_false_iff_ne.2 hc0
            clear hc0 hz
            go_wp2_with fail
            go_roundg (s.size - (j + 1))
            case measure => rw [HR2.out]; omega
            case rel => exact ⟨j + 1, by omega, rfl, by first | rfl | simp, rfl, HN⟩
        · obtain rfl : j = s.size := by omega
          have HZ := Lib.hid (zero_out (fun i hi => hz.out i hi hi))
          clear hz
          go_wp2_with fail
          obtain ⟨wk, hwk⟩ : ∃ wk, wk = w.drewN dd := ⟨_, rfl⟩
          have g' : wk.cell? ⟨b, off + k, none⟩ = some (.string s) := by rw [hwk]; exact g
          have HC' : Hid (∀ i, i < ss.length → wk.cell? ⟨b, off + i, none⟩ = some (.string (nthS ss i))) := Lib.hid (fun i hi => by
            obtain ⟨b', off', h1, h2⟩ := HC.out i hi
            simp only [Option.some.injEq, Addr.mk.injEq, and_true] at h1
            obtain ⟨rfl, rfl⟩ := h1
            rw [hwk]
            exact h2)
          rw [← hwk]
          have HWK := Lib.hid hwk
          clear hwk g
          go_loopg [5] k (fun r vj wr => ∃ (j d2 : Nat), j ≤ k ∧ r = k - j ∧ vj = .int .i64 j ∧ wr = wk.drewN d2 ∧ Hid (∀ i, i < j → nthS ss i ≠ s))
          case atStart => exact ⟨0, 0, by omega, by omega, rfl, rfl, Lib.hid (fun i h => by omega)⟩
          case round =>
            obtain ⟨j, d2', hj, hr, rfl, rfl, hz⟩ := hrel
            have HR3 := Lib.hid hr
            clear hr
            by_cases hlt3 : j < k
            · have g2 := HC'.out j (by omega)
              have ww1 : IntKind.i64.wrap (j : Int) = (j : Int) := by rw [IntKind.wrap_i64]; omega
              have ww2 : IntKind.i64.wrap (k : Int) = (k : Int) := by rw [IntKind.wrap_i64]; omega
              by_cases he : nthS ss j = s
              · have HF := Lib.hid (textsB_bad hlt (goodB_dup (hasS_take_yes hlt hlt3 (by rw [HS.out]; exact he))))
                have q1 := beq_yes he
                obtain ⟨y, hy⟩ : ∃ y, nthS ss j = y := ⟨_, rfl⟩
                rw [hy] at g2 q1
                clear hy he hz
                go_wp2_with fail
                go_quiet (fail)
                go_wp2_with fail
                go_ret
                exact ⟨by rw [HF.out]; rfl, dd + (d2' + nq), by rw [HWK.out]; simp only [World.drewN_drewN, Nat.add_assoc]⟩
              · have HN : Hid (∀ i, i < j + 1 → nthS ss i ≠ s) := Lib.hid (fun i hij => by
                  by_cases e : i = j
                  · subst e; exact he
                  · exact hz.out i (by omega))
                have q1 := beq_no he
                obtain ⟨y, hy⟩ : ∃ y, nthS ss j = y := ⟨_, rfl⟩
                rw [hy] at g2 q1
                clear hy he hz
                go_wp2_with fail
                go_quiet (fail)
                go_wp2_with fail
                go_roundg (k - (j + 1))
                case measure => rw [HR3.out]; omega
                case rel => exact ⟨j + 1, _, by omega, rfl, by first | rfl | simp, by first | rfl | exact World.drewN_drewN _ _ _, HN⟩
            · obtain rfl : j = k := by omega
              have HN : Hid (∀ i, i < j + 1 → goodB ss i = true) := Lib.hid (fun i hij => by
                by_cases e : i = j
                · subst e
                  exact goodB_yes (by rw [HS.out]; omega) (by rw [HS.out]; omega) (by rw [HS.out]; exact HZ.out) (hasS_take_no (fun i hi => by rw [HS.out]; exact hz.out i hi))
                · exact hh.out i (by omega))
              clear hz hh
              go_wp2_with fail
              go_roundg (ss.length - (j + 1))
              case measure => rw [HR.out]; omega
              case rel => exact ⟨j + 1, dd + d2', by omega, rfl, by first | rfl | simp, by rw [HWK.out]; simp only [World.drewN_drewN], HN⟩
    · obtain rfl : k = ss.length := by omega
      have HF := Lib.hid (textsB_good (by omega) (by omega) (fun j hj => hh.out j hj))
      go_wp2_with fail
      go_ret
      exact ⟨by rw [HF.out]; rfl, _, rfl⟩
end Tx
end Go.Proofs.Ytnkababhgloclaa
