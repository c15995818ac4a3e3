/- The walk of BusTurns. -/
import Derived.Test.YtdhlmflbefnekaaDoorTurnC
import Derived.Test.YtdhlmflbefnekaaDoorWorksC
import Derived.Outline
import Derived.OpenShut
namespace Go.Proofs.YtdhlmflbefnekaaDoor
open Go.RowKit Go.ChangeShapes Go.WideShapes
theorem Vars.mk {W : World} (h0 : Lib.TabIs Tryd.prog W "reveille/bus.table" .i64 busL) : ∀ x ∈ wkRun.tabs, Ev.HoldsAt W x.1 x.2 ∧ x.1 < Tryd.prog.globals.size := wkRun.stood_tabs h0
/-- The small weights. -/
def small (zs : List Int) : List Int := (zs.take 10).map (· % 40)
theorem small_len (zs : List Int) : (small zs).length = min 10 zs.length := by simp [small]
theorem small_at (zs : List Int) (k : Nat) (h : k < zs.length) (h2 : k < 10) : nth (small zs) k = nth zs k % 40 := by
  unfold small nth
  simp [List.getD_eq_getElem?_getD, List.getElem?_take, h, h2]
theorem small_bd (zs : List Int) (k : Nat) (h : k < (small zs).length) : 0 ≤ nth (small zs) k ∧ nth (small zs) k < 40 := by
  rw [small_len] at h
  rw [small_at zs k (by omega) (by omega)]
  omega
theorem take_snoc' (L : List Int) (k : Nat) (h : k < L.length) : L.take (k + 1) = L.take k ++ [nth L k] := by
  rw [List.take_succ_eq_append_getElem h, nth_eq h]
/-- What the turns are asked of. -/
def asked (zs : List Int) : List Int := if (small zs).sum = 0 then small zs ++ [3] else small zs
theorem sum_bd : ∀ (l : List Int) (b : Int), (∀ k, k < l.length → 0 ≤ nth l k ∧ nth l k ≤ b) → 0 ≤ l.sum ∧ l.sum ≤ l.length * b
  | [], b, _ => by simp
  | x :: l, b, h => by
    have h0 := h 0 (by simp)
    have := sum_bd l b (fun k hk => by have := h (k + 1) (by simpa using hk); simpa [nth] using this)
    have e : nth (x :: l) 0 = x := by simp [nth]
    rw [e] at h0
    simp only [List.length_cons, List.sum_cons, Int.natCast_add, Int.natCast_one, Int.add_mul, Int.one_mul]
    omega
theorem asked_ok (zs : List Int) : (asked zs).length ≤ 11 ∧ 0 < (asked zs).sum ∧ (asked zs).sum ≤ 390 ∧ (∀ k, k < (asked zs).length → 0 ≤ nth (asked zs) k ∧ nth (asked zs) k < 40) ∧ okW (asked zs) = true := by
  obtain ⟨h1, h2⟩ := sum_bd (small zs) 39 (fun k hk => by have := small_bd zs k hk; omega)
  have hl := small_len zs
  have key : (asked zs).length ≤ 11 ∧ 0 < (asked zs).sum ∧ (asked zs).sum ≤ 390 ∧ (∀ k, k < (asked zs).length → 0 ≤ nth (asked zs) k ∧ nth (asked zs) k < 40) := by
    unfold asked
    by_cases c : (small zs).sum = 0
    · rw [if_pos c]
      refine ⟨by simp; omega, by simp [c], by simp [c], fun k hk => ?_⟩
      by_cases ck : k < (small zs).length
      · have := small_bd zs k ck
        have e : nth (small zs ++ [3]) k = nth (small zs) k := by simp [nth, List.getD_eq_getElem?_getD, List.getElem?_append, ck]
        rw [e]; exact this
      · have e : nth (small zs ++ [3]) k = 3 := by
          have hk' : k = (small zs).length := by simp at hk; omega
          subst hk'
          simp [nth, List.getD_eq_getElem?_getD, List.getElem?_append]
        rw [e]; omega
    · rw [if_neg c]
      exact ⟨by omega, by omega, by omega, small_bd zs⟩
  obtain ⟨k1, k2, k3, k4⟩ := key
  refine ⟨k1, k2, k3, k4, ?_⟩
  rw [okW_good (fun k hk => by have := k4 k hk; omega), decide_eq_true k2, decide_eq_true (by omega)]
  rfl
set_option maxHeartbeats 8000000 in
set_option maxRecDepth 100000 in
theorem busTurns_walk {H : Type} {enc : TypeId × Value → H} (v : Value) (d : DataW H) (ps : List MemPlace) (W : World)
    (h : DataW.Trod enc Tryd.prog W 0 (fun _ => true) true 52 v d ps) {base : Nat} (hok : Value.okWide Tryd.prog W .any base 52 v) (hw : ∀ n ∈ DataW.weights Tryd.prog 52 d, n ≤ reachBytes) (hsh : W.ShapedOpen Tryd.prog) (hT : ∀ x ∈ wkRun.tabs, Ev.HoldsAt W x.1 x.2 ∧ x.1 < Tryd.prog.globals.size) :
    Calls Tryd.prog 7 #[v] W fun e w' => e = .returned (.bool true) ∧ Below W.heap.size W w' := by
  obtain ⟨zs, hv, hsz, hwf⟩ := ints_arg (bytes := 1) Tryd.underlying52 Tryd.underlying5 (by kernel_rfl) (by kernel_rfl) hok h hw
  have HW := Lib.hid (wkRun.works_any ⟨hsh, hT⟩ W (Below.refl _ _))
  have hbd : ∀ k, k < zs.length → 0 ≤ nth zs k ∧ nth zs k ≤ 255 := fun k hk => by
    have := hwf _ (nth_mem hk)
    simpa [Lit.wf, IntKind.min, IntKind.max, IntKind.bits, IntKind.signed] using this
  have HB := Lib.hid hbd
  obtain ⟨a, cap, rfl, hm, _, hc⟩ := hv
  have HC := Lib.hid hc
  obtain ⟨iw, hi, hz0, hz1, hz2⟩ := info_parts infoI64
  obtain ⟨iv, hj, hy0, hy1, hy2⟩ := info_parts infoInt'
  unfold maxLen at hm
  clear hc hwf hbd h hok hw hsh hT hsz
  go_enter Tryd.func7, Tryd.ntmps7
  go_wp2_with fail
  refine HW.out.mono ?_
  rintro e w1 ⟨rfl, hb⟩
  have B1 := Lib.hid hb
  clear hb
  go_wp2_with fail
  obtain ⟨K, hK⟩ : ∃ K, K = min 10 zs.length := ⟨_, rfl⟩
  have hKl := Lib.hid (show (small zs).length = K by rw [small_len, hK])
  have hK1 : K ≤ 10 ∧ K ≤ zs.length ∧ (K = 10 ∨ K = zs.length) := by omega
  clear hK
  obtain ⟨W1, hW1⟩ : ∃ w, w = w1 := ⟨_, rfl⟩
  subst hW1
  go_loopg [3, 4, 5] K (fun r vl va vi wr => ∃ (k : Nat) (S : Int), k ≤ K ∧ r = K - k ∧ vi = .int .i64 k ∧ va = .int .i64 S ∧ 0 ≤ S ∧ S ≤ k * 39 ∧ Hid (S = sumTo (small zs) k ∧ wr.ownsRow W.heap.size 2 1 vl k (rc ((small zs).take k)) ∧ Below W.heap.size W wr))
  case atStart => exact ⟨0, 0, by omega, by omega, rfl, rfl, by omega, by omega, Lib.hid ⟨by simp [sumTo], World.ownsRow_nil _ _ _ _, B1.out⟩⟩
  case round =>
    clear B1
    obtain ⟨k, S, hk, hr, rfl, rfl, hS0, hS1, hq⟩ := hrel
    have HR := Lib.hid hr
    clear hr
    by_cases hlt : k < K
    · have Q1 := Lib.hid hq.out.1
      have Q2 := Lib.hid hq.out.2.1
      have Q3 := Lib.hid hq.out.2.2
      clear hq
      obtain ⟨b, off, hp, g⟩ := HC.out k (by omega)
      subst hp
      have hbz : b < W.heap.size := World.block_lt_of_cell? W _ g
      have g1 : wr.cell? ⟨b, off + k, none⟩ = some (.int .u8 (nth zs k)) := (Q3.out.cell (p := ⟨b, off + k, none⟩) hbz).trans g
      obtain ⟨m, hme⟩ : ∃ m, m = nth (small zs) k := ⟨_, rfl⟩
      have hz := HB.out k (by omega)
      have hm2 : m = nth zs k % 40 := by rw [hme]; exact small_at zs k (by omega) (by omega)
      have SS : Hid (S + m = sumTo (small zs) (k + 1)) := Lib.hid (by rw [sumTo_succ _ k (by rw [hKl.out]; exact hlt), ← Q1.out, hme])
      have TS : Hid (rc ((small zs).take (k + 1)) = rc ((small zs).take k) ++ [.int .i64 m]) := Lib.hid (by rw [take_snoc' _ k (by rw [hKl.out]; exact hlt), ← hme]; simp [rc])
      generalize nth zs k = z at *
      have em1 : z.tmod 40 = m := by rw [hm2]; exact Int.tmod_eq_emod_of_nonneg (by omega)
      have em2 : z % 40 = m := hm2.symm
      have m0 : 0 ≤ m ∧ m < 40 := by omega
      have hz' : W.heap.size ≤ wr.heap.size := Q3.out.size
      have hkm : k + 1 ≤ maxLen := by unfold maxLen; omega
      have hkb : (k + 1) * 8 ≤ 140737488355328 := by omega
      have G := Lib.hid g
      clear hme hm2 g Q1
      go_wp2_with (refine wpList_append_lies _ (by rfl) (.tmp 24) (.tmp 31) 24 (by rfl) W.heap.size 2 iw _ 1 8 Tryd.underlying24 hi hz0 hz1 hz2 rfl (by omega) u3 k (rc ((small zs).take k)) (by rfl) (Q2.out.alloc _) ⟨wr.heap.size, 0, none⟩ 1 1 [.int .i64 m] (by rfl) (by rfl) (World.news_of_block (cs := #[.int .i64 m]) (t := 2) (fr := (0, 0)) (heap_alloc_new wr _)) (by simp [Value.oneCell']) (by omega) hkm hkb (by simp; omega) (wr.heap.size + 1) (by simp) ?_)
      intro gg cap1 w3 hown1 hgrow hat hlt1
      have T1 : Hid (w3.ownsRow W.heap.size 2 1 (.slice (some ⟨gg, 0, none⟩) (k + 1) cap1) (k + 1) (rc ((small zs).take (k + 1)))) := Lib.hid (by rw [TS.out]; exact hown1)
      have T2 := Lib.hid ((Q3.out.alloc hz' (.cells #[.int .i64 m] 2 (0, 0))).grown hgrow (by simp; omega) (fun kk hk' => (Q2.out.lt kk hk').1))
      have g2 : w3.cell? ⟨b, off + k, none⟩ = some (.int .u8 z) := (T2.out.cell (p := ⟨b, off + k, none⟩) hbz).trans G.out
      clear hown1 hgrow hat hlt1
      go_wp2_with fail
      go_roundg (K - (k + 1))
      case measure => rw [HR.out]; omega
      case rel => exact ⟨k + 1, S + m, by omega, rfl, by first | rfl | simp, rfl, by omega, by omega, Lib.hid ⟨SS.out, T1.out, T2.out⟩⟩
    · obtain rfl : k = K := by omega
      obtain ⟨n, hn⟩ : ∃ n, n = (asked zs).length := ⟨_, rfl⟩
      obtain ⟨h1, h2, h3, h4, h5⟩ := asked_ok zs
      obtain ⟨A, hA⟩ : ∃ A : Nat, (asked zs).sum = A := ⟨(asked zs).sum.toNat, by omega⟩
      have HQ1 : Hid (S = (small zs).sum) := Lib.hid (by rw [← sumTo_all, hKl.out]; exact hq.out.1)
      have HQ2 : Hid (wr.ownsRow W.heap.size 2 1 u3 k (rc (small zs))) := Lib.hid (by
        have := hq.out.2.1
        rwa [List.take_of_length_le (by rw [hKl.out]; omega)] at this)
      have HQ3 := Lib.hid hq.out.2.2
      have HA := Lib.hid hA
      have HN := Lib.hid hn
      rw [hA] at h2 h3
      rw [← hn] at h1
      have H4 := Lib.hid h4
      have H5 := Lib.hid h5
      clear hq h4 h5 hA hn
      go_upto_region 6 with fail
      go_cut [21] (fun t wx => t = .bool false ∧ wr = wx)
      case first =>
        by_cases e : k < zs.length
        · have e1 : (k : Int) < (zs.length : Int) := by omega
          have e2 : ¬ (k : Int) < 10 := by omega
          have e3 : decide ((k : Int) < 10) = false := decide_eq_false e2
          go_wp2_with fail
          go_meet
          exact ⟨rfl, rfl⟩
        · have e1 : ¬ (k : Int) < (zs.length : Int) := by omega
          go_wp2_with fail
          go_meet
          exact ⟨rfl, rfl⟩
      case rest =>
      obtain ⟨rfl, rfl⟩ := hcut
      go_upto_if 42 with fail
      go_cut [3, 4] (fun vl va wx => va = .int .i64 A ∧ Hid (wx.ownsRow W.heap.size 2 1 vl n (rc (asked zs)) ∧ Below W.heap.size W wx))
      case first =>
        by_cases h0 : S = 0
        · have hz' : W.heap.size ≤ wr.heap.size := HQ3.out.size
          have hkm : k + 1 ≤ maxLen := by unfold maxLen; omega
          have hkb : (k + 1) * 8 ≤ 140737488355328 := by omega
          subst h0
          have HAS : Hid (asked zs = small zs ++ [3]) := Lib.hid (by unfold asked; rw [if_pos HQ1.out.symm])
          have hA3 : A = 3 := by
            have := HA.out
            rw [HAS.out, List.sum_append, ← HQ1.out] at this
            simp at this
            omega
          have hnk : n = k + 1 := by rw [HN.out, HAS.out]; simp [hKl.out]
          subst hA3 hnk
          have b0 : ((0 : Int) == 0) = true := by decide
          go_wp2_with (refine wpList_append_lies _ (by rfl) (.tmp 43) (.tmp 44) 24 (by rfl) W.heap.size 2 iw _ 1 8 Tryd.underlying24 hi hz0 hz1 hz2 rfl (by omega) u3 k (rc (small zs)) (by rfl) (HQ2.out.alloc _) ⟨wr.heap.size, 0, none⟩ 1 1 [.int .i64 3] (by rfl) (by rfl) (World.news_of_block (cs := #[.int .i64 3]) (t := 2) (fr := (0, 0)) (heap_alloc_new wr _)) (by simp [Value.oneCell']) (by omega) hkm hkb (by simp; omega) (wr.heap.size + 1) (by simp) ?_)
          intro gg cap1 w3 hown1 hgrow hat hlt1
          have T1 : Hid (w3.ownsRow W.heap.size 2 1 (.slice (some ⟨gg, 0, none⟩) (k + 1) cap1) (k + 1) (rc (asked zs))) := Lib.hid (by rw [HAS.out]; simpa [rc] using hown1)
          have T2 := Lib.hid ((HQ3.out.alloc hz' (.cells #[.int .i64 3] 2 (0, 0))).grown hgrow (by simp; omega) (fun kk hk' => (HQ2.out.lt kk hk').1))
          clear hown1 hgrow hat hlt1
          go_wp2_with fail
          go_meet
          exact ⟨rfl, Lib.hid ⟨T1.out, T2.out⟩⟩
        · have HAS : Hid (asked zs = small zs) := Lib.hid (by unfold asked; rw [if_neg (by rw [← HQ1.out]; exact h0)])
          have hSA : S = (A : Int) := by rw [HQ1.out, ← HAS.out, HA.out]
          have hnk : n = k := by rw [HN.out, HAS.out, hKl.out]
          subst hSA hnk
          have b0 : ((A : Int) == 0) = false := beq_eq_false_iff_ne.2 (by omega)
          go_wp2_with fail
          go_meet
          exact ⟨rfl, Lib.hid ⟨by rw [HAS.out]; exact HQ2.out, HQ3.out⟩⟩
      case rest =>
        clear HQ1 HQ2 HQ3
        obtain ⟨rfl, hq⟩ := hcut
        have hpos : 0 < n := by rw [HN.out]; exact some_one (by rw [HA.out]; omega)
        have HL : Hid (∀ i, i < (asked zs).length → 0 ≤ nth (asked zs) i) := Lib.hid (fun i hi => (H4.out i hi).1)
        have HS : Hid (0 < (asked zs).sum) := Lib.hid (by rw [HA.out]; omega)
        have HN' : Hid ((asked zs).length = n) := Lib.hid HN.out.symm
        generalize asked zs = L at *
        obtain ⟨gl, cl, hvl, hgl, hgl2⟩ := hq.out.1.form hpos
        subst hvl
        have Q1 := Lib.hid hq.out.1
        have Q2 := Lib.hid hq.out.2
        clear hq
        have o0 : Hid ((wc.alloc (.cells #[] 2)).ownsRow W.heap.size 2 1 (.slice (some ⟨wc.heap.size, 0, none⟩) 0 0) 0 (rc [])) := Lib.hid (own_mono (World.ownsRow_lit (w := wc) #[] 0 (Nat.le_refl _) (by simp) rfl) Q2.out.size)
        have hsrc : Hid (∀ j u, (rc L)[j]? = some u → (wc.alloc (.cells #[] 2)).cell? ((⟨gl, 0, none⟩ : Addr).add j) = some u) := Lib.hid (fun j u hj => by
          rw [addr_add]
          have hjl : j < n := by
            have := (List.getElem?_eq_some_iff.1 hj).1
            rw [rc_len, HN'.out] at this
            exact this
          simp only [Nat.zero_add]
          rw [(Q1.out.alloc (.cells #[] 2)).cellAt j (by omega)]
          exact hj)
        have hkm : 0 + n ≤ maxLen := by unfold maxLen; omega
        have hkb : (0 + n) * 8 ≤ 140737488355328 := by omega
        have hz' : W.heap.size ≤ wc.heap.size := Q2.out.size
        go_wp2_with (refine wpList_append_lies _ (by rfl) (.tmp 47) (.tmp 48) 24 (by rfl) W.heap.size 2 iw _ 1 8 Tryd.underlying24 hi hz0 hz1 hz2 rfl (by omega) (.slice (some ⟨wc.heap.size, 0, none⟩) 0 0) 0 (rc []) (by rfl) o0.out ⟨gl, 0, none⟩ n cl (rc L) (by rfl) (by rw [rc_len, HN'.out, Nat.mul_one]) hsrc.out (rc_one L) hpos hkm hkb (by simp; omega) (wc.heap.size + 1) (by simp) ?_)
        intro gg cap1 w3 hown1 hgrow hat hlt1
        have hown1 : w3.ownsRow W.heap.size 2 1 (.slice (some ⟨gg, 0, none⟩) (0 + n) cap1) (0 + n) (rc L) := by simpa [rc] using hown1
        have T1 : Hid (Ints .i64 w3 (.slice (some ⟨gg, 0, none⟩) (0 + n) cap1) L) := Lib.hid (by
          have := Ints.mk (k := .i64) (w := w3) (b := gg) (off := 0) (cap := cap1) (zs := L) (n := 0 + n) (by rw [HN'.out]; omega) hkm (fun i hi => by
            have h := rc_at (zs := L) hown1 (by rw [HN'.out]; omega) i (by rw [HN'.out] at hi; omega)
            simpa using h)
          exact this)
        have T2 := Lib.hid ((Q2.out.alloc hz' (.cells #[] 2 (0, 0))).grown hgrow (by simp; omega) (fun kk hk' => by
          have := (o0.out.lt kk hk').1
          exact this))
        have T3 := Lib.hid ((Q1.out.alloc (.cells #[] 2 (0, 0))).kept hgrow (.inr (by simp [Value.ownBlock]; omega)))
        clear hown1 hgrow hat hlt1 Q1 Q2 o0 hsrc
        have hcall := turns_any (.slice (some ⟨gg, 0, none⟩) (0 + n) cap1) L A w3 T1.out (by rw [HN'.out]; omega) H5.out (by omega)
        simp only [Nat.zero_add] at hcall ⊢
        have hA0 : 0 < A := by omega
        go_wp2_with fail
        refine hcall.mono ?_
        rintro e w4 ⟨u, rfl, hu, hb⟩
        obtain ⟨gt, ct, rfl, hgt1, hgt2⟩ := hu.form hA0
        have B4 := Lib.hid (T2.out.trans (hb.mono T2.out.size))
        have T4 := Lib.hid (own_below T3.out hb)
        have UT := Lib.hid hu
        clear hcall hb hu T1 T2 T3
        go_wp2_with (refine wpList_make_full _ (by rfl) (.tmp 63) (.tmp 63) 43 (by rfl) w4.heap.size 3 iv _ 1 Tryd.underlying43 hj hy0 hy1 .i64 .i64 _ _ n (by rfl) (by rfl) (by rfl) (by rfl) (by rw [hy2]; omega) (by unfold maxLen; omega) (Nat.le_refl _) ?_)
        intro w5 hown hgrow
        rw [made_zero] at hown
        obtain ⟨gh, hgh⟩ : ∃ gh, gh = w4.heap.size := ⟨_, rfl⟩
        rw [← hgh] at hown ⊢
        have O5 : Hid (w5.ownsRow gh 3 1 (.slice (some ⟨gh, 0, none⟩) n n) n (rc (hads L 0))) := Lib.hid (by rw [hads, HN'.out]; exact hown)
        have B5 : Hid (Below gh w4 w5) := Lib.hid (by rw [hgh]; exact (Below.refl w4.heap.size w4).grown hgrow (Nat.le_refl _) (fun k hk => by cases hk))
        have hglh : gl < gh := by have := (T4.out.lt gl rfl).2; omega
        have hgth : gt < gh := by omega
        have CT := Lib.hid (fun k hk => rc_at UT.out (turnsV_len L A) k hk)
        have CL := Lib.hid (fun i hi => rc_at T4.out HN'.out i hi)
        have BW : Hid (Below W.heap.size W w4 ∧ W.heap.size ≤ gh) := Lib.hid ⟨B4.out, by rw [hgh]; exact B4.out.size⟩
        clear hown hgrow B4 T4 UT hgh
        go_wp2_with fail
        obtain ⟨wv, hwv⟩ : ∃ wv, wv = w5 := ⟨_, rfl⟩
        subst hwv
        go_loopg [9] A (fun r vk wr => ∃ k : Nat, k ≤ A ∧ r = A - k ∧ vk = .int .i64 k ∧ Hid (wr.ownsRow gh 3 1 (.slice (some ⟨gh, 0, none⟩) n n) n (rc (hads L k)) ∧ Below gh w4 wr))
        case atStart => exact ⟨0, by omega, by omega, rfl, Lib.hid ⟨O5.out, B5.out⟩⟩
        case round =>
          clear O5 B5
          obtain ⟨k, hk, hr, rfl, hq⟩ := hrel
          have HR := Lib.hid hr
          have P1 := Lib.hid hq.out.1
          have P2 := Lib.hid hq.out.2
          clear hr hq
          by_cases hlt : k < A
          · have hT : turn L k < n := by rw [← HN'.out]; exact turn_lt HS.out k
            have c1 : wr.cell? ⟨gt, k, none⟩ = some (.int .i64 (turn L k : Nat)) := by
              rw [P2.out.cell (p := ⟨gt, k, none⟩) hgth, CT.out k hlt, turnsV_at L A k hlt]
            have hH := had_pos HS.out k (turn L k) (turn_lt HS.out k)
            have c2 : wr.cell? ⟨gh, turn L k, none⟩ = some (.int .i64 (nth (hads L k) (turn L k))) := rc_at P1.out (by rw [hads_len, HN'.out]) _ hT
            have f2 : wr.frozen? ⟨gh, turn L k, none⟩ = false := P1.out.frozenAt _
            have S2 : Hid ((wr.setCell ⟨gh, turn L k, none⟩ (.int .i64 (nth (hads L k) (turn L k) + 1))).ownsRow gh 3 1 (.slice (some ⟨gh, 0, none⟩) n n) n (rc (hads L (k + 1)))) := Lib.hid (by
              have := (P1.out.stored (turn L k) (.int .i64 (nth (hads L k) (turn L k) + 1))).1
              rw [rc_set, ← hads_succ] at this
              exact this)
            have S3 := Lib.hid (P2.out.setCell (p := ⟨gh, turn L k, none⟩) (Nat.le_refl _) (.int .i64 (nth (hads L k) (turn L k) + 1)))
            clear P1 P2
            generalize nth (hads L k) (turn L k) = X at *
            generalize turn L k = T at *
            have t1 : decide (n ≤ T) = false := decide_eq_false (by omega)
            have t2 : decide ((T : Int) < 0) = false := decide_eq_false (by omega)
            have t3 : decide ((T : Int) ≥ (n : Int)) = false := decide_eq_false (by omega)
            go_wp2_with fail
            generalize wr.setCell ⟨gh, T, none⟩ (.int .i64 (X + 1)) = w6 at *
            go_loopg [10] n (fun r vi wr => ∃ (i dd : Nat), i ≤ n ∧ r = n - i ∧ vi = .int .i64 i ∧ wr = w6.drewN dd)
            case atStart => exact ⟨0, 0, by omega, by omega, rfl, rfl⟩
            case round =>
              obtain ⟨i, dd, hi', hr, rfl, rfl⟩ := hrel
              have HR2 := Lib.hid hr
              clear hr
              by_cases hlt2 : i < n
              · have hln : i < L.length := by rw [HN'.out]; exact hlt2
                have d1 : w6.cell? ⟨gh, i, none⟩ = some (.int .i64 (nth (hads L (k + 1)) i)) := rc_at S2.out (by rw [hads_len, HN'.out]) i hlt2
                have d2 : w6.cell? ⟨gl, i, none⟩ = some (.int .i64 (nth L i)) := by
                  rw [S3.out.cell (p := ⟨gl, i, none⟩) hglh, CL.out i hlt2]
                have hpart := had_part HS.out HL.out (k + 1) i hln
                have hbds := had_pos HS.out (k + 1) i hln
                have hlb := H4.out i hln
                rw [HA.out] at hpart
                generalize nth (hads L (k + 1)) i = Hi at *
                generalize nth L i = Li at *
                obtain ⟨p1, hp1⟩ : ∃ p1, (Hi - 1) * (A : Int) = p1 := ⟨_, rfl⟩
                obtain ⟨p2, hp2⟩ : ∃ p2, ((k : Int) + 1) * Li = p2 := ⟨_, rfl⟩
                have q0 : 0 ≤ Hi ∧ Hi ≤ 391 := by omega
                have q1 : -390 ≤ p1 ∧ p1 ≤ 160000 := by
                  rw [← hp1]
                  have g1 : (Hi - 1) * (A : Int) ≤ 390 * (A : Int) := Int.mul_le_mul_of_nonneg_right (by omega) (by omega)
                  have g2 : (-1) * (A : Int) ≤ (Hi - 1) * (A : Int) := Int.mul_le_mul_of_nonneg_right (by omega) (by omega)
                  omega
                have q2 : 0 ≤ p2 ∧ p2 ≤ 160000 := by
                  rw [← hp2]
                  have g1 : ((k : Int) + 1) * Li ≤ ((k : Int) + 1) * 40 := Int.mul_le_mul_of_nonneg_left (by omega) (by omega)
                  have g2 : 0 ≤ ((k : Int) + 1) * Li := Int.mul_nonneg (by omega) (by omega)
                  omega
                have q3 : p1 < p2 := by
                  rw [← hp1, ← hp2]
                  have : ((k + 1 : Nat) : Int) * Li = ((k : Int) + 1) * Li := by rw [Int.natCast_add]; rfl
                  omega
                have q4 : decide (p1 ≥ p2) = false := decide_eq_false (by omega)
                have q5 : ¬ p1 ≥ p2 := by omega
                have ww1 : IntKind.i64.wrap (Hi - 1) = Hi - 1 := by rw [IntKind.wrap_i64]; omega
                have ww2 : IntKind.i64.wrap p1 = p1 := by rw [IntKind.wrap_i64]; omega
                have ww3 : IntKind.i64.wrap p2 = p2 := by rw [IntKind.wrap_i64]; omega
                have ww4 : IntKind.i64.wrap ((k : Int) + 1) = (k : Int) + 1 := by rw [IntKind.wrap_i64]; omega
                have ww5 : IntKind.i64.wrap Li = Li := by rw [IntKind.wrap_i64]; omega
                have ww6 : IntKind.i64.wrap (i : Int) = (i : Int) := by rw [IntKind.wrap_i64]; omega
                clear hpart
                go_wp2_with fail
                go_quiet (fail)
                go_wp2_with fail
                go_roundg (n - (i + 1))
                case measure => rw [HR2.out]; omega
                case rel => exact ⟨i + 1, dd + nq, by omega, rfl, by first | rfl | simp, by first | rfl | exact World.drewN_drewN _ _ _⟩
              · obtain rfl : i = n := by omega
                go_wp2_with fail
                go_roundg (A - (k + 1))
                case measure => rw [HR.out]; omega
                case rel => exact ⟨k + 1, by omega, rfl, by first | rfl | simp, Lib.hid ⟨own_below S2.out (below_drewN (Below.refl _ _) _), below_drewN S3.out _⟩⟩
          · obtain rfl : k = A := by omega
            have EQ := Lib.hid (fun i hi => had_all HS.out HL.out k HA.out.symm i hi)
            go_wp2_with fail
            obtain ⟨wv, hwv⟩ : ∃ wv, wv = wr := ⟨_, rfl⟩
            subst hwv
            go_loopg [11] n (fun r vi wr => ∃ (i dd : Nat), i ≤ n ∧ r = n - i ∧ vi = .int .i64 i ∧ wr = wv.drewN dd)
            case atStart => exact ⟨0, 0, by omega, by omega, rfl, rfl⟩
            case round =>
              obtain ⟨i, dd, hi', hr, rfl, rfl⟩ := hrel
              have HR2 := Lib.hid hr
              clear hr
              by_cases hlt2 : i < n
              · have hln : i < L.length := by rw [HN'.out]; exact hlt2
                have d1 : wv.cell? ⟨gh, i, none⟩ = some (.int .i64 (nth (hads L k) i)) := rc_at P1.out (by rw [hads_len, HN'.out]) i hlt2
                rw [EQ.out i hln] at d1
                have d2 : wv.cell? ⟨gl, i, none⟩ = some (.int .i64 (nth L i)) := by
                  rw [P2.out.cell (p := ⟨gl, i, none⟩) hglh, CL.out i hlt2]
                have hlb := H4.out i hln
                generalize nth L i = Li at *
                have ww5 : IntKind.i64.wrap Li = Li := by rw [IntKind.wrap_i64]; omega
                have ww6 : IntKind.i64.wrap (i : Int) = (i : Int) := by rw [IntKind.wrap_i64]; omega
                go_wp2_with fail
                go_quiet (fail)
                go_wp2_with fail
                go_roundg (n - (i + 1))
                case measure => rw [HR2.out]; omega
                case rel => exact ⟨i + 1, dd + nq, by omega, rfl, by first | rfl | simp, by first | rfl | exact World.drewN_drewN _ _ _⟩
              · obtain rfl : i = n := by omega
                go_wp2_with fail
                go_ret
                exact ⟨rfl, below_drewN (BW.out.1.trans (P2.out.mono BW.out.2)) _⟩
end Go.Proofs.YtdhlmflbefnekaaDoor
