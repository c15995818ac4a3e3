/- The walk of SupplyFits. -/
import Derived.Test.YtnomamimpnogpaaDoorFitC
import Derived.Test.YtnomamimpnogpaaDoorSupplyA
import Derived.Deep.DeepCutAuto
import Derived.Deep.CutBlock
import Derived.Laws.StructEq
namespace Go.Proofs.YtnomamimpnogpaaDoor
open Go.RowKit Go.ChangeShapes
theorem Vars.mk {W : World} (h : Lib.TabIs Tryd.prog W "reveille/supply.table" .i64 supplyL) : supplyAt W := supply_mk h
/-- What is kept: the windows' row, what they have in common (block b). -/
def FitAt (W w : World) (m : Value) (n : Nat) (F : List (Int × Int)) (b : Nat) (lo hi : Int) : Prop :=
  w.ownsRow W.heap.size 26 2 m n (pcells F) ∧ Below W.heap.size W w ∧ w.heap[b]? = some (.cells #[.int .i64 lo, .int .i64 hi] 26 (0, 0))
theorem FitAt.grown {W w w' : World} {m : Value} {n : Nat} {F : List (Int × Int)} {b : Nat} {lo hi : Int} (h : FitAt W w m n F b lo hi) (hb : Below w.heap.size w w') : FitAt W w' m n F b lo hi :=
  ⟨own_below h.1 hb, h.2.1.trans (hb.mono h.2.1.size), (hb.block b (Array.getElem?_eq_some_iff.1 h.2.2).1).trans h.2.2⟩
theorem FitAt.c0 {W w : World} {m : Value} {n : Nat} {F : List (Int × Int)} {b : Nat} {lo hi : Int} (h : FitAt W w m n F b lo hi) : w.cell? ⟨b, 0, none⟩ = some (.int .i64 lo) := cell_of_row _ _ 0 _ _ _ h.2.2
theorem FitAt.c1 {W w : World} {m : Value} {n : Nat} {F : List (Int × Int)} {b : Nat} {lo hi : Int} (h : FitAt W w m n F b lo hi) : w.cell? ⟨b, 1, none⟩ = some (.int .i64 hi) := cell_of_row _ _ 1 _ _ _ h.2.2
theorem pairs_pre {w : World} {a : Option Addr} {n cap k : Nat} {zs : List (Int × Int)} (h : Pairs w (.slice a n cap) zs) (hk : k ≤ zs.length) : Pairs w (.slice a k cap) (zs.take k) := by
  obtain ⟨a', cap', he, hm, hn, hc⟩ := h
  simp only [Value.slice.injEq] at he
  obtain ⟨rfl, rfl, rfl⟩ := he
  have hl : (zs.take k).length = k := by simp; omega
  refine ⟨a, cap, by rw [hl], by omega, fun ha => ?_, fun i hi => ?_⟩
  · obtain ⟨h1, h2⟩ := hn ha
    subst h1
    exact ⟨by simp, h2⟩
  · obtain ⟨b, off, h1, h2, h3⟩ := hc i (by omega)
    have e : (zs.take k)[i]? = zs[i]? := by rw [List.getElem?_take, if_pos (by omega)]
    exact ⟨b, off, h1, by rw [show p1 (zs.take k) i = p1 zs i by simp [p1, List.getD, e]]; exact h2, by rw [show p2 (zs.take k) i = p2 zs i by simp [p2, List.getD, e]]; exact h3⟩
theorem pairs_drop {w : World} {b off n cap k cap' : Nat} {zs : List (Int × Int)} (h : Pairs w (.slice (some ⟨b, off, none⟩) n cap) zs) : Pairs w (.slice (some ⟨b, off + k * 2, none⟩) (n - k) cap') (zs.drop k) := by
  obtain ⟨a', cap', he, hm, hn, hc⟩ := h
  simp only [Value.slice.injEq] at he
  obtain ⟨rfl, rfl, rfl⟩ := he
  have hl : (zs.drop k).length = zs.length - k := by simp
  refine ⟨some ⟨b, off + k * 2, none⟩, _, by rw [hl], by omega, (fun h => by cases h), fun i hi => ?_⟩
  obtain ⟨b', off', h1, h2, h3⟩ := hc (k + i) (by omega)
  simp only [Option.some.injEq, Addr.mk.injEq, and_true] at h1
  obtain ⟨rfl, rfl⟩ := h1
  have e : (zs.drop k)[i]? = zs[k + i]? := by rw [List.getElem?_drop]
  exact ⟨b, off + k * 2, rfl, by rw [show p1 (zs.drop k) i = p1 zs (k + i) by simp [p1, List.getD, e], show off + k * 2 + i * 2 = off + (k + i) * 2 by omega]; exact h2, by rw [show p2 (zs.drop k) i = p2 zs (k + i) by simp [p2, List.getD, e], show off + k * 2 + i * 2 + 1 = off + (k + i) * 2 + 1 by omega]; exact h3⟩
theorem tmod_up (n m : Int) (h : 0 < m) : ∃ N : Nat, (N : Int) < m ∧ (n.tmod m + m).tmod m = (N : Int) := by
  have hb := tmod_bd n m h
  rw [Int.tmod_eq_emod_of_nonneg (show 0 ≤ n.tmod m + m by omega)]
  have h1 := Int.emod_nonneg (n.tmod m + m) (show m ≠ 0 by omega)
  have h2 := Int.emod_lt_of_pos (n.tmod m + m) h
  exact ⟨((n.tmod m + m) % m).toNat, by omega, by omega⟩
theorem own_cap' {w : World} {B : Nat} {e : TypeId} {s n c : Nat} {a : Option Addr} {xs : List Value} (h : w.ownsRow B e s (.slice a n c) n xs) : n ≤ c := by
  rcases h.2 with ⟨h', h0⟩ | ⟨g', cap', cur, h', _, _, hnc, _⟩
  · omega
  · simp only [Value.slice.injEq] at h'
    obtain ⟨_, _, rfl⟩ := h'
    exact hnc
theorem pairs_two {w : World} (b : Nat) (t : TypeId) (p q r s : Int) (h : w.heap[b]? = some (.cells #[.int .i64 p, .int .i64 q, .int .i64 r, .int .i64 s] t (0, 0))) : Pairs w (.slice (some ⟨b, 0, none⟩) 2 2) [(p, q), (r, s)] := by
  refine ⟨some ⟨b, 0, none⟩, 2, rfl, by unfold maxLen; simp, (fun h => by cases h), fun i hi => ⟨b, 0, rfl, ?_⟩⟩
  have e : ∀ k, w.cell? ⟨b, k, none⟩ = _ := fun k => cell_of_row w b k _ _ _ h
  match i, hi with
  | 0, _ => exact ⟨e 0, e 1⟩
  | 1, _ => exact ⟨e 2, e 3⟩
theorem eqIn (d : Nat) (a b : Int) (w : World) : (Op.equalIn (d + 2) 26 (.agg #[.int .i64 a, .int .i64 b]) (.agg #[.int .i64 a, .int .i64 b])).run Tryd.prog w = .ok true w := by
  rw [run_equalIn_agg w (d + 1) 26 _ _ (by kernel_rfl) (by kernel_rfl)]
  have p0 : ∀ w, (part 2 #[.int .i64 a, .int .i64 b] 0).run Tryd.prog w = .ok (.int .i64 a) w := fun w => by kernel_rfl
  have p1 : ∀ w, (part 2 #[.int .i64 a, .int .i64 b] 1).run Tryd.prog w = .ok (.int .i64 b) w := fun w => by kernel_rfl
  have e : ∀ (z : Int) w, (Op.equalIn (d + 1) 2 (.int .i64 z) (.int .i64 z)).run Tryd.prog w = .ok true w := fun z w => by
    rw [run_equalIn_int w d 2 .i64 .i64 z z Tryd.underlying2]; simp
  simp [Program.fieldsOf, Tryd.underlying26, Op.eqFields, p0, p1, e, Sem.run_bind]
theorem win_neq (a b : Int) (w : World) : (binOp .neq 26 (.agg #[.int .i64 a, .int .i64 b]) (.agg #[.int .i64 a, .int .i64 b])).run Tryd.prog w = .ok (.bool false) w := by
  rw [run_neq_struct]
  have := eqIn 9998 a b w
  rw [show (9998 + 2 : Nat) = 10000 from rfl] at this
  rw [this]
  rfl
theorem first_cases (lo hi : Int) (h : mayB (lo, hi) = true) : (∃ k : Nat, k < 24 ∧ firstV lo hi = ((k : Int), 0) ∧ inW lo hi k = true ∧ ∀ j, j < k → inW lo hi j = false) ∨ (firstV lo hi = (0, 6) ∧ ∀ j, j < 24 → inW lo hi j = false) := by
  by_cases hx : ∃ k, k < 24 ∧ inW lo hi k = true ∧ ∀ j, j < k → inW lo hi j = false
  · obtain ⟨k, h1, h2, h3⟩ := hx
    exact .inl ⟨k, h1, firstV_at lo hi k h h1 h2 h3, h2, h3⟩
  · have hn : ∀ j, j < 24 → inW lo hi j = false := by
      intro j
      induction j using Nat.strongRecOn with
      | _ j ih =>
        intro hj
        cases hc : inW lo hi j with
        | false => rfl
        | true => exact absurd ⟨j, hj, hc, fun i hi => ih i hi (by omega)⟩ hx
    exact .inr ⟨firstV_none lo hi h hn, hn⟩
set_option maxHeartbeats 8000000 in
set_option maxRecDepth 100000 in
theorem supplyFits_walk {H : Type} {enc : TypeId × Value → H} (v : Value) (d : DataW H) (pl : List MemPlace) (cut x : Int) (W : World)
    (h : DataW.Trod enc Tryd.prog W 0 (fun _ => true) true 22 v d pl) {base : Nat} (hok : Value.okWide Tryd.prog W .any base 22 v) (hw : ∀ n ∈ DataW.weights Tryd.prog 22 d, n ≤ reachBytes)
    (wc : (Lit.int .i64 cut).wf = true) (wx : (Lit.int .i64 x).wf = true) (_ : W.ShapedOpen Tryd.prog) (hT : supplyAt W) :
    Calls Tryd.prog 4 #[v, .int .i64 cut, .int .i64 x] W fun e w' => e = .returned (.bool true) ∧ Below W.heap.size W w' := by
  obtain ⟨ps, hP, hlen, hwf⟩ := pairs_arg Tryd.underlying22 Tryd.underlying24 Tryd.underlying2 (by kernel_rfl) (by kernel_rfl) (by kernel_rfl) hok h hw
  have hlen : ps.length ≤ 8796093022000 := by have : reachBytes = 140737488351232 := by decide
                                              omega
  have HP := Lib.hid hP
  have HT := Lib.hid hT
  have HF := Lib.hid (fitL_may ps)
  have HLF := Lib.hid (fitL_len ps)
  obtain ⟨x0, x1⟩ := bounds_i64 wx
  clear h hok hw hwf hP hT wc wx
  go_enter Tryd.func4, Tryd.ntmps4
  go_wp2_with fail
  refine (fit_any v ps W HP.out hlen).mono ?_
  rintro e w1 ⟨m, rfl, hown, hb⟩
  have L1 := Lib.hid hown
  have B1 := Lib.hid hb
  clear hown hb
  generalize fitL ps = F at *
  go_wp2_with fail
  refine (meet_any m F w1 (pairs_of_own L1.out HLF.out (by unfold maxLen; omega))).mono ?_
  rintro e w2 ⟨rfl, hb⟩
  have K1 : Hid (FitAt W (w2.alloc (.cells #[.int .i64 (meetV F).1, .int .i64 (meetV F).2.1] 26)) m ps.length F w2.heap.size (meetV F).1 (meetV F).2.1) := by
    have h1 := own_below L1.out hb
    have h2 := B1.out.trans (hb.mono B1.out.size)
    exact Lib.hid ⟨h1.alloc _, h2.alloc h2.size _, heap_alloc_new _ _⟩
  have HE := Lib.hid (meetV_err F HF.out)
  have HIN := Lib.hid (inB_meet x F HF.out)
  have HS1 : Hid (W.heap.size ≤ w2.heap.size) := Lib.hid (by have := B1.out.size; have := hb.size; omega)
  have HMI : Hid ((meetV F).2.2 = 0 → ∀ k, k < F.length → p1 F k ≤ (meetV F).1 ∧ (meetV F).2.1 ≤ p2 F k) := Lib.hid (fun h0 k hk => by
    by_cases hl : (meetTo F).1 ≤ (meetTo F).2
    · rw [meetV_ok F HF.out hl]; exact meetTo_in F k hk
    · rw [meetV_none F HF.out hl] at h0; cases h0)
  have HB2 : Hid (∀ n, (meetV (F.drop n)).2.2 = 0 → (meetV (F.take n)).2.2 = 0 → meetV [((meetV (F.drop n)).1, (meetV (F.drop n)).2.1), ((meetV (F.take n)).1, (meetV (F.take n)).2.1)] = meetV F) := Lib.hid (fun n h1 h2 => meet_both F n HF.out h1 h2)
  have HSB : Hid (∀ n, (meetV F).2.2 = 0 → (meetV (F.drop n)).2.2 = 0 ∧ (meetV (F.take n)).2.2 = 0) := Lib.hid (fun n h0 => meet_sub F n HF.out h0)
  have HE1 : Hid (∀ n, ((meetV (F.drop n)).2.2 = 0 ∨ (meetV (F.drop n)).2.2 = 6) ∧ ((meetV (F.take n)).2.2 = 0 ∨ (meetV (F.take n)).2.2 = 6)) := Lib.hid (fun n => ⟨meetV_err _ (all_drop _ _ _ HF.out), meetV_err _ (all_take _ _ _ HF.out)⟩)
  have HMAY : Hid ((meetV F).2.2 = 0 → mayB ((meetV F).1, (meetV F).2.1) = true) := Lib.hid (fun h0 => by
    by_cases hl : (meetTo F).1 ≤ (meetTo F).2
    · have hb := meetTo_bd F
      rw [meetV_ok F HF.out hl]; exact (mayB_iff _).2 ⟨hb.1, hl, hb.2⟩
    · rw [meetV_none F HF.out hl] at h0; cases h0)
  clear hb
  generalize hM : meetV F = M at *
  obtain ⟨lo, hi, E⟩ := M
  simp only at K1 HE HIN HMI HSB HMAY
  have HMM := Lib.hid hM
  clear hM
  go_upto_region 3 with fail
  generalize w2.heap.size = b8 at *
  generalize w2.alloc (.cells #[.int .i64 lo, .int .i64 hi] 26) = w3 at *
  go_cut [10] (fun b wx => b = .bool (inB x (F.take 0)) ∧ w3 = wx)
  case first => as_aux_lemma => --ok
    have e0 : inB x (F.take 0) = (decide (0 ≤ x) && decide (x ≤ 1099511627776)) := by simp [inB]
    have E0 := Lib.hid e0
    clear e0
    by_cases h1 : 0 ≤ x
    · have e1 : Hid (inB x (F.take 0) = decide (x ≤ 1099511627776)) := Lib.hid (by rw [E0.out]; simp [h1])
      go_wp2_with fail
      go_meet
      exact ⟨by rw [e1.out], rfl⟩
    · have e1 : Hid (inB x (F.take 0) = false) := Lib.hid (by rw [E0.out]; simp [h1])
      go_wp2_with fail
      go_meet
      exact ⟨by rw [e1.out], rfl⟩
  case rest =>
    obtain ⟨rfl, rfl⟩ := hcut
    go_wp2_with fail
    go_loopw [10, 11] (fun b i wr => ∃ k dd : Nat, k ≤ ps.length ∧ i = .int .i64 k ∧ b = .bool (inB x (F.take k)) ∧ wr = w3.drewN dd) (fun _ i _ => ps.length - (intOf i).toNat)
    case atStart => exact ⟨0, 0, by omega, rfl, rfl, rfl⟩
    case round => as_aux_lemma =>
      obtain ⟨k, dd, hk, rfl, rfl, rfl⟩ := hrel
      by_cases hlt : k < ps.length
      · as_aux_lemma => --ok
        obtain ⟨g, cg, rfl, _, _⟩ := K1.out.1.form (by omega)
        obtain ⟨c1, c2⟩ := own_pair K1.out.1 HLF.out k hlt
        have c3 := K1.out.c0
        have c4 := K1.out.c1
        have HSC := Lib.hid (inB_succ x F k (by have := HLF.out; omega))
        generalize hbk : inB x (F.take k) = bk at *
        generalize hbk' : inB x (F.take (k + 1)) = bk' at *
        have HBK0 := Lib.hid hbk'
        clear hbk hbk'
        go_upto_region 7 with fail
        go_cut [10] (fun b wx => b = .bool bk' ∧ w3.drewN dd = wx)
        case first => as_aux_lemma => --ok
          cases bk with
          | false =>
            have e : Hid (bk' = false) := Lib.hid (by rw [HSC.out]; rfl)
            go_wp2_with fail
            go_meet
            exact ⟨by rw [e.out], rfl⟩
          | true =>
            by_cases h1 : p1 F k ≤ x
            · have e : Hid (bk' = decide (x ≤ p2 F k)) := Lib.hid (by rw [HSC.out]; simp [h1])
              go_wp2_with fail
              go_meet
              exact ⟨by rw [e.out], rfl⟩
            · have e : Hid (bk' = false) := Lib.hid (by rw [HSC.out]; simp [h1])
              go_wp2_with fail
              go_meet
              exact ⟨by rw [e.out], rfl⟩
        case rest =>
          obtain ⟨rfl, rfl⟩ := hcut
          have HBK := Lib.hid (show bk' = inB x (F.take (k + 1)) from HBK0.out.symm)
          rcases HE.out with h0 | h6
          · obtain ⟨m1, m2⟩ := HMI.out h0 k (by have := HLF.out; omega)
            have d0 : (E == 0) = true := by simpa using h0
            have d1 : decide (lo < p1 F k) = false := by simp; omega
            have d2 : decide (hi > p2 F k) = false := by simp; omega
            clear h0 m1 m2
            go_wp2_with fail
            go_quiet (fail)
            go_wp2_with fail
            go_roundw
            case rel => exact ⟨k + 1, _, by omega, by go_num, by rw [HBK.out], rfl⟩
            case measure => simp [intOf]; omega
          · have d0 : (E == 0) = false := by rw [h6]; rfl
            clear h6
            go_wp2_with fail
            go_quiet (fail)
            go_wp2_with fail
            go_roundw
            case rel => exact ⟨k + 1, _, by omega, by go_num, by rw [HBK.out], rfl⟩
            case measure => simp [intOf]; omega
      · obtain rfl : k = ps.length := by omega
        rw [List.take_of_length_le (by have := HLF.out; omega)]
        have K2 := Lib.hid (K1.out.grown (below_drewN (Below.refl w3.heap.size w3) dd))
        generalize w3.drewN dd = w4 at *
        have HIN2 : Hid (inB x F = (decide (E = 0) && decide (lo ≤ x) && decide (x ≤ hi))) := HIN
        generalize inB x F = bx at *
        clear K1 HIN
        have c3 := K2.out.c0
        have c4 := K2.out.c1
        obtain ⟨am, cm, rfl⟩ := own_slice K2.out.1
        go_upto_region 10 with fail
        go_cut [99] (fun t wx => t = .bool false ∧ w4 = wx)
        case first => as_aux_lemma => --ok
          rcases HE.out with h0 | h6
          · have d0 : (E == 0) = true := by simpa using h0
            by_cases h1 : lo ≤ x
            · have hb : bx = decide (x ≤ hi) := by rw [HIN2.out]; simp [h0, h1]
              subst hb
              clear h0
              go_wp2_with fail
              go_meet
              exact ⟨by simp, rfl⟩
            · have hb : bx = false := by rw [HIN2.out]; simp [h1]
              subst hb
              clear h0
              go_wp2_with fail
              go_meet
              exact ⟨by simp, rfl⟩
          · have d0 : (E == 0) = false := by rw [h6]; rfl
            have hb : bx = false := by rw [HIN2.out, h6]; rfl
            subst hb
            clear h6
            go_wp2_with fail
            go_meet
            exact ⟨by simp, rfl⟩
        case rest =>
          obtain ⟨rfl, rfl⟩ := hcut
          clear HIN2 c3 c4
          go_upto_if 102 with fail
          go_cut [12] (fun s wx => (∃ n : Nat, n ≤ ps.length ∧ (0 < ps.length → n < ps.length) ∧ s = .int .i64 n) ∧ w4 = wx)
          case first => as_aux_lemma => --ok
            by_cases hl : 0 < ps.length
            · have hd : decide ((ps.length : Int) > 0) = true := by simp; omega
              obtain ⟨N, hN, e1⟩ := tmod_up cut (ps.length : Int) (by omega)
              have b1 := tmod_bd cut (ps.length : Int) (by omega)
              have e2 : (cut.tmod (ps.length : Int) + (ps.length : Int)) % (ps.length : Int) = (N : Int) := by
                rw [← e1, Int.tmod_eq_emod_of_nonneg (a := cut.tmod (ps.length : Int) + (ps.length : Int)) (by omega)]
              have hne : ¬ (ps.length : Int) = 0 := by omega
              clear e1
              go_wp2_with fail
              go_meet
              exact ⟨⟨N, by omega, fun _ => by omega, by rw [e2]⟩, rfl⟩
            · have hd : decide ((ps.length : Int) > 0) = false := decide_eq_false (by omega)
              go_wp2_with fail
              go_meet
              exact ⟨⟨0, by omega, fun h => absurd h hl, rfl⟩, rfl⟩
          case rest =>
            obtain ⟨⟨n, hn1, hn2, rfl⟩, rfl⟩ := hcut
            have HN2 := Lib.hid hn2
            clear hn2
            go_upto_region 15 with fail
            go_cut [13, 14] (fun a f wx => ∃ b, a = .pointer (some ⟨b, 0, none⟩) ∧ f = .int .i64 (meetV (F.drop n)).2.2 ∧ Hid (FitAt W wx (.slice am ps.length cm) ps.length F b8 lo hi ∧ wx.heap[b]? = some (.cells #[.int .i64 (meetV (F.drop n)).1, .int .i64 (meetV (F.drop n)).2.1] 26 (0, 0))))
            case first => as_aux_lemma =>
              by_cases hl : 0 < ps.length
              · as_aux_lemma => --ok
                obtain ⟨g, cg, hg, _, _⟩ := K2.out.1.form hl
                simp only [Value.slice.injEq] at hg
                obtain ⟨rfl, _, rfl⟩ := hg
                have hc : ps.length ≤ cm := own_cap K2.out.1
                have hcn : ¬ cm = n := by have := HN2.out hl; omega
                have HPD := Lib.hid (pairs_drop (k := n) (cap' := cm - n) (pairs_of_own K2.out.1 HLF.out (by unfold maxLen; omega)))
                go_wp2_with fail
                refine (meet_any _ (F.drop n) w4 (by have := HPD.out; simpa using this)).mono ?_
                rintro e w5 ⟨rfl, hb⟩
                have KK : Hid (FitAt W (w5.alloc (.cells #[.int .i64 (meetV (F.drop n)).1, .int .i64 (meetV (F.drop n)).2.1] 26)) (.slice (some ⟨g, 0, none⟩) ps.length cm) ps.length F b8 lo hi) := Lib.hid ((K2.out.grown hb).grown ((Below.refl _ _).alloc (Nat.le_refl _) _))
                clear hb
                go_wp2_with fail
                go_meet
                exact ⟨w5.heap.size, rfl, rfl, Lib.hid ⟨KK.out, heap_alloc_new _ _⟩⟩
              · as_aux_lemma => --ok
                have hps : ps = [] := List.length_eq_zero_iff.1 (by omega)
                subst hps
                obtain rfl : n = 0 := by simpa using hn1
                obtain rfl : F = [] := List.length_eq_zero_iff.1 HLF.out
                have HPD : Hid (Pairs w4 (.slice am 0 cm) []) := Lib.hid (pairs_of_own K2.out.1 rfl (by unfold maxLen; omega))
                go_wp2_with fail
                refine (meet_any _ (([] : List (Int × Int)).drop 0) w4 HPD.out).mono ?_
                rintro e w5 ⟨rfl, hb⟩
                have KK : Hid (FitAt W (w5.alloc (.cells #[.int .i64 (meetV (([] : List (Int × Int)).drop 0)).1, .int .i64 (meetV (([] : List (Int × Int)).drop 0)).2.1] 26)) (.slice am 0 cm) 0 [] b8 lo hi) := Lib.hid ((K2.out.grown hb).grown ((Below.refl _ _).alloc (Nat.le_refl _) _))
                clear hb
                generalize meetV (([] : List (Int × Int)).drop 0) = Y at *
                go_wp2_with fail
                go_meet
                exact ⟨w5.heap.size, rfl, rfl, Lib.hid ⟨KK.out, heap_alloc_new _ _⟩⟩
            case rest =>
              obtain ⟨b1, rfl, rfl, hh⟩ := hcut
              have K3 := Lib.hid hh.out.1
              have H3 := Lib.hid hh.out.2
              clear hh K2
              have hcm : ps.length ≤ cm := own_cap' K3.out.1
              have hncm : n ≤ cm := by omega
              obtain ⟨wv, rfl⟩ : ∃ wv : World, wv = wc := ⟨_, rfl⟩
              go_upto_region 16 with fail
              go_cut [15, 16] (fun a f wy => ∃ b, a = .pointer (some ⟨b, 0, none⟩) ∧ f = .int .i64 (meetV (F.take n)).2.2 ∧ Hid (FitAt W wy (.slice am ps.length cm) ps.length F b8 lo hi ∧ wy.heap[b1]? = some (.cells #[.int .i64 (meetV (F.drop n)).1, .int .i64 (meetV (F.drop n)).2.1] 26 (0, 0)) ∧ wy.heap[b]? = some (.cells #[.int .i64 (meetV (F.take n)).1, .int .i64 (meetV (F.take n)).2.1] 26 (0, 0))))
              case first => as_aux_lemma => --ok
                have HPT := Lib.hid (pairs_pre (k := n) (pairs_of_own K3.out.1 HLF.out (by unfold maxLen; omega)) (by have := HLF.out; omega))
                go_wp2_with fail
                refine (meet_any _ (F.take n) wv HPT.out).mono ?_
                rintro e w5 ⟨rfl, hb⟩
                have hb2 : Below wv.heap.size wv (w5.alloc (.cells #[.int .i64 (meetV (F.take n)).1, .int .i64 (meetV (F.take n)).2.1] 26)) := hb.alloc hb.size _
                have KK := Lib.hid (K3.out.grown hb2)
                have HK : Hid ((w5.alloc (.cells #[.int .i64 (meetV (F.take n)).1, .int .i64 (meetV (F.take n)).2.1] 26)).heap[b1]? = some (.cells #[.int .i64 (meetV (F.drop n)).1, .int .i64 (meetV (F.drop n)).2.1] 26 (0, 0))) := Lib.hid ((hb2.block b1 (Array.getElem?_eq_some_iff.1 H3.out).1).trans H3.out)
                clear hb hb2
                go_wp2_with fail
                go_meet
                exact ⟨w5.heap.size, rfl, rfl, Lib.hid ⟨KK.out, HK.out, heap_alloc_new _ _⟩⟩
              case rest =>
                obtain ⟨b2, rfl, rfl, hh⟩ := hcut
                have K4 := Lib.hid hh.out.1
                have H4 := Lib.hid hh.out.2.1
                have J4 := Lib.hid hh.out.2.2
                clear hh K3 H3 wv
                have HE1' := Lib.hid (HE1.out n)
                have HB2' := Lib.hid (HB2.out n)
                have HSB' := Lib.hid (HSB.out n)
                clear HE1 HB2 HSB
                generalize meetV (F.drop n) = Y at *
                generalize meetV (F.take n) = Z at *
                obtain ⟨lo1, hi1, E1⟩ := Y
                obtain ⟨lo2, hi2, E2⟩ := Z
                simp only at HE1' HB2' HSB' H4 J4 ⊢
                obtain ⟨ww, rfl⟩ : ∃ ww : World, ww = wc := ⟨_, rfl⟩
                go_upto_region 17 with fail
                obtain ⟨Y, hY⟩ : ∃ Y, meetV [(lo1, hi1), (lo2, hi2)] = Y := ⟨_, rfl⟩
                obtain ⟨lo3, hi3, E3⟩ := Y
                have CM : Hid (∀ (v : Value) (w : World), Pairs w v [(lo1, hi1), (lo2, hi2)] → Calls Tryd.prog 13 #[v] w fun e w' => e = .returned (.tuple #[.agg #[.int .i64 lo3, .int .i64 hi3], .int .i64 E3]) ∧ Below w.heap.size w w') := Lib.hid (fun v w h => by
                  have h9 := meet_any v [(lo1, hi1), (lo2, hi2)] w h
                  rw [hY] at h9
                  exact h9)
                have HB3 : Hid (E1 = 0 → E2 = 0 → lo3 = lo ∧ hi3 = hi ∧ E3 = E) := Lib.hid (fun h1 h2 => by
                  have := HB2'.out h1 h2
                  rw [hY] at this
                  simpa using this)
                clear hY HB2'
                go_cut [17, 18] (fun a f wy => ∃ b, a = .pointer (some ⟨b, 0, none⟩) ∧ f = .int .i64 E3 ∧ Hid (FitAt W wy (.slice am ps.length cm) ps.length F b8 lo hi ∧ wy.heap[b]? = some (.cells #[.int .i64 lo3, .int .i64 hi3] 26 (0, 0))))
                case first => as_aux_lemma => --ok
                  have c1 : ww.cell? ⟨b1, 0, none⟩ = some (.int .i64 lo1) := cell_of_row _ _ 0 _ _ _ H4.out
                  have c2 : ww.cell? ⟨b1, 1, none⟩ = some (.int .i64 hi1) := cell_of_row _ _ 1 _ _ _ H4.out
                  have c3 : ww.cell? ⟨b2, 0, none⟩ = some (.int .i64 lo2) := cell_of_row _ _ 0 _ _ _ J4.out
                  have c4 : ww.cell? ⟨b2, 1, none⟩ = some (.int .i64 hi2) := cell_of_row _ _ 1 _ _ _ J4.out
                  go_wp2_with fail
                  refine (CM.out _ _ (pairs_two _ _ _ _ _ _ (heap_alloc_new ww _))).mono ?_
                  rintro e w5 ⟨rfl, hb⟩
                  have hb2 : Below ww.heap.size ww (w5.alloc (.cells #[.int .i64 lo3, .int .i64 hi3] 26)) := by
                    have h1 := ((Below.refl ww.heap.size ww).alloc (Nat.le_refl _) (.cells #[.int .i64 lo1, .int .i64 hi1, .int .i64 lo2, .int .i64 hi2] 26)).trans (hb.mono (by simp))
                    exact h1.alloc h1.size _
                  have KK := Lib.hid (K4.out.grown hb2)
                  clear hb hb2
                  go_wp2_with fail
                  go_meet
                  exact ⟨w5.heap.size, rfl, rfl, Lib.hid ⟨KK.out, heap_alloc_new _ _⟩⟩
                case rest =>
                  obtain ⟨b3, rfl, rfl, hh⟩ := hcut
                  have K5 := Lib.hid hh.out.1
                  have H5 := Lib.hid hh.out.2
                  clear hh K4 H4 J4 ww
                  obtain ⟨ww, rfl⟩ : ∃ ww : World, ww = wc := ⟨_, rfl⟩
                  go_upto_region 18 with fail
                  go_cut [161] (fun t wy => t = .bool false ∧ ww = wy)
                  case first => as_aux_lemma => --ok
                    have c1 := K5.out.c0
                    have c2 := K5.out.c1
                    have c3 : ww.cell? ⟨b3, 0, none⟩ = some (.int .i64 lo3) := cell_of_row _ _ 0 _ _ _ H5.out
                    have c4 : ww.cell? ⟨b3, 1, none⟩ = some (.int .i64 hi3) := cell_of_row _ _ 1 _ _ _ H5.out
                    by_cases e1 : E1 = 0
                    · by_cases e2 : E2 = 0
                      · obtain ⟨rfl, rfl, rfl⟩ := HB3.out e1 e2
                        subst e1 e2
                        have hn : ∀ w, (binOp .neq 26 (.agg #[.int .i64 lo3, .int .i64 hi3]) (.agg #[.int .i64 lo3, .int .i64 hi3])).run Tryd.prog w = .ok (.bool false) w := win_neq lo3 hi3
                        go_wp2_with fail
                        go_meet
                        exact ⟨by simp, rfl⟩
                      · have e : E = 6 := by
                          rcases HE.out with h | h
                          · exact absurd (HSB'.out h).2 e2
                          · exact h
                        subst e e1
                        have d2 : (E2 == 0) = false := by simpa using e2
                        have d3 : (E2 != 0) = true := by simpa using e2
                        clear e2
                        go_wp2_with fail
                        go_meet
                        exact ⟨by simp, rfl⟩
                    · have e : E = 6 := by
                        rcases HE.out with h | h
                        · exact absurd (HSB'.out h).1 e1
                        · exact h
                      subst e
                      have d2 : (E1 == 0) = false := by simpa using e1
                      have d3 : (E1 != 0) = true := by simpa using e1
                      clear e1
                      go_wp2_with fail
                      go_meet
                      exact ⟨by simp, rfl⟩
                  case rest =>
                    obtain ⟨rfl, rfl⟩ := hcut
                    rcases HE.out with h0 | h6
                    · subst h0
                      have c1 := K5.out.c0
                      have c2 := K5.out.c1
                      have MY := Lib.hid (HMAY.out rfl)
                      go_wp2_with fail
                      refine (first_ok lo hi ww MY.out (HT.out.grown K5.out.2.1)).mono ?_
                      rintro e w5 ⟨rfl, hb⟩
                      have K6 := Lib.hid (K5.out.grown hb)
                      clear hb c1 c2
                      have FV := Lib.hid (first_cases lo hi MY.out)
                      generalize firstV lo hi = Y at *
                      obtain ⟨fi, fj⟩ := Y
                      go_wp2_with fail
                      refine (supply_table w5 (HT.out.grown K6.out.2.1)).mono ?_
                      rintro e w' ⟨rfl, rfl⟩
                      have L1 := Lib.hid (local_facts w5 (arrV supplyL) 36)
                      go_wp2_with (refine wpList_store_row rfl 36 _ _ rfl _ (arrV supplyL) rfl rfl 36 _ (heap_alloc2_new _ _ _) supply_cells rfl (arrV_all _) ?_; rw [setRow_alloc2]; generalize (w5.alloc (.cells (arrV supplyL) 36)).alloc (.cells (arrV supplyL) 36) = w6 at L1 ⊢; revert w6)
                      intro w6 L1
                      have K7 := Lib.hid (K6.out.grown L1.out.1)
                      have RT : Hid (∀ k, k < 24 → w6.cell? ⟨w5.heap.size + 1, k, none⟩ = some (.int .i64 (nth supplyL k))) := fun k hk => row_at L1.out.2.1 (Below.refl _ _) k hk
                      clear K5 K6 L1 H5
                      rcases FV.out with ⟨k0, hk0, hv, hin, hbef⟩ | ⟨hv, hbef⟩
                      · obtain ⟨rfl, rfl⟩ : (k0 : Int) = fi ∧ 0 = fj := by simp only [Prod.mk.injEq] at hv; exact ⟨hv.1.symm, hv.2.symm⟩
                        have HIN0 := Lib.hid hin
                        have HBF := Lib.hid hbef
                        clear hv hin hbef FV
                        go_wp2_with fail
                        go_loopw [22] (fun s wr => ∃ k dd : Nat, k ≤ 24 ∧ s = .int .i64 k ∧ wr = w6.drewN dd) (fun s _ => 24 - (intOf s).toNat)
                        case atStart => exact ⟨0, 0, by omega, rfl, rfl⟩
                        case round =>
                          obtain ⟨k, dd, hk, rfl, rfl⟩ := hrel
                          by_cases hlt : k < 24
                          · have c0 := K7.out.c0
                            have c1 := K7.out.c1
                            have ct := RT.out k hlt
                            by_cases hi1 : lo ≤ nth supplyL k
                            · have d1 : decide (nth supplyL k ≥ lo) = true := decide_eq_true hi1
                              by_cases hi2 : nth supplyL k ≤ hi
                              · have hw : inW lo hi k = true := by simp [inW, hi1, hi2]
                                have hge : ¬ k < k0 := fun h => by rw [HBF.out k h] at hw; cases hw
                                have d2 : decide (nth supplyL k ≤ hi) = true := decide_eq_true hi2
                                have d3 : decide (k < k0) = false := decide_eq_false hge
                                clear hw hi1 hi2
                                by_cases hkk : k = k0
                                · have d4 : ((k : Int) == (k0 : Int)) = true := beq_iff_eq.2 (by omega)
                                  clear hkk hge
                                  go_wp2_with fail
                                  go_quiet (fail)
                                  go_wp2_with fail
                                  go_roundw
                                  case rel => exact ⟨k + 1, _, by omega, by go_num, rfl⟩
                                  case measure => simp [intOf]; omega
                                · have d4 : ((k : Int) == (k0 : Int)) = false := beq_eq_false_iff_ne.2 (by omega)
                                  clear hkk hge
                                  go_wp2_with fail
                                  go_quiet (fail)
                                  go_wp2_with fail
                                  go_roundw
                                  case rel => exact ⟨k + 1, _, by omega, by go_num, rfl⟩
                                  case measure => simp [intOf]; omega
                              · have hw : inW lo hi k = false := by simp [inW, hi1, hi2]
                                have hne : k ≠ k0 := fun h => by rw [h, HIN0.out] at hw; cases hw
                                have d2 : decide (nth supplyL k ≤ hi) = false := decide_eq_false hi2
                                have d3 : ((k : Int) == (k0 : Int)) = false := beq_eq_false_iff_ne.2 (by omega)
                                clear hw hi1 hi2 hne
                                go_wp2_with fail
                                go_quiet (fail)
                                go_wp2_with fail
                                go_roundw
                                case rel => exact ⟨k + 1, _, by omega, by go_num, rfl⟩
                                case measure => simp [intOf]; omega
                            · have hw : inW lo hi k = false := by simp [inW, hi1]
                              have hne : k ≠ k0 := fun h => by rw [h, HIN0.out] at hw; cases hw
                              have d1 : decide (nth supplyL k ≥ lo) = false := decide_eq_false hi1
                              have d3 : ((k : Int) == (k0 : Int)) = false := beq_eq_false_iff_ne.2 (by omega)
                              clear hw hi1 hne
                              go_wp2_with fail
                              go_quiet (fail)
                              go_wp2_with fail
                              go_roundw
                              case rel => exact ⟨k + 1, _, by omega, by go_num, rfl⟩
                              case measure => simp [intOf]; omega
                          · obtain rfl : k = 24 := by omega
                            have ZB := Lib.hid (below_drewN K7.out.2.1 dd)
                            have ZT : Hid (supplyAt (w6.drewN dd)) := Lib.hid (HT.out.grown ZB.out)
                            go_wp2_with fail
                            refine (awake_any _ ZT.out).mono ?_
                            rintro e w' ⟨rfl, rfl⟩
                            go_wp2_with fail
                            go_ret
                            exact ⟨rfl, ZB.out⟩
                      · obtain ⟨rfl, rfl⟩ : 0 = fi ∧ 6 = fj := by simp only [Prod.mk.injEq] at hv; exact ⟨hv.1.symm, hv.2.symm⟩
                        have HBF := Lib.hid hbef
                        clear hv hbef FV
                        go_wp2_with fail
                        go_loopw [22] (fun s wr => ∃ k dd : Nat, k ≤ 24 ∧ s = .int .i64 k ∧ wr = w6.drewN dd) (fun s _ => 24 - (intOf s).toNat)
                        case atStart => exact ⟨0, 0, by omega, rfl, rfl⟩
                        case round =>
                          obtain ⟨k, dd, hk, rfl, rfl⟩ := hrel
                          by_cases hlt : k < 24
                          · have c0 := K7.out.c0
                            have c1 := K7.out.c1
                            have ct := RT.out k hlt
                            by_cases hi1 : lo ≤ nth supplyL k
                            · have d1 : decide (nth supplyL k ≥ lo) = true := decide_eq_true hi1
                              by_cases hi2 : nth supplyL k ≤ hi
                              · have hw : inW lo hi k = true := by simp [inW, hi1, hi2]
                                exact absurd (HBF.out k hlt) (by rw [hw]; simp)
                              · have d2 : decide (nth supplyL k ≤ hi) = false := decide_eq_false hi2
                                clear hi1 hi2
                                go_wp2_with fail
                                go_quiet (fail)
                                go_wp2_with fail
                                go_roundw
                                case rel => exact ⟨k + 1, _, by omega, by go_num, rfl⟩
                                case measure => simp [intOf]; omega
                            · have d1 : decide (nth supplyL k ≥ lo) = false := decide_eq_false hi1
                              clear hi1
                              go_wp2_with fail
                              go_quiet (fail)
                              go_wp2_with fail
                              go_roundw
                              case rel => exact ⟨k + 1, _, by omega, by go_num, rfl⟩
                              case measure => simp [intOf]; omega
                          · obtain rfl : k = 24 := by omega
                            have ZB := Lib.hid (below_drewN K7.out.2.1 dd)
                            have ZT : Hid (supplyAt (w6.drewN dd)) := Lib.hid (HT.out.grown ZB.out)
                            go_wp2_with fail
                            refine (awake_any _ ZT.out).mono ?_
                            rintro e w' ⟨rfl, rfl⟩
                            go_wp2_with fail
                            go_ret
                            exact ⟨rfl, ZB.out⟩
                    · as_aux_lemma => --ok
                      subst h6
                      have ZT : Hid (supplyAt ww) := Lib.hid (HT.out.grown K5.out.2.1)
                      go_wp2_with fail
                      refine (awake_any _ ZT.out).mono ?_
                      rintro e w' ⟨rfl, rfl⟩
                      go_wp2_with fail
                      go_ret
                      exact ⟨rfl, K5.out.2.1⟩
end Go.Proofs.YtnomamimpnogpaaDoor
