/- The walk of BusPlaces. -/
import Derived.Test.YtdhlmflbefnekaaDoorRSlotC
import Derived.Outline
import Derived.OpenShut
namespace Go.Proofs.YtdhlmflbefnekaaDoor
open Go.RowKit Go.ChangeShapes
namespace busRun
set_option maxRecDepth 1000000 in
theorem works_run : Ev.valF (.bool true) (run Tryd.prog.globals.size 24 [] st) = true := by kernel_rfl
theorem works_any {W : World} (h : Stood W) (w : World) (hb : Below W.heap.size W w) : Calls Tryd.prog 24 #[] w fun e w' => e = .returned (.bool true) ∧ Below w.heap.size w w' := by
  letI : Ev.Env := ⟨0, fun _ => []⟩
  refine (Ev.run_val h.1 h.2 hb run_ok (ars := []) (vs := #[]) (fun β => show Ev.Reps β [] [] from rfl) works_run).mono ?_
  rintro e w' ⟨⟨u, β, rfl, hu⟩, hw⟩
  exact ⟨by rw [Ev.rep_bool1 hu], hw⟩
def twenty : List Int := [0, 1, 2, 3, 4, 5, 6, 7, 8, 9, 10, 11, 12, 13, 14, 15, 16, 17, 18, 19]
set_option maxRecDepth 1000000 in
theorem order_run : Ev.firstF 20 0 (run (Tryd.prog.globals.size + 1) 21 [.slc Tryd.prog.globals.size 0 20 (.fix 20), .bool false] (Ev.rowSt Tryd.prog tabs 3 twenty)) = true := by kernel_rfl
theorem order_twenty {W : World} (h : Stood W) (w : World) (hb : Below W.heap.size W w) (g : Nat) (hg : w.heap[g]? = some (.cells (twenty.map (Value.int .i64)).toArray 3 (0, 0))) (hgW : W.heap.size ≤ g) :
    Calls Tryd.prog 21 #[.slice (some ⟨g, 0, none⟩) 20 20, .bool false] w fun e w' => (∃ a c, e = .returned (.tuple #[.slice (some a) 20 c, .int .i64 0]) ∧ w'.cell? a = some (.int .i64 0) ∧ 20 ≤ c) ∧ Below w.heap.size w w' := by
  letI : Ev.Env := ⟨0, fun _ => []⟩
  obtain ⟨v, s', hr, hv⟩ := Ev.first_of order_run
  refine (Ev.run_row h.1 h.2 hb run_ok (T := 3) (zs := twenty) hg hgW (vs := #[.slice (some ⟨g, 0, none⟩) 20 20, .bool false]) (fun β hβ => show Ev.Reps β [.slc Tryd.prog.globals.size 0 20 (.fix 20), .bool false] [.slice (some ⟨g, 0, none⟩) 20 20, .bool false] from ⟨_, _, rfl, ⟨g, _, 20, hβ, rfl, Nat.le_refl _, rfl⟩, _, _, rfl, rfl, rfl⟩) hr).mono ?_
  rintro e w' ⟨u, β', rfl, hs, hu, hw⟩
  obtain ⟨a, c, rfl, h1, h2⟩ := hv β' w' u hs hu
  exact ⟨⟨a, c, rfl, h1, h2⟩, hw⟩
theorem which_at {W : World} (h : Stood W) (k : Nat) (hk : k < 20) : Gives W 17 (nth busL k) k 0 :=
  match k, hk with
  | 0, _ => gives_of h (fun _ => Ev.rep_rng (by decide) (by decide)) which1
  | 1, _ => gives_of h (fun _ => Ev.rep_rng (by decide) (by decide)) which2
  | 2, _ => gives_of h (fun _ => Ev.rep_rng (by decide) (by decide)) which3
  | 3, _ => gives_of h (fun _ => Ev.rep_rng (by decide) (by decide)) which4
  | 4, _ => gives_of h (fun _ => Ev.rep_rng (by decide) (by decide)) which5
  | 5, _ => gives_of h (fun _ => Ev.rep_rng (by decide) (by decide)) which6
  | 6, _ => gives_of h (fun _ => Ev.rep_rng (by decide) (by decide)) which7
  | 7, _ => gives_of h (fun _ => Ev.rep_rng (by decide) (by decide)) which8
  | 8, _ => gives_of h (fun _ => Ev.rep_rng (by decide) (by decide)) which9
  | 9, _ => gives_of h (fun _ => Ev.rep_rng (by decide) (by decide)) which10
  | 10, _ => gives_of h (fun _ => Ev.rep_rng (by decide) (by decide)) which11
  | 11, _ => gives_of h (fun _ => Ev.rep_rng (by decide) (by decide)) which12
  | 12, _ => gives_of h (fun _ => Ev.rep_rng (by decide) (by decide)) which13
  | 13, _ => gives_of h (fun _ => Ev.rep_rng (by decide) (by decide)) which14
  | 14, _ => gives_of h (fun _ => Ev.rep_rng (by decide) (by decide)) which15
  | 15, _ => gives_of h (fun _ => Ev.rep_rng (by decide) (by decide)) which16
  | 16, _ => gives_of h (fun _ => Ev.rep_rng (by decide) (by decide)) which17
  | 17, _ => gives_of h (fun _ => Ev.rep_rng (by decide) (by decide)) which18
  | 18, _ => gives_of h (fun _ => Ev.rep_rng (by decide) (by decide)) which19
  | 19, _ => gives_of h (fun _ => Ev.rep_rng (by decide) (by decide)) which20
  | _ + 20, h => absurd h (by omega)
theorem which_none {W : World} (h : Stood W) : Gives W 17 (nth busL 0 - 1) 0 6 := gives_of h (fun _ => Ev.rep_rng (by decide) (by decide)) which0
end busRun
theorem pick20 (n : Int) : ∃ (r : Int) (k : Nat), n.tmod 20 = r ∧ -20 < r ∧ r < 20 ∧ k < 20 ∧ ((r < 0 ∧ r + 20 = (k : Int)) ∨ (¬ r < 0 ∧ r = (k : Int))) := by
  have h1 := Int.lt_tmod_of_pos n (b := 20) (by omega)
  have h2 := Int.tmod_lt_of_pos n (b := 20) (by omega)
  by_cases h : n.tmod 20 < 0
  · exact ⟨n.tmod 20, (n.tmod 20 + 20).toNat, rfl, h1, h2, by omega, .inl ⟨h, by omega⟩⟩
  · exact ⟨n.tmod 20, (n.tmod 20).toNat, rfl, h1, h2, by omega, .inr ⟨h, by omega⟩⟩
/-- what a slot without a number is. -/
theorem slotV_zero (k : Nat) (s : Int) (hk : k < 20) : (0 ≤ s → slotV k 0 s = (nth busL k, 0)) ∧ (s < 0 → slotV k 0 s = (0, 1)) := by
  have hb := bus_bd1 k hk
  constructor
  · intro h
    unfold slotV
    rw [show ((k : Int)).toNat = k by omega, if_pos ⟨by omega, by omega, by omega, h, by rw [Int.zero_mul]; omega⟩, Int.zero_mul, Int.add_zero]
  · intro h
    exact slotV_no _ _ _ (by omega)
theorem slotV_ends (k : Nat) (n s : Int) (hk : k < 20) : slotV k n s = (0, 1) ∨ ∃ x, slotV k n s = (x, 0) ∧ nth busL k ≤ x ∧ x ≤ 9223372036854775807 ∧ 0 ≤ n ∧ (0 < n → (x - nth busL k).tdiv n = s) := by
  have hb := bus_bd1 k hk
  by_cases h : 0 ≤ (k : Int) ∧ (k : Int) < 20 ∧ 0 ≤ n ∧ 0 ≤ s ∧ n * s ≤ 9223372036854775807 - nth busL (k : Int).toNat
  · refine .inr ⟨nth busL k + n * s, ?_, ?_, ?_, h.2.2.1, fun hn => ?_⟩
    · unfold slotV
      rw [if_pos h, show ((k : Int)).toNat = k by omega]
    · have := Int.mul_nonneg h.2.2.1 h.2.2.2.1
      omega
    · have := h.2.2.2.2
      rw [show ((k : Int)).toNat = k by omega] at this
      omega
    · rw [show nth busL k + n * s - nth busL k = n * s by omega]
      exact Int.mul_tdiv_cancel_left s (by omega)
  · exact .inl (slotV_no _ _ _ h)
theorem holdsAt_of {P : Program} {W : World} {name : String} {L : List Int} {g : Nat} (hg : P.globalNamed name = some g) (h : Lib.TabIs P W name .i64 L) : Ev.HoldsAt W g L := by
  unfold Lib.TabIs World.var? at h
  rw [hg] at h
  simp only [Option.bind_some] at h
  split at h
  · rename_i c t fr hh
    cases h
    exact ⟨t, fr, hh⟩
  · cases h
theorem Vars.mk {W : World} (h0 : Lib.TabIs Tryd.prog W "reveille/bus.table" .i64 busL) : busAt W ∧ ∀ x ∈ busRun.tabs, Ev.HoldsAt W x.1 x.2 ∧ x.1 < Tryd.prog.globals.size := by
  refine ⟨bus_mk h0, fun x hx => ?_⟩
  simp only [busRun.tabs, List.mem_cons, List.not_mem_nil, or_false] at hx
  subst hx
  exact ⟨holdsAt_of bus_named h0, of_decide_eq_true (by kernel_rfl)⟩
set_option maxHeartbeats 4000000 in
set_option maxRecDepth 100000 in
theorem busPlaces_walk (i n s : Int) (W : World) (w0 : (Lit.int .i64 i).wf = true) (w1 : (Lit.int .i64 n).wf = true) (w2 : (Lit.int .i64 s).wf = true) (hsh : W.ShapedOpen Tryd.prog) (hv : busAt W ∧ ∀ x ∈ busRun.tabs, Ev.HoldsAt W x.1 x.2 ∧ x.1 < Tryd.prog.globals.size) :
    Calls Tryd.prog 8 #[.int .i64 i, .int .i64 n, .int .i64 s] W fun e w' => e = .returned (.bool true) ∧ Below W.heap.size W w' := by
  obtain ⟨n0, n1⟩ := bounds_i64 w1
  obtain ⟨s0, s1⟩ := bounds_i64 w2
  have hst : busRun.Stood W := ⟨hsh, hv.2⟩
  obtain ⟨r, k, hr, r0, r1, hk, hcase⟩ := pick20 i
  have HW := Lib.hid (fun w hb => busRun.works_any hst w hb)
  have HO := Lib.hid (fun w hb => busRun.order_twenty hst w hb)
  have HK := Lib.hid (busRun.which_at hst k hk)
  have HN := Lib.hid (busRun.which_none hst)
  have HB := Lib.hid (fun w hT => bus_in k w hk hT)
  have H0 := Lib.hid (fun w hT => bus_in 0 w (by omega) hT)
  have HS0 := Lib.hid (fun w hT => slot_any k 0 s w hT (by omega) (by omega) s0 s1)
  have HS1 := Lib.hid (fun w hT => slot_any k n s w hT n0 n1 s0 s1)
  have hz := slotV_zero k s hk
  have hends := slotV_ends k n s hk
  have hneg : s < 0 → slotV k n s = (0, 1) := fun h => slotV_no _ _ _ (by omega)
  obtain ⟨bb0, bb1⟩ := bus_bd1 k hk
  have e0 : nth busL 0 = 271672320 := by decide
  rw [e0] at H0 HN
  obtain ⟨B, hB⟩ : ∃ B : Int, nth busL k = B := ⟨_, rfl⟩
  rw [hB] at HK HB hz hends bb0 bb1
  have HT := Lib.hid hv.1
  clear w0 w1 w2 hst hv hsh hk hB e0

  rcases hcase with ⟨hneg0, hk2⟩ | ⟨hneg0, hk2⟩
  · by_cases hs : s < 0
    · have hz1 := hz.2 hs
      have hz2 := hneg hs
      rw [hz1] at HS0
      rw [hz2] at HS1
      clear hz hends hneg hz1 hz2
      go_enter Tryd.func8, Tryd.ntmps8
      go_wp2_with fail
      refine (HW.out _ (Below.refl _ _)).mono ?_
      rintro e w1 ⟨rfl, hb⟩
      have E1 := Lib.hid hb
      clear hb
      go_wp2_with fail
      refine (HB.out _ (HT.out.grown E1.out)).mono ?_
      rintro e w' ⟨rfl, rfl⟩
      go_wp2_with fail
      refine (HK.out _ E1.out).mono ?_
      rintro e w2 ⟨rfl, hb⟩
      have E2 := Lib.hid (E1.out.trans (hb.mono E1.out.size))
      clear hb
      go_wp2_with fail
      refine (HB.out _ (HT.out.grown E2.out)).mono ?_
      rintro e w' ⟨rfl, rfl⟩
      go_wp2_with fail
      refine (HS0.out _ (HT.out.grown E2.out)).mono ?_
      rintro e w' ⟨rfl, rfl⟩
      go_wp2_with fail
      refine (HS1.out _ (HT.out.grown E2.out)).mono ?_
      rintro e w' ⟨rfl, rfl⟩
      go_wp2_with fail
      refine (HO.out _ (E2.out.alloc E2.out.size _) _ (heap_alloc_new _ _) E2.out.size).mono ?_
      rintro e w3 ⟨⟨a, c, rfl, hc, hcap⟩, hb⟩
      have E3 := Lib.hid ((E2.out.alloc E2.out.size _).trans (hb.mono (E2.out.alloc E2.out.size _).size))
      clear hb
      go_wp2_with fail
      refine (H0.out _ (HT.out.grown E3.out)).mono ?_
      rintro e w' ⟨rfl, rfl⟩
      go_wp2_with fail
      refine (HN.out _ E3.out).mono ?_
      rintro e w4 ⟨rfl, hb⟩
      have E4 := Lib.hid (E3.out.trans (hb.mono E3.out.size))
      clear hb
      go_wp2_with fail
      go_ret
      exact ⟨rfl, E4.out⟩
    · have hz1 := hz.1 (by omega)
      rw [hz1] at HS0
      rcases hends with h1 | ⟨x, h1, x0, x1, x2, x3⟩
      · rw [h1] at HS1
        clear hz hneg hz1 h1
        go_enter Tryd.func8, Tryd.ntmps8
        go_wp2_with fail
        refine (HW.out _ (Below.refl _ _)).mono ?_
        rintro e w1 ⟨rfl, hb⟩
        have E1 := Lib.hid hb
        clear hb
        go_wp2_with fail
        refine (HB.out _ (HT.out.grown E1.out)).mono ?_
        rintro e w' ⟨rfl, rfl⟩
        go_wp2_with fail
        refine (HK.out _ E1.out).mono ?_
        rintro e w2 ⟨rfl, hb⟩
        have E2 := Lib.hid (E1.out.trans (hb.mono E1.out.size))
        clear hb
        go_wp2_with fail
        refine (HB.out _ (HT.out.grown E2.out)).mono ?_
        rintro e w' ⟨rfl, rfl⟩
        go_wp2_with fail
        refine (HS0.out _ (HT.out.grown E2.out)).mono ?_
        rintro e w' ⟨rfl, rfl⟩
        go_wp2_with fail
        refine (HS1.out _ (HT.out.grown E2.out)).mono ?_
        rintro e w' ⟨rfl, rfl⟩
        go_wp2_with fail
        refine (HO.out _ (E2.out.alloc E2.out.size _) _ (heap_alloc_new _ _) E2.out.size).mono ?_
        rintro e w3 ⟨⟨a, c, rfl, hc, hcap⟩, hb⟩
        have E3 := Lib.hid ((E2.out.alloc E2.out.size _).trans (hb.mono (E2.out.alloc E2.out.size _).size))
        clear hb
        go_wp2_with fail
        refine (H0.out _ (HT.out.grown E3.out)).mono ?_
        rintro e w' ⟨rfl, rfl⟩
        go_wp2_with fail
        refine (HN.out _ E3.out).mono ?_
        rintro e w4 ⟨rfl, hb⟩
        have E4 := Lib.hid (E3.out.trans (hb.mono E3.out.size))
        clear hb
        go_wp2_with fail
        go_ret
        exact ⟨rfl, E4.out⟩
      · rw [h1] at HS1
        by_cases hn : 0 < n
        · have x4 := x3 hn
          clear hz hneg hz1 h1 x3
          go_enter Tryd.func8, Tryd.ntmps8
          go_wp2_with fail
          refine (HW.out _ (Below.refl _ _)).mono ?_
          rintro e w1 ⟨rfl, hb⟩
          have E1 := Lib.hid hb
          clear hb
          go_wp2_with fail
          refine (HB.out _ (HT.out.grown E1.out)).mono ?_
          rintro e w' ⟨rfl, rfl⟩
          go_wp2_with fail
          refine (HK.out _ E1.out).mono ?_
          rintro e w2 ⟨rfl, hb⟩
          have E2 := Lib.hid (E1.out.trans (hb.mono E1.out.size))
          clear hb
          go_wp2_with fail
          refine (HB.out _ (HT.out.grown E2.out)).mono ?_
          rintro e w' ⟨rfl, rfl⟩
          go_wp2_with fail
          refine (HS0.out _ (HT.out.grown E2.out)).mono ?_
          rintro e w' ⟨rfl, rfl⟩
          go_wp2_with fail
          refine (HS1.out _ (HT.out.grown E2.out)).mono ?_
          rintro e w' ⟨rfl, rfl⟩
          go_wp2_with fail
          refine (HO.out _ (E2.out.alloc E2.out.size _) _ (heap_alloc_new _ _) E2.out.size).mono ?_
          rintro e w3 ⟨⟨a, c, rfl, hc, hcap⟩, hb⟩
          have E3 := Lib.hid ((E2.out.alloc E2.out.size _).trans (hb.mono (E2.out.alloc E2.out.size _).size))
          clear hb
          go_wp2_with fail
          refine (H0.out _ (HT.out.grown E3.out)).mono ?_
          rintro e w' ⟨rfl, rfl⟩
          go_wp2_with fail
          refine (HN.out _ E3.out).mono ?_
          rintro e w4 ⟨rfl, hb⟩
          have E4 := Lib.hid (E3.out.trans (hb.mono E3.out.size))
          clear hb
          go_wp2_with fail
          go_ret
          exact ⟨rfl, E4.out⟩
        · obtain rfl : n = 0 := by omega
          clear hz hneg hz1 h1 x3
          go_enter Tryd.func8, Tryd.ntmps8
          go_wp2_with fail
          refine (HW.out _ (Below.refl _ _)).mono ?_
          rintro e w1 ⟨rfl, hb⟩
          have E1 := Lib.hid hb
          clear hb
          go_wp2_with fail
          refine (HB.out _ (HT.out.grown E1.out)).mono ?_
          rintro e w' ⟨rfl, rfl⟩
          go_wp2_with fail
          refine (HK.out _ E1.out).mono ?_
          rintro e w2 ⟨rfl, hb⟩
          have E2 := Lib.hid (E1.out.trans (hb.mono E1.out.size))
          clear hb
          go_wp2_with fail
          refine (HB.out _ (HT.out.grown E2.out)).mono ?_
          rintro e w' ⟨rfl, rfl⟩
          go_wp2_with fail
          refine (HS0.out _ (HT.out.grown E2.out)).mono ?_
          rintro e w' ⟨rfl, rfl⟩
          go_wp2_with fail
          refine (HS1.out _ (HT.out.grown E2.out)).mono ?_
          rintro e w' ⟨rfl, rfl⟩
          go_wp2_with fail
          refine (HO.out _ (E2.out.alloc E2.out.size _) _ (heap_alloc_new _ _) E2.out.size).mono ?_
          rintro e w3 ⟨⟨a, c, rfl, hc, hcap⟩, hb⟩
          have E3 := Lib.hid ((E2.out.alloc E2.out.size _).trans (hb.mono (E2.out.alloc E2.out.size _).size))
          clear hb
          go_wp2_with fail
          refine (H0.out _ (HT.out.grown E3.out)).mono ?_
          rintro e w' ⟨rfl, rfl⟩
          go_wp2_with fail
          refine (HN.out _ E3.out).mono ?_
          rintro e w4 ⟨rfl, hb⟩
          have E4 := Lib.hid (E3.out.trans (hb.mono E3.out.size))
          clear hb
          go_wp2_with fail
          go_ret
          exact ⟨rfl, E4.out⟩
  · by_cases hs : s < 0
    · subst hk2
      have hz1 := hz.2 hs
      have hz2 := hneg hs
      rw [hz1] at HS0
      rw [hz2] at HS1
      clear hz hends hneg hz1 hz2
      go_enter Tryd.func8, Tryd.ntmps8
      go_wp2_with fail
      refine (HW.out _ (Below.refl _ _)).mono ?_
      rintro e w1 ⟨rfl, hb⟩
      have E1 := Lib.hid hb
      clear hb
      go_wp2_with fail
      refine (HB.out _ (HT.out.grown E1.out)).mono ?_
      rintro e w' ⟨rfl, rfl⟩
      go_wp2_with fail
      refine (HK.out _ E1.out).mono ?_
      rintro e w2 ⟨rfl, hb⟩
      have E2 := Lib.hid (E1.out.trans (hb.mono E1.out.size))
      clear hb
      go_wp2_with fail
      refine (HB.out _ (HT.out.grown E2.out)).mono ?_
      rintro e w' ⟨rfl, rfl⟩
      go_wp2_with fail
      refine (HS0.out _ (HT.out.grown E2.out)).mono ?_
      rintro e w' ⟨rfl, rfl⟩
      go_wp2_with fail
      refine (HS1.out _ (HT.out.grown E2.out)).mono ?_
      rintro e w' ⟨rfl, rfl⟩
      go_wp2_with fail
      refine (HO.out _ (E2.out.alloc E2.out.size _) _ (heap_alloc_new _ _) E2.out.size).mono ?_
      rintro e w3 ⟨⟨a, c, rfl, hc, hcap⟩, hb⟩
      have E3 := Lib.hid ((E2.out.alloc E2.out.size _).trans (hb.mono (E2.out.alloc E2.out.size _).size))
      clear hb
      go_wp2_with fail
      refine (H0.out _ (HT.out.grown E3.out)).mono ?_
      rintro e w' ⟨rfl, rfl⟩
      go_wp2_with fail
      refine (HN.out _ E3.out).mono ?_
      rintro e w4 ⟨rfl, hb⟩
      have E4 := Lib.hid (E3.out.trans (hb.mono E3.out.size))
      clear hb
      go_wp2_with fail
      go_ret
      exact ⟨rfl, E4.out⟩
    · have hz1 := hz.1 (by omega)
      subst hk2
      rw [hz1] at HS0
      rcases hends with h1 | ⟨x, h1, x0, x1, x2, x3⟩
      · rw [h1] at HS1
        clear hz hneg hz1 h1
        go_enter Tryd.func8, Tryd.ntmps8
        go_wp2_with fail
        refine (HW.out _ (Below.refl _ _)).mono ?_
        rintro e w1 ⟨rfl, hb⟩
        have E1 := Lib.hid hb
        clear hb
        go_wp2_with fail
        refine (HB.out _ (HT.out.grown E1.out)).mono ?_
        rintro e w' ⟨rfl, rfl⟩
        go_wp2_with fail
        refine (HK.out _ E1.out).mono ?_
        rintro e w2 ⟨rfl, hb⟩
        have E2 := Lib.hid (E1.out.trans (hb.mono E1.out.size))
        clear hb
        go_wp2_with fail
        refine (HB.out _ (HT.out.grown E2.out)).mono ?_
        rintro e w' ⟨rfl, rfl⟩
        go_wp2_with fail
        refine (HS0.out _ (HT.out.grown E2.out)).mono ?_
        rintro e w' ⟨rfl, rfl⟩
        go_wp2_with fail
        refine (HS1.out _ (HT.out.grown E2.out)).mono ?_
        rintro e w' ⟨rfl, rfl⟩
        go_wp2_with fail
        refine (HO.out _ (E2.out.alloc E2.out.size _) _ (heap_alloc_new _ _) E2.out.size).mono ?_
        rintro e w3 ⟨⟨a, c, rfl, hc, hcap⟩, hb⟩
        have E3 := Lib.hid ((E2.out.alloc E2.out.size _).trans (hb.mono (E2.out.alloc E2.out.size _).size))
        clear hb
        go_wp2_with fail
        refine (H0.out _ (HT.out.grown E3.out)).mono ?_
        rintro e w' ⟨rfl, rfl⟩
        go_wp2_with fail
        refine (HN.out _ E3.out).mono ?_
        rintro e w4 ⟨rfl, hb⟩
        have E4 := Lib.hid (E3.out.trans (hb.mono E3.out.size))
        clear hb
        go_wp2_with fail
        go_ret
        exact ⟨rfl, E4.out⟩
      · rw [h1] at HS1
        by_cases hn : 0 < n
        · have x4 := x3 hn
          clear hz hneg hz1 h1 x3
          go_enter Tryd.func8, Tryd.ntmps8
          go_wp2_with fail
          refine (HW.out _ (Below.refl _ _)).mono ?_
          rintro e w1 ⟨rfl, hb⟩
          have E1 := Lib.hid hb
          clear hb
          go_wp2_with fail
          refine (HB.out _ (HT.out.grown E1.out)).mono ?_
          rintro e w' ⟨rfl, rfl⟩
          go_wp2_with fail
          refine (HK.out _ E1.out).mono ?_
          rintro e w2 ⟨rfl, hb⟩
          have E2 := Lib.hid (E1.out.trans (hb.mono E1.out.size))
          clear hb
          go_wp2_with fail
          refine (HB.out _ (HT.out.grown E2.out)).mono ?_
          rintro e w' ⟨rfl, rfl⟩
          go_wp2_with fail
          refine (HS0.out _ (HT.out.grown E2.out)).mono ?_
          rintro e w' ⟨rfl, rfl⟩
          go_wp2_with fail
          refine (HS1.out _ (HT.out.grown E2.out)).mono ?_
          rintro e w' ⟨rfl, rfl⟩
          go_wp2_with fail
          refine (HO.out _ (E2.out.alloc E2.out.size _) _ (heap_alloc_new _ _) E2.out.size).mono ?_
          rintro e w3 ⟨⟨a, c, rfl, hc, hcap⟩, hb⟩
          have E3 := Lib.hid ((E2.out.alloc E2.out.size _).trans (hb.mono (E2.out.alloc E2.out.size _).size))
          clear hb
          go_wp2_with fail
          refine (H0.out _ (HT.out.grown E3.out)).mono ?_
          rintro e w' ⟨rfl, rfl⟩
          go_wp2_with fail
          refine (HN.out _ E3.out).mono ?_
          rintro e w4 ⟨rfl, hb⟩
          have E4 := Lib.hid (E3.out.trans (hb.mono E3.out.size))
          clear hb
          go_wp2_with fail
          go_ret
          exact ⟨rfl, E4.out⟩
        · obtain rfl : n = 0 := by omega
          clear hz hneg hz1 h1 x3
          go_enter Tryd.func8, Tryd.ntmps8
          go_wp2_with fail
          refine (HW.out _ (Below.refl _ _)).mono ?_
          rintro e w1 ⟨rfl, hb⟩
          have E1 := Lib.hid hb
          clear hb
          go_wp2_with fail
          refine (HB.out _ (HT.out.grown E1.out)).mono ?_
          rintro e w' ⟨rfl, rfl⟩
          go_wp2_with fail
          refine (HK.out _ E1.out).mono ?_
          rintro e w2 ⟨rfl, hb⟩
          have E2 := Lib.hid (E1.out.trans (hb.mono E1.out.size))
          clear hb
          go_wp2_with fail
          refine (HB.out _ (HT.out.grown E2.out)).mono ?_
          rintro e w' ⟨rfl, rfl⟩
          go_wp2_with fail
          refine (HS0.out _ (HT.out.grown E2.out)).mono ?_
          rintro e w' ⟨rfl, rfl⟩
          go_wp2_with fail
          refine (HS1.out _ (HT.out.grown E2.out)).mono ?_
          rintro e w' ⟨rfl, rfl⟩
          go_wp2_with fail
          refine (HO.out _ (E2.out.alloc E2.out.size _) _ (heap_alloc_new _ _) E2.out.size).mono ?_
          rintro e w3 ⟨⟨a, c, rfl, hc, hcap⟩, hb⟩
          have E3 := Lib.hid ((E2.out.alloc E2.out.size _).trans (hb.mono (E2.out.alloc E2.out.size _).size))
          clear hb
          go_wp2_with fail
          refine (H0.out _ (HT.out.grown E3.out)).mono ?_
          rintro e w' ⟨rfl, rfl⟩
          go_wp2_with fail
          refine (HN.out _ E3.out).mono ?_
          rintro e w4 ⟨rfl, hb⟩
          have E4 := Lib.hid (E3.out.trans (hb.mono E3.out.size))
          clear hb
          go_wp2_with fail
          go_ret
          exact ⟨rfl, E4.out⟩
end Go.Proofs.YtdhlmflbefnekaaDoor
