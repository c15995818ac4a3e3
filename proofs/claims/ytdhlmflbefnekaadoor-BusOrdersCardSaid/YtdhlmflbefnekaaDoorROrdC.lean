/- The document's Order. -/
import Derived.Test.YtdhlmflbefnekaaDoorROrdV
import Derived.Test.YtdhlmflbefnekaaDoorNumsC
namespace Go.Proofs.YtdhlmflbefnekaaDoor
open Go.RowKit Go.ChangeShapes
theorem bus_nums : ∀ x : Fin 20, busF x.val = nth busL x.val := by decide +kernel
theorem busF_mono (x y : Nat) (hx : x < 20) (hy : y < 20) : busF x < busF y ↔ x < y := by
  have h := bus_mono ⟨x, hx⟩ ⟨y, hy⟩
  rw [← bus_nums ⟨x, hx⟩, ← bus_nums ⟨y, hy⟩] at h
  unfold cmpN at h
  simp only at h
  by_cases c1 : busF x < busF y
  · rw [if_pos c1] at h
    by_cases c2 : x < y
    · exact ⟨fun _ => c2, fun _ => c1⟩
    · rw [if_neg c2] at h
      split at h <;> omega
  · rw [if_neg c1] at h
    by_cases c2 : x < y
    · rw [if_pos c2] at h
      split at h <;> omega
    · exact ⟨fun e => absurd e c1, fun e => absurd e c2⟩
set_option maxHeartbeats 8000000 in
set_option maxRecDepth 100000 in
theorem rorder_any (v : Value) (zs : List Int) (down : Bool) (w : World) (hv : Ints .i64 w v zs) :
    Calls Tryd.prog 22 #[v, .bool down] w fun e w' => ∃ u, e = .returned (.tuple #[u, .int .i64 (errO zs)]) ∧ w'.ownsRow w.heap.size 3 1 u (resO down zs).length (rc (resO down zs)) ∧ Below w.heap.size w w' := by
  obtain ⟨a, cap, rfl, hm, _, hc⟩ := hv
  have HC := Lib.hid hc
  obtain ⟨iv, hj, hy0, hy1, hy2⟩ := info_parts infoInt'
  clear hc hm
  by_cases hbig : 4096 < zs.length
  · have hz : (zs.length : Int) > 4096 := by omega
    have hz2 : decide ((zs.length : Int) > 4096) = true := decide_eq_true hz
    have HO : Hid (okO zs = false) := Lib.hid (okO_big hbig)
    go_enter Tryd.func22, Tryd.ntmps22
    go_wp2_with fail
    go_ret2
    unfold errO resO
    rw [HO.out]
    exact ⟨_, rfl, World.ownsRow_nil _ _ _ _, Below.refl _ _⟩
  · have hz : ¬ (zs.length : Int) > 4096 := by omega
    have hz2 : decide ((zs.length : Int) > 4096) = false := decide_eq_false hz
    go_enter Tryd.func22, Tryd.ntmps22
    go_wp2_with fail
    go_loopg [6] zs.length (fun r vi wr => ∃ k : Nat, k ≤ zs.length ∧ r = zs.length - k ∧ vi = .int .i64 k ∧ wr = w ∧ Hid (∀ j, j < k → 0 ≤ nth zs j ∧ nth zs j < 20))
    case atStart => exact ⟨0, by omega, by omega, rfl, rfl, Lib.hid (fun j hj => by omega)⟩
    case round =>
      obtain ⟨k, hk, hr, rfl, rfl, hh⟩ := hrel
      have HR := Lib.hid hr
      clear hr
      by_cases hlt : k < zs.length
      · obtain ⟨b, off, hp, g⟩ := HC.out k hlt
        subst hp
        obtain ⟨z, hz0⟩ : ∃ z, z = nth zs k := ⟨_, rfl⟩
        rw [← hz0] at g
        by_cases hneg : z < 0
        · have HO : Hid (okO zs = false) := Lib.hid (okO_bad hlt (.inl (by omega)))
          clear hz0 hh
          go_wp2_with fail
          go_ret2
          unfold errO resO
          rw [HO.out]
          exact ⟨_, rfl, World.ownsRow_nil _ _ _ _, Below.refl _ _⟩
        · by_cases hge : 20 ≤ z
          · have HO : Hid (okO zs = false) := Lib.hid (okO_bad hlt (.inr (by omega)))
            have hge2 : z ≥ 20 := hge
            have hge3 : decide (z ≥ 20) = true := decide_eq_true hge
            clear hz0 hh
            go_wp2_with fail
            go_ret2
            unfold errO resO
            rw [HO.out]
            exact ⟨_, rfl, World.ownsRow_nil _ _ _ _, Below.refl _ _⟩
          · have hN : Hid (∀ j, j < k + 1 → 0 ≤ nth zs j ∧ nth zs j < 20) := Lib.hid (fun j hj => by
              by_cases e : j = k
              · subst e; rw [← hz0]; omega
              · exact hh.out j (by omega))
            have hge2 : ¬ z ≥ 20 := hge
            have hge3 : decide (z ≥ 20) = false := decide_eq_false hge2
            clear hz0 hh
            go_wp2_with fail
            go_roundg (zs.length - (k + 1))
            case measure => rw [HR.out]; omega
            case rel => exact ⟨k + 1, by omega, rfl, by first | rfl | simp, rfl, hN⟩
      · obtain rfl : k = zs.length := by omega
        have HOK : Hid (okO zs = true) := Lib.hid (okO_good (by omega) hh.out)
        have hcl := n10 wr
        go_wp2_with fail
        refine hcl.mono ?_
        rintro e w1 ⟨gt, ct, rfl, ht, hb⟩
        obtain ⟨w, hw⟩ : ∃ w, w = wr := ⟨_, rfl⟩
        subst hw
        have HT := Lib.hid ht
        have HB := Lib.hid hb
        have HRNG := Lib.hid (fun k hk i hi => accD_rng down zs hh.out k hk i hi)
        have HZ := Lib.hid hh.out
        clear hcl ht hb hh
        go_wp2_with fail
        go_loopg [8, 9] zs.length (fun r vo vi wr => ∃ i : Nat, i ≤ zs.length ∧ r = zs.length - i ∧ vi = .int .i64 i ∧ Hid (wr.ownsRow w.heap.size 3 1 vo i (rc (accD down zs i)) ∧ wr.ownsRow w.heap.size 2 1 (.slice (some ⟨gt, 0, none⟩) 20 ct) 20 (ncells (nums 20 busF)) ∧ Below w.heap.size w wr))
        case atStart => exact ⟨0, by omega, by omega, rfl, Lib.hid ⟨World.ownsRow_nil _ _ _ _, HT.out, HB.out⟩⟩
        case round =>
          clear HT HB
          obtain ⟨i, hi', hr, rfl, hq⟩ := hrel
          have HR2 := Lib.hid hr
          have P1 := Lib.hid hq.out.1
          have P2 := Lib.hid hq.out.2.1
          have P3 := Lib.hid hq.out.2.2
          clear hr hq
          by_cases hlt2 : i < zs.length
          · obtain ⟨b, off, hp, g0⟩ := HC.out i hlt2
            subst hp
            have hbz : b < w.heap.size := World.block_lt_of_cell? w _ g0
            have g1 : wr.cell? ⟨b, off + i, none⟩ = some (.int .i64 (nth zs i)) := (P3.out.cell (p := ⟨b, off + i, none⟩) hbz).trans g0
            obtain ⟨xx, hxe⟩ : ∃ xx : Nat, nth zs i = xx := ⟨(nth zs i).toNat, by have := HZ.out i hlt2; omega⟩
            have hxx : xx < 20 := by have := HZ.out i hlt2; omega
            rw [hxe] at g0 g1
            have G0 := Lib.hid g0
            have HACC : Hid (accD down zs (i + 1) = insD down (accD down zs i) (xx : Int)) := Lib.hid (by rw [← hxe]; rfl)
            have HOUT : Hid ((accD down zs i).length = i) := Lib.hid (accD_len down zs i)
            have HRO := Lib.hid (fun j hj => HRNG.out i hi' j hj)
            obtain ⟨ao, co, rfl⟩ := own_slice P1.out
            obtain ⟨wi, hwi⟩ : ∃ wi, wi = wr := ⟨_, rfl⟩
            subst hwi
            clear g0 hxe
            generalize accD down zs i = out at *
            go_wp2_with fail
            go_loopg [10] i (fun r vk wr => ∃ (K dd : Nat), K ≤ i ∧ r = K ∧ vk = .int .i64 K ∧ wr = wi.drewN dd ∧ Hid (posD down out xx out.length = posD down out xx K))
            case atStart => exact ⟨i, 0, by omega, rfl, rfl, rfl, Lib.hid (by rw [HOUT.out])⟩
            case round =>
              obtain ⟨K, dd, hK, hr, rfl, rfl, hpos⟩ := hrel
              have HR3 := Lib.hid hr
              clear hr
              obtain ⟨CD, hCD⟩ : ∃ CD, CD = (decide (0 < K) && gtD down (nth out (K - 1)) xx) := ⟨_, rfl⟩
              have HCD := Lib.hid hCD
              clear hCD
              have ww1 : IntKind.i64.wrap (xx : Int) = (xx : Int) := by rw [IntKind.wrap_i64]; omega
              have ww2 : IntKind.i64.wrap (i : Int) = (i : Int) := by rw [IntKind.wrap_i64]; omega
              have ww3 : (xx : Int) < 20 := by omega
              have ww4 : (0 : Int) ≤ (xx : Int) := by omega
              have ww5 : (i : Int) < (zs.length : Int) := by omega
              have ww6 : (0 : Int) ≤ (i : Int) := by omega
              go_upto_region 14 with fail
              go_cut [86] (fun t wx => t = .bool CD ∧ ∃ d, wx = wi.drewN d)
              case first =>
                by_cases hK0 : K = 0
                · subst hK0
                  have E : Hid (CD = false) := Lib.hid (by rw [HCD.out]; rfl)
                  have z1 : decide (((0 : Nat) : Int) > 0) = false := by decide
                  go_quiet (fail)
                  go_wp2_with fail
                  go_meet
                  exact ⟨by rw [E.out], dd + nq, by first | rfl | exact World.drewN_drewN _ _ _⟩
                · obtain ⟨kp, hkp⟩ : ∃ kp, kp + 1 = K := ⟨K - 1, by omega⟩
                  obtain ⟨o, hoe⟩ : ∃ o : Nat, nth out kp = o := ⟨(nth out kp).toNat, by have := HRO.out kp (by omega); omega⟩
                  have ho : o < 20 := by have := HRO.out kp (by omega); omega
                  obtain ⟨go, co', hform, _, _⟩ := P1.out.form (by omega)
                  obtain ⟨rfl, rfl⟩ : ao = some ⟨go, 0, none⟩ ∧ co = co' := by
                    simp only [Value.slice.injEq] at hform
                    exact ⟨hform.1, hform.2.2⟩
                  have d1 : wi.cell? ⟨go, kp, none⟩ = some (.int .i64 (o : Int)) := by
                    rw [← hoe]; exact rc_at P1.out HOUT.out kp (by omega)
                  have d2 : wi.cell? ⟨gt, o, none⟩ = some (.int .i64 (busF o)) := ncell_at P2.out o ho
                  have d3 : wi.cell? ⟨gt, xx, none⟩ = some (.int .i64 (busF xx)) := ncell_at P2.out xx hxx
                  have z1 : (K : Int) - 1 = (kp : Int) := by omega
                  have z2 : (K : Int) > 0 := by omega
                  have z3 : decide ((K : Int) > 0) = true := decide_eq_true z2
                  have z4 : IntKind.i64.wrap (kp : Int) = (kp : Int) := by rw [IntKind.wrap_i64]; omega
                  have z5 : IntKind.i64.wrap (o : Int) = (o : Int) := by rw [IntKind.wrap_i64]; omega
                  have z6 : (kp : Int) < (i : Int) := by omega
                  have z7 : (0 : Int) ≤ (kp : Int) := by omega
                  have z8 : (o : Int) < 20 := by omega
                  have z9 : (0 : Int) ≤ (o : Int) := by omega
                  have z10 : 0 < K := by omega
                  have z11 : decide (0 < K) = true := decide_eq_true z10
                  have hkk : K - 1 = kp := by omega
                  rw [hkk, hoe] at HCD
                  clear hform hoe hkk hkp
                  cases hg : gtD down (o : Int) (xx : Int) with
                  | true =>
                    cases down with
                    | false =>
                      have hUV : busF o > busF xx := (busF_mono xx o hxx ho).2 (by have := hg; simp [gtD] at this; omega)
                      generalize busF o = U at *
                      generalize busF xx = V at *
                      have hUV2 : decide (U > V) = true := decide_eq_true hUV
                      have E : Hid (CD = true) := Lib.hid (by rw [HCD.out, hg, decide_eq_true (show 0 < K by omega)]; rfl)
                      clear hg
                      go_quiet (fail)
                      go_wp2_with fail
                      go_meet
                      exact ⟨by rw [E.out], dd + nq, by first | rfl | exact World.drewN_drewN _ _ _⟩
                    | true =>
                      have hUV : busF o < busF xx := (busF_mono o xx ho hxx).2 (by have := hg; simp [gtD] at this; omega)
                      generalize busF o = U at *
                      generalize busF xx = V at *
                      have hUV2 : decide (U < V) = true := decide_eq_true hUV
                      have E : Hid (CD = true) := Lib.hid (by rw [HCD.out, hg, decide_eq_true (show 0 < K by omega)]; rfl)
                      clear hg
                      go_quiet (fail)
                      go_wp2_with fail
                      go_meet
                      exact ⟨by rw [E.out], dd + nq, by first | rfl | exact World.drewN_drewN _ _ _⟩
                  | false =>
                    cases down with
                    | false =>
                      have hUV : ¬ busF o > busF xx := fun h => by have h2 := (busF_mono xx o hxx ho).1 h; have := hg; simp [gtD] at this; omega
                      generalize busF o = U at *
                      generalize busF xx = V at *
                      have hUV2 : decide (U > V) = false := decide_eq_false hUV
                      have E : Hid (CD = false) := Lib.hid (by rw [HCD.out, hg, decide_eq_true (show 0 < K by omega)]; rfl)
                      clear hg
                      go_quiet (fail)
                      go_wp2_with fail
                      go_meet
                      exact ⟨by rw [E.out], dd + nq, by first | rfl | exact World.drewN_drewN _ _ _⟩
                    | true =>
                      have hUV : ¬ busF o < busF xx := fun h => by have h2 := (busF_mono o xx ho hxx).1 h; have := hg; simp [gtD] at this; omega
                      generalize busF o = U at *
                      generalize busF xx = V at *
                      have hUV2 : decide (U < V) = false := decide_eq_false hUV
                      have E : Hid (CD = false) := Lib.hid (by rw [HCD.out, hg, decide_eq_true (show 0 < K by omega)]; rfl)
                      clear hg
                      go_quiet (fail)
                      go_wp2_with fail
                      go_meet
                      exact ⟨by rw [E.out], dd + nq, by first | rfl | exact World.drewN_drewN _ _ _⟩
              case rest =>
                obtain ⟨rfl, d, rfl⟩ := hcut
                cases CD with
                | true =>
                  have hh := HCD.out
                  obtain ⟨kp, hkp⟩ : ∃ kp, kp + 1 = K := ⟨K - 1, by
                    by_cases c : 0 < K
                    · omega
                    · rw [decide_eq_false c] at hh; cases hh⟩
                  have hstep : Hid (posD down out xx out.length = posD down out xx kp) := Lib.hid (by
                    rw [hpos.out]
                    subst hkp
                    have hg : gtD down (nth out kp) xx = true := by simpa using hh.symm
                    conv => lhs; unfold posD
                    rw [if_pos hg])
                  have z1 : (K : Int) - 1 = (kp : Int) := by omega
                  clear hh
                  go_wp2_with fail
                  go_roundg kp
                  case measure => have := HR3.out; omega
                  case rel => exact ⟨kp, d, by omega, rfl, rfl, rfl, hstep⟩
                | false =>
                  have hh := HCD.out
                  have HP : Hid (posD down out xx out.length = K) := Lib.hid (by
                    rw [hpos.out]
                    cases K with
                    | zero => rfl
                    | succ kp =>
                      have hg : gtD down (nth out kp) xx = false := by simpa using hh.symm
                      unfold posD
                      rw [if_neg (by rw [hg]; decide)])
                  have HINS : Hid (insD down out xx = out.take K ++ (xx : Int) :: out.drop K) := Lib.hid (by unfold insD; rw [HP.out])
                  have Z1 := Lib.hid (own_below P1.out (below_drewN (Below.refl wi.heap.size wi) d))
                  have Z2 := Lib.hid (own_below P2.out (below_drewN (Below.refl wi.heap.size wi) d))
                  have Z3 := Lib.hid (below_drewN P3.out d)
                  generalize wi.drewN d = wz at *
                  clear P1 P2 P3 hpos HP hh HCD HR3 g1
                  have hz' : w.heap.size ≤ wz.heap.size := Z3.out.size
                  have hkm : i + 1 ≤ maxLen := by unfold maxLen; omega
                  have hkb : (i + 1) * 8 ≤ 140737488355328 := by omega
                  have hne : Hid ((Value.slice ao i co).ownBlock ≠ some gt) := Lib.hid (by
                    rcases own_ne Z1.out Z2.out (by decide) with h | h
                    · rw [h]; simp
                    · exact h)
                  go_wp2_with (refine wpList_append_lies _ (by rfl) (.tmp 89) (.tmp 90) 43 (by rfl) w.heap.size 3 iv _ 1 8 Tryd.underlying43 hj hy0 hy1 hy2 rfl (by omega) (.slice ao i co) i (rc out) (by rfl) (Z1.out.alloc _) ⟨wz.heap.size, 0, none⟩ 1 1 [.int .i64 0] (by rfl) (by rfl) (World.news_of_block (cs := #[.int .i64 0]) (t := 3) (fr := (0, 0)) (heap_alloc_new wz _)) (by simp [Value.oneCell']) (by omega) hkm hkb (by simp; omega) (wz.heap.size + 1) (by simp) ?_)
                  intro gg cap1 w3 hown1 hgrow hat hlt1
                  have T1 : Hid (w3.ownsRow w.heap.size 3 1 (.slice (some ⟨gg, 0, none⟩) (i + 1) cap1) (i + 1) (rc (sh out i))) := Lib.hid (by
                    have := sh_start out
                    rw [HOUT.out] at this
                    rw [this]
                    simpa [rc] using hown1)
                  have T2 := Lib.hid ((Z2.out.alloc (.cells #[.int .i64 0] 3 (0, 0))).kept hgrow (.inr fun h => hne.out h.symm))
                  have T3 := Lib.hid ((Z3.out.alloc hz' (.cells #[.int .i64 0] 3 (0, 0))).grown hgrow (by simp; omega) (fun kk hk' => (Z1.out.lt kk hk').1))
                  have HNE2 : Hid (gg ≠ gt) := Lib.hid (by
                    rcases own_ne T1.out T2.out (by decide) with h | h
                    · cases h
                    · intro e; exact h (by rw [e]; rfl))
                  clear hown1 hgrow hat hlt1 Z1 Z2 Z3 hne hz'
                  go_wp2_with fail
                  go_loopg [11] (i - K) (fun r vj wr => ∃ J : Nat, K ≤ J ∧ J ≤ i ∧ r = J - K ∧ vj = .int .i64 J ∧ Hid (wr.ownsRow w.heap.size 3 1 (.slice (some ⟨gg, 0, none⟩) (i + 1) cap1) (i + 1) (rc (sh out J)) ∧ wr.ownsRow w.heap.size 2 1 (.slice (some ⟨gt, 0, none⟩) 20 ct) 20 (ncells (nums 20 busF)) ∧ Below w.heap.size w wr))
                  case atStart => exact ⟨i, hK, by omega, rfl, by first | rfl | simp, Lib.hid ⟨T1.out, T2.out, T3.out⟩⟩
                  case round =>
                    clear T1 T2 T3
                    obtain ⟨J, hJ1, hJ2, hr, rfl, hq⟩ := hrel
                    have HR4 := Lib.hid hr
                    have Y1 := Lib.hid hq.out.1
                    have Y2 := Lib.hid hq.out.2.1
                    have Y3 := Lib.hid hq.out.2.2
                    clear hr hq
                    have hgg := Y1.out.lt gg rfl
                    by_cases hlt3 : K < J
                    · obtain ⟨jp, hjp⟩ : ∃ jp, jp + 1 = J := ⟨J - 1, by omega⟩
                      have y1 : (K : Int) < (J : Int) := by omega
                      have y2 : (J : Int) - 1 = (jp : Int) := by omega
                      have y3 : jp < i + 1 := by omega
                      have y4 : J < i + 1 := by omega
                      have c1 : wr.cell? ⟨gg, jp, none⟩ = some (.int .i64 (nth out jp)) := by
                        rw [rc_at Y1.out (by rw [sh_len, HOUT.out]) jp y3, sh_at _ _ _ (by rw [HOUT.out]; omega), if_neg (by omega)]
                      have c2 : ∃ z, wr.cell? ⟨gg, J, none⟩ = some (.int .i64 z) := ⟨_, rc_at Y1.out (by rw [sh_len, HOUT.out]) J y4⟩
                      obtain ⟨z, c2⟩ := c2
                      have f2 : wr.frozen? ⟨gg, J, none⟩ = false := Y1.out.frozenAt J
                      have S1 : Hid ((wr.setCell ⟨gg, J, none⟩ (.int .i64 (nth out jp))).ownsRow w.heap.size 3 1 (.slice (some ⟨gg, 0, none⟩) (i + 1) cap1) (i + 1) (rc (sh out jp))) := Lib.hid (by
                        have := (Y1.out.stored J (.int .i64 (nth out jp))).1
                        rw [rc_set, ← hjp, sh_step _ _ (by rw [HOUT.out]; omega)] at this
                        rwa [hjp] at this)
                      have S2 := Lib.hid (ownsRow_setCell_other Y2.out (a := ⟨gg, J, none⟩) (by simp [Value.ownBlock]; exact fun h => HNE2.out h.symm) (.int .i64 (nth out jp)))
                      have S3 := Lib.hid (Y3.out.setCell (p := ⟨gg, J, none⟩) hgg.1 (.int .i64 (nth out jp)))
                      clear Y1 Y2 Y3
                      generalize nth out jp = q at *
                      go_wp2_with fail
                      go_roundg (jp - K)
                      case measure => rw [HR4.out]; omega
                      case rel => exact ⟨jp, by omega, by omega, rfl, by first | rfl | simp, Lib.hid ⟨S1.out, S2.out, S3.out⟩⟩
                    · obtain rfl : J = K := by omega
                      have g1 : wr.cell? ⟨b, off + i, none⟩ = some (.int .i64 (xx : Int)) := (Y3.out.cell (p := ⟨b, off + i, none⟩) hbz).trans G0.out
                      have y4 : J < i + 1 := by omega
                      have c2 : ∃ z, wr.cell? ⟨gg, J, none⟩ = some (.int .i64 z) := ⟨_, rc_at Y1.out (by rw [sh_len, HOUT.out]) J y4⟩
                      obtain ⟨z, c2⟩ := c2
                      have f2 : wr.frozen? ⟨gg, J, none⟩ = false := Y1.out.frozenAt J
                      have S1 : Hid ((wr.setCell ⟨gg, J, none⟩ (.int .i64 (xx : Int))).ownsRow w.heap.size 3 1 (.slice (some ⟨gg, 0, none⟩) (i + 1) cap1) (i + 1) (rc (accD down zs (i + 1)))) := Lib.hid (by
                        have := (Y1.out.stored J (.int .i64 (xx : Int))).1
                        rw [rc_set, sh_end _ _ _ (by rw [HOUT.out]; omega), ← HINS.out, ← HACC.out] at this
                        exact this)
                      have S2 := Lib.hid (ownsRow_setCell_other Y2.out (a := ⟨gg, J, none⟩) (by simp [Value.ownBlock]; exact fun h => HNE2.out h.symm) (.int .i64 (xx : Int)))
                      have S3 := Lib.hid (Y3.out.setCell (p := ⟨gg, J, none⟩) hgg.1 (.int .i64 (xx : Int)))
                      clear Y1 Y2 Y3
                      go_wp2_with fail
                      go_roundg (zs.length - (i + 1))
                      case measure => rw [HR2.out]; omega
                      case rel => exact ⟨i + 1, by omega, rfl, by first | rfl | simp, Lib.hid ⟨S1.out, S2.out, S3.out⟩⟩
          · obtain rfl : i = zs.length := by omega
            go_wp2_with fail
            go_ret2
            unfold errO resO
            rw [HOK.out]
            exact ⟨_, rfl, by rw [if_pos rfl, ordV_len, ← accD_all]; exact P1.out, P3.out⟩
end Go.Proofs.YtdhlmflbefnekaaDoor
