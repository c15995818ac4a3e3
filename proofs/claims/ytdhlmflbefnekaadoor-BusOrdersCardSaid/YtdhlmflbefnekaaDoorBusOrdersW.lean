/- The walk of BusOrders. -/
import Derived.Test.YtdhlmflbefnekaaDoorROrdC
import Derived.Laws.AppendOwnNone
import Derived.Outline
import Derived.OpenShut
namespace Go.Proofs.YtdhlmflbefnekaaDoor
open Go.RowKit Go.ChangeShapes Go.WideShapes
theorem Vars.mk {W : World} (h0 : Lib.TabIs Tryd.prog W "reveille/bus.table" .i64 busL) : busAt W := bus_mk h0
/-- 'append' of any list of numbers to an empty row of the call's own. -/
theorem wpList_copy {P : Program} {w : World} {ops : Array Oper} {rest : List Oper} {o : Oper} {a : Act} {Q : Exit → Act → World → Prop} (hgd : o.guard = none) (s x : Operand) (t : TypeId)
    (ho : o.op = .call { callee := .builtin .append, args := #[s, x], argTypes := #[t, t] })
    (base : Nat) (e : TypeId) (i : TypeInfo) (ht : P.underlying t = some (.slice e)) (hi : P.info? e = some i) (hz : i.zero = some (.int .i64 0)) (hsize : i.size = 1) (hby : i.bytes = 8)
    (v0 : Value) (hs : a.eval s = v0) (hown : w.ownsRow base e 1 v0 0 (rc [])) (v : Value) (zs : List Int) (hx : a.eval x = v) (hv : Ints .i64 w v zs) (hlen : zs.length ≤ 17592186044416) (hbase : base ≤ w.heap.size)
    (h : ∀ v' w', w'.ownsRow base e 1 v' zs.length (rc zs) → w.grownBy w' v0.ownBlock → wpList P ops Q rest (a.put o.dst v') w') : wpList P ops Q (o :: rest) a w := by
  obtain ⟨ad, cap, rfl, hm, hnil, hc⟩ := hv
  cases ad with
  | none =>
    obtain ⟨rfl, rfl⟩ := hnil rfl
    exact wpList_append_own_none hgd s x t ho base e i 1 ht hi v0 0 (rc []) hs hown hx (h v0 w hown (World.grownBy.refl w _))
  | some ad =>
    refine wpList_append_own w hgd s x t ho base e i (.int .i64 0) 1 8 ht hi hz hsize hby rfl (by decide) v0 0 (rc []) hs hown ad zs.length cap (rc zs) hx (by rw [rc_len, Nat.mul_one]) (fun j u hj => ?_) (rc_one zs) (by unfold maxLen at *; omega) (by omega) hbase (fun v' w' h1 h2 _ => h v' w' (by simpa [rc] using h1) h2)
    have hjl : j < zs.length := by
      have := (List.getElem?_eq_some_iff.1 hj).1
      rwa [rc_len] at this
    obtain ⟨b, off, hp, hcell⟩ := hc j hjl
    obtain rfl := Option.some.inj hp
    rw [addr_add, hcell]
    simp [rc, hjl, nth_eq hjl] at hj ⊢
    exact hj
set_option maxHeartbeats 1000000 in
theorem same_eq (v u : Value) (zs : List Int) (w : World) (hv : Ints .i64 w v zs) (hu : Ints .i64 w u zs) :
    Calls Tryd.prog 23 #[v, u] w fun e w' => e = .returned (.bool true) ∧ ∃ n, w' = w.drewN n := by
  obtain ⟨a, cap, rfl, hm, _, hc⟩ := hv
  obtain ⟨a', cap', rfl, _, _, hc'⟩ := hu
  have HC := Lib.hid hc
  have HC' := Lib.hid hc'
  clear hc hc'
  unfold maxLen at hm
  go_enter Tryd.func23, Tryd.ntmps23
  go_wp2_with fail
  go_loopg [5] zs.length (fun r i wr => ∃ k n : Nat, k ≤ zs.length ∧ r = zs.length - k ∧ i = .int .i64 k ∧ wr = w.drewN n)
  case atStart => exact ⟨0, 0, by omega, by omega, rfl, rfl⟩
  case round =>
    obtain ⟨k, n, hk, hr, rfl, rfl⟩ := hrel
    have HR := Lib.hid hr
    clear hr
    by_cases hlt : k < zs.length
    · obtain ⟨b, off, hp, g⟩ := HC.out k hlt
      obtain ⟨b', off', hp', g'⟩ := HC'.out k hlt
      subst hp hp'
      generalize nth zs k = z at *
      have ww : IntKind.i64.wrap (k : Int) = (k : Int) := by rw [IntKind.wrap_i64]; omega
      go_wp2_with fail
      go_quiet (fail)
      go_wp2_with fail
      go_roundg (zs.length - (k + 1))
      case measure => rw [HR.out]; omega
      case rel => exact ⟨k + 1, n + nq, by omega, rfl, by first | rfl | simp, by first | rfl | exact World.drewN_drewN _ _ _⟩
    · obtain rfl : k = zs.length := by omega
      go_wp2_with fail
      go_ret
      exact ⟨rfl, _, rfl⟩
theorem Ints.below {k : IntKind} {w w' : World} {v : Value} {zs : List Int} (h : Ints k w v zs) (hb : Below w.heap.size w w') : Ints k w' v zs := by
  obtain ⟨a, cap, he, g1, g2, g3⟩ := h
  refine ⟨a, cap, he, g1, g2, fun i hi => ?_⟩
  obtain ⟨b, off, h1, h2⟩ := g3 i hi
  exact ⟨b, off, h1, (hb.cell (p := ⟨b, off + i, none⟩) (World.block_lt_of_cell? w _ h2)).trans h2⟩
theorem own_drew {w : World} {B e n : Nat} {u : Value} {xs : List Value} (h : w.ownsRow B e 1 u n xs) (d : Nat) : (w.drewN d).ownsRow B e 1 u n xs := own_below h (below_drewN (Below.refl _ _) d)
/-- What the numbers are turned to. -/
def turned (z : Int) : Int := (z.tmod 20 + 21).tmod 20
theorem turned_bd (z : Int) : -20 < z.tmod 20 ∧ z.tmod 20 < 20 := ⟨Int.lt_tmod_of_pos z (by omega), Int.tmod_lt_of_pos z (by omega)⟩
set_option maxHeartbeats 8000000 in
set_option maxRecDepth 100000 in
theorem busOrders_walk {H : Type} {enc : TypeId × Value → H} (v : Value) (d : DataW H) (ps : List MemPlace) (down : Bool) (W : World)
    (h : DataW.Trod enc Tryd.prog W 0 (fun _ => true) true 43 v d ps) {base : Nat} (hok : Value.okWide Tryd.prog W .any base 43 v) (hw : ∀ n ∈ DataW.weights Tryd.prog 43 d, n ≤ reachBytes) (_ : W.ShapedOpen Tryd.prog) (hT : busAt W) :
    Calls Tryd.prog 5 #[v, .bool down] W fun e w' => e = .returned (.bool true) ∧ Below W.heap.size W w' := by
  obtain ⟨zs, hv, hsz, hwf⟩ := ints_arg (bytes := 8) Tryd.underlying43 Tryd.underlying3 (by kernel_rfl) (by kernel_rfl) hok h hw
  have hlen : zs.length ≤ 17592186044416 := by unfold reachBytes at hsz; omega
  have HV := Lib.hid hv
  have HT := Lib.hid hT
  obtain ⟨iv, hj, hy0, hy1, hy2⟩ := info_parts infoInt'
  have o0 : Hid ((W.alloc (.cells #[] 3)).ownsRow W.heap.size 3 1 (.slice (some ⟨W.heap.size, 0, none⟩) 0 0) 0 (rc [])) := Lib.hid (World.ownsRow_lit (w := W) #[] 0 (Nat.le_refl _) (by simp) rfl)
  have HV1 := Lib.hid (hv.below ((Below.refl W.heap.size W).alloc (Nat.le_refl _) (.cells #[] 3)))
  have hmx : zs.length ≤ maxLen := by unfold maxLen; omega
  clear hv hT h hok hw hsz hwf
  go_enter Tryd.func5, Tryd.ntmps5
  go_wp2_with (refine wpList_copy (by rfl) (.tmp 14) (.tmp 15) 43 (by rfl) W.heap.size 3 iv Tryd.underlying43 hj hy0 hy1 hy2 (.slice (some ⟨W.heap.size, 0, none⟩) 0 0) (by rfl) o0.out v zs (by rfl) HV1.out hlen (by rw [size_alloc]; exact Nat.le_succ _) ?_)
  intro vi w1 hown hgrow
  have I1 := Lib.hid hown
  have HW1 : Hid (W.heap.size ≤ w1.heap.size) := Lib.hid (by have := hgrow.size; rw [size_alloc] at this; omega)
  have LI := Lib.hid (fun g hg => (hown.lt g hg).2)
  have B1 := Lib.hid (((Below.refl W.heap.size W).alloc (Nat.le_refl _) (.cells #[] 3)).grown hgrow (by rw [size_alloc]; exact Nat.le_succ _) (fun k hk => by simp [Value.ownBlock] at hk; omega))
  clear hown hgrow o0 HV1
  go_wp2_with fail
  refine (order_any vi zs down w1 (ints_of_own I1.out rfl hmx) hlen (HT.out.grown B1.out)).mono ?_
  rintro e w2 ⟨ua, rfl, hua, hb⟩
  have A2 := Lib.hid hua
  have LA := Lib.hid (fun g hg => hua.lt g hg)
  have B2 := Lib.hid (B1.out.trans (hb.mono B1.out.size))
  have I2 := Lib.hid (own_below I1.out hb)
  have s1 : w1.heap.size ≤ w2.heap.size := hb.size
  clear hua hb I1
  go_wp2_with fail
  refine (order_any vi zs down w2 (ints_of_own I2.out rfl hmx) hlen (HT.out.grown B2.out)).mono ?_
  rintro e w3 ⟨ub, rfl, hub, hb⟩
  have U3 := Lib.hid hub
  have LU := Lib.hid (fun g hg => (hub.lt g hg).1)
  have A3 := Lib.hid (own_below A2.out hb)
  have B3 := Lib.hid (B2.out.trans (hb.mono B2.out.size))
  have I3 := Lib.hid (own_below I2.out hb)
  have s2 : w2.heap.size ≤ w3.heap.size := hb.size
  clear hub hb A2
  go_wp2_with fail
  refine (rorder_any v zs down w3 (HV.out.below B3.out)).mono ?_
  rintro e w4 ⟨uw, rfl, huw, hb⟩
  have W4 := Lib.hid huw
  have U4 := Lib.hid (own_below U3.out hb)
  have A4 := Lib.hid (own_below A3.out hb)
  have B4 := Lib.hid (B3.out.trans (hb.mono B3.out.size))
  have I4 := Lib.hid (own_below I3.out hb)
  have s3 : w3.heap.size ≤ w4.heap.size := hb.size
  have LW := Lib.hid (fun g hg => (huw.lt g hg).1)
  clear huw hb U3 A3 I3 B3 B2 B1 I2
  have hmr : (resO down zs).length ≤ maxLen := by
    unfold resO
    split
    · rw [ordV_len]; exact hmx
    · simp
  generalize resO down zs = R at *
  have hmr2 : R.length ≤ 9223372036854775807 := by unfold maxLen at hmr; omega
  go_wp2_with fail
  refine (same_eq ua uw R w4 (ints_of_own A4.out rfl hmr) (ints_of_own W4.out rfl hmr)).mono ?_
  rintro e w' ⟨rfl, n1, rfl⟩
  go_wp2_with fail
  refine (same_eq vi v zs _ (ints_of_own (own_drew I4.out n1) rfl hmx) (HV.out.below (below_drewN B4.out n1))).mono ?_
  rintro e w' ⟨rfl, n2, rfl⟩
  have I5 := Lib.hid (own_drew (own_drew I4.out n1) n2)
  have A5 := Lib.hid (own_drew (own_drew A4.out n1) n2)
  have U5 := Lib.hid (own_drew (own_drew U4.out n1) n2)
  have W5 := Lib.hid (own_drew (own_drew W4.out n1) n2)
  have B5 := Lib.hid (below_drewN (below_drewN B4.out n1) n2)
  clear I4 A4 U4 W4 B4
  generalize (w4.drewN n1).drewN n2 = w5 at *
  obtain ⟨au, ac, rfl⟩ := own_slice A5.out
  go_wp2_with fail
  go_loopg [12] R.length (fun r vk wr => ∃ (k : Nat) (xs : List Int), k ≤ R.length ∧ r = R.length - k ∧ vk = .int .i64 k ∧ xs.length = R.length ∧ Hid (wr.ownsRow w1.heap.size 3 1 (.slice au R.length ac) R.length (rc xs) ∧ wr.ownsRow W.heap.size 3 1 vi zs.length (rc zs) ∧ wr.ownsRow w2.heap.size 3 1 ub R.length (rc R) ∧ wr.ownsRow w3.heap.size 3 1 uw R.length (rc R) ∧ Below W.heap.size W wr))
  case atStart => exact ⟨0, R, by omega, by omega, rfl, rfl, Lib.hid ⟨A5.out, I5.out, U5.out, W5.out, B5.out⟩⟩
  case round =>
    clear A5 I5 U5 W5 B5
    obtain ⟨k, xs, hk, hr, rfl, hxs, hq⟩ := hrel
    have HR := Lib.hid hr
    have A := Lib.hid hq.out.1
    have I := Lib.hid hq.out.2.1
    have U := Lib.hid hq.out.2.2.1
    have X := Lib.hid hq.out.2.2.2.1
    have B := Lib.hid hq.out.2.2.2.2
    clear hr hq
    by_cases hlt : k < R.length
    · obtain ⟨ga, ac', hform, _, _⟩ := A.out.form (by omega)
      obtain ⟨rfl, rfl⟩ : au = some ⟨ga, 0, none⟩ ∧ ac = ac' := by
        simp only [Value.slice.injEq] at hform
        exact ⟨hform.1, hform.2.2⟩
      have hga := LA.out ga rfl
      have c1 : wr.cell? ⟨ga, k, none⟩ = some (.int .i64 (nth xs k)) := rc_at A.out hxs k hlt
      have f1 : wr.frozen? ⟨ga, k, none⟩ = false := A.out.frozenAt k
      have S1 : Hid ((wr.setCell ⟨ga, k, none⟩ (.int .i64 (-5))).ownsRow w1.heap.size 3 1 (.slice (some ⟨ga, 0, none⟩) R.length ac) R.length (rc (xs.set k (-5)))) := Lib.hid (by
        have := (A.out.stored k (.int .i64 (-5))).1
        rwa [rc_set] at this)
      have S2 := Lib.hid (ownsRow_setCell_other I.out (a := ⟨ga, k, none⟩) (fun h => by have := LI.out ga h; omega) (.int .i64 (-5)))
      have S3 := Lib.hid (ownsRow_setCell_other U.out (a := ⟨ga, k, none⟩) (fun h => by have := LU.out ga h; omega) (.int .i64 (-5)))
      have S4 := Lib.hid (ownsRow_setCell_other X.out (a := ⟨ga, k, none⟩) (fun h => by have := LW.out ga h; omega) (.int .i64 (-5)))
      have S5 := Lib.hid (B.out.setCell (p := ⟨ga, k, none⟩) (by have h1 := HW1.out; have h2 := hga.1; show W.heap.size ≤ ga; omega) (.int .i64 (-5)))
      clear A I U X B hform
      go_wp2_with fail
      go_roundg (R.length - (k + 1))
      case measure => rw [HR.out]; omega
      case rel => exact ⟨k + 1, xs.set k (-5), by omega, rfl, by first | rfl | simp, by rw [List.length_set]; exact hxs, Lib.hid ⟨S1.out, S2.out, S3.out, S4.out, S5.out⟩⟩
    · obtain rfl : k = R.length := by omega
      clear A HR
      go_wp2_with fail
      refine (same_eq ub uw R wr (ints_of_own U.out rfl hmr) (ints_of_own X.out rfl hmr)).mono ?_
      rintro e w' ⟨rfl, n3, rfl⟩
      have I5 := Lib.hid (own_drew I.out n3)
      have B5 := Lib.hid (below_drewN B.out n3)
      clear I U X B
      generalize wr.drewN n3 = w6 at *
      obtain ⟨ai, ci, rfl⟩ := own_slice I5.out
      have HTL : Hid ((zs.map turned).length = zs.length) := Lib.hid (by simp)
      have HTA : Hid (∀ j, j < zs.length → nth (zs.map turned) j = turned (nth zs j)) := Lib.hid (fun j hj => by simp [nth, List.getD, hj])
      obtain ⟨T, hT⟩ : ∃ T, T = zs.map turned := ⟨_, rfl⟩
      rw [← hT] at HTL HTA
      clear hT
      go_wp2_with fail
      go_loopg [13] zs.length (fun r vk wr => ∃ (k : Nat), k ≤ zs.length ∧ r = zs.length - k ∧ vk = .int .i64 k ∧ Hid (wr.ownsRow W.heap.size 3 1 (.slice ai zs.length ci) zs.length (rc (mix zs T k)) ∧ Below W.heap.size W wr))
      case atStart => exact ⟨0, by omega, by omega, rfl, Lib.hid ⟨by rw [mix_zero]; exact I5.out, B5.out⟩⟩
      case round =>
        clear I5 B5
        obtain ⟨k, hk, hr, rfl, hq⟩ := hrel
        have HR := Lib.hid hr
        have I := Lib.hid hq.out.1
        have B := Lib.hid hq.out.2
        clear hr hq
        by_cases hlt : k < zs.length
        · obtain ⟨gi, ci', hform, hgi, _⟩ := I.out.form (by omega)
          obtain ⟨rfl, rfl⟩ : ai = some ⟨gi, 0, none⟩ ∧ ci = ci' := by
            simp only [Value.slice.injEq] at hform
            exact ⟨hform.1, hform.2.2⟩
          have c1 : wr.cell? ⟨gi, k, none⟩ = some (.int .i64 (nth zs k)) := by
            have := rc_at I.out (by rw [mix_len _ _ HTL.out k hk]) k hlt
            rwa [mix_at _ _ HTL.out k k hk, if_neg (by omega)] at this
          have f1 : wr.frozen? ⟨gi, k, none⟩ = false := I.out.frozenAt k
          obtain ⟨t, ht⟩ : ∃ t, t = nth T k := ⟨_, rfl⟩
          have S1 : Hid ((wr.setCell ⟨gi, k, none⟩ (.int .i64 t)).ownsRow W.heap.size 3 1 (.slice (some ⟨gi, 0, none⟩) zs.length ci) zs.length (rc (mix zs T (k + 1)))) := Lib.hid (by
            have := (I.out.stored k (.int .i64 t)).1
            rw [rc_set, ht, mix_set _ _ HTL.out k hlt] at this
            rw [ht]; exact this)
          have S5 := Lib.hid (B.out.setCell (p := ⟨gi, k, none⟩) hgi (.int .i64 t))
          rw [HTA.out k hlt] at ht
          generalize nth zs k = z at *
          have zb := turned_bd z
          unfold turned at ht
          obtain ⟨r, hr20⟩ : ∃ r, z.tmod 20 = r := ⟨_, rfl⟩
          rw [hr20] at zb ht
          clear I B hform
          have ht2 : (r + 21).tmod 20 = t := ht.symm
          clear ht
          go_wp2_with fail
          go_roundg (zs.length - (k + 1))
          case measure => rw [HR.out]; omega
          case rel => exact ⟨k + 1, by omega, rfl, by first | rfl | simp, Lib.hid ⟨S1.out, S5.out⟩⟩
        · obtain rfl : k = zs.length := by omega
          have I' : Hid (wr.ownsRow W.heap.size 3 1 (.slice ai zs.length ci) T.length (rc T)) := Lib.hid (by
            have := I.out
            rw [mix_all _ _ HTL.out] at this
            rwa [HTL.out])
          have hTm : T.length ≤ maxLen := by rw [HTL.out]; exact hmx
          have hTl : T.length ≤ 17592186044416 := by rw [HTL.out]; exact hlen
          obtain ⟨wq, hwq⟩ : ∃ wq, wq = wr := ⟨_, rfl⟩
          subst hwq
          have o0 : Hid ((wq.alloc (.cells #[] 3)).ownsRow wq.heap.size 3 1 (.slice (some ⟨wq.heap.size, 0, none⟩) 0 0) 0 (rc [])) := Lib.hid (World.ownsRow_lit (w := wq) #[] 0 (Nat.le_refl _) (by simp) rfl)
          have IV := Lib.hid ((ints_of_own I'.out rfl hTm).below ((Below.refl wq.heap.size wq).alloc (Nat.le_refl _) (.cells #[] 3)))
          clear I HTA
          go_wp2_with (refine wpList_copy (by rfl) (.tmp 80) (.tmp 81) 43 (by rfl) wq.heap.size 3 iv Tryd.underlying43 hj hy0 hy1 hy2 (.slice (some ⟨wq.heap.size, 0, none⟩) 0 0) (by rfl) o0.out (.slice ai zs.length ci) T (by rfl) IV.out hTl (by rw [size_alloc]; exact Nat.le_succ _) ?_)
          intro vc w7 hown hgrow
          have C7 := Lib.hid hown
          have hb7 : Below wq.heap.size wq w7 := ((Below.refl wq.heap.size wq).alloc (Nat.le_refl _) (.cells #[] 3)).grown hgrow (by rw [size_alloc]; exact Nat.le_succ _) (fun k hk => by simp [Value.ownBlock] at hk; omega)
          have B7 := Lib.hid (B.out.trans (hb7.mono B.out.size))
          have I7 := Lib.hid (own_below I'.out hb7)
          clear hown hgrow o0 IV I' B hb7
          go_wp2_with fail
          refine (rorder_any vc T (!down) w7 (ints_of_own C7.out rfl hTm)).mono ?_
          rintro e w8 ⟨ux, rfl, hux, hb⟩
          have X8 := Lib.hid hux
          have B8 := Lib.hid (B7.out.trans (hb.mono B7.out.size))
          have I8 := Lib.hid (own_below I7.out hb)
          clear hux hb C7 B7 I7
          go_wp2_with fail
          refine (order_any (.slice ai zs.length ci) T (!down) w8 (ints_of_own I8.out rfl hTm) hTl (HT.out.grown B8.out)).mono ?_
          rintro e w9 ⟨uy, rfl, huy, hb⟩
          have Y9 := Lib.hid huy
          have B9 := Lib.hid (B8.out.trans (hb.mono B8.out.size))
          have X9 := Lib.hid (own_below X8.out hb)
          have hmr : (resO (!down) T).length ≤ maxLen := by
            unfold resO
            split
            · rw [ordV_len]; exact hTm
            · simp
          clear huy hb X8 B8 I8
          generalize resO (!down) T = R2 at *
          go_wp2_with fail
          refine (same_eq uy ux R2 w9 (ints_of_own Y9.out rfl hmr) (ints_of_own X9.out rfl hmr)).mono ?_
          rintro e w' ⟨rfl, n4, rfl⟩
          go_wp2_with fail
          go_ret
          exact ⟨rfl, below_drewN B9.out n4⟩
end Go.Proofs.YtdhlmflbefnekaaDoor
