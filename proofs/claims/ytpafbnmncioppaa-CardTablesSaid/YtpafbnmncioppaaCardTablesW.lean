/- The walk of CardTables. -/
import Derived.Test.YtpafbnmncioppaaGivenC
import Derived.Test.YtpafbnmncioppaaREntryC
import Derived.Test.YtpafbnmncioppaaFamM
import Derived.Outline
import Derived.OpenShut
namespace Go.Proofs.Ytpafbnmncioppaa
open Go.RowKit Go.ChangeShapes Go.WideShapes
theorem infoRR : (Try.prog.info? 31).map (fun i => (i.zero, i.size, i.bytes)) = some (some (.agg #[.int .i64 0, .slice none 0 0]), 2, 32) := by kernel_rfl
theorem wpList_copy_if {P : Program} {w : World} {ops : Array Oper} {o : Oper} {a : Act} {rest : List Oper} {Q : Exit → Act → World → Prop} (hgd : Region.wanted o (yielded ops a.tmps) = true) (s x : Operand) (t : TypeId)
    (ho : o.op = .call { callee := .builtin .append, args := #[s, x], argTypes := #[t, t] })
    (base : Nat) (e : TypeId) (i : TypeInfo) (ht : P.underlying t = some (.slice e)) (hi : P.info? e = some i) (hz : i.zero = some (.int .i64 0)) (hsize : i.size = 1) (hby : i.bytes = 8)
    (g0 c0 : Nat) (hs : a.eval s = .slice (some ⟨g0, 0, none⟩) 0 c0) (hown : w.ownsRow base e 1 (.slice (some ⟨g0, 0, none⟩) 0 c0) 0 (rc [])) (v : Value) (zs : List Int) (hx : a.eval x = v) (hv : Ints .i64 w v zs) (hlen : zs.length ≤ 17592186044416) (hbase : base ≤ w.heap.size) (H : Nat) (hH : w.heap.size = H)
    (h : ∀ g cap w', w'.ownsRow base e 1 (.slice (some ⟨g, 0, none⟩) zs.length cap) zs.length (rc zs) → w.grownBy w' (some g0) → (g = g0 ∨ g = H) → g < w'.heap.size → wpList P ops Q rest (a.put o.dst (.slice (some ⟨g, 0, none⟩) zs.length cap)) w') :
    wpList P ops Q (o :: rest) a w :=
  wpList_step fun K hK => by
    rw [if_pos hgd]
    exact wp_copy s x t ho base e i ht hi hz hsize hby g0 c0 hs hown v zs hx hv hlen hbase H hH fun g cap w' h1 h2 h3 h4 => hK _ _ (h g cap w' h1 h2 h3 h4)
theorem tabs_at {w : World} {B t : Nat} {f : Nat → Int} {V : Nat → Value} {Z Z0 : Nat → List Int} {n : Nat} {vi : Value} {gs : List (Value × List Int)} (A : w.ownsRow B t 2 vi n (tcells (tabl f V Z0 n))) (F : Fam w B 2 (rows V Z n ++ gs)) (hn : n ≤ maxLen) (hZ : ∀ i, i < n → (Z i).length ≤ maxLen) : Tabs w vi (saidF f Z n) := by
  have := tabs_own (l := tabl f V Z n) (e := 2) (by rw [tabl_len, tabl_cells f V Z Z0]; exact A) (by rw [tabl_rows]; exact F.left) (by rw [tabl_len]; exact hn) (fun r hr => by
    obtain ⟨j, hj, rfl⟩ := List.mem_map.1 hr
    exact hZ j (List.mem_range.1 hj))
  rwa [saidF_tabl] at this
theorem said_self (rs : List (Int × List Int)) : saidF (rF rs) (rO rs) rs.length = rs := by
  apply List.ext_getElem (by rw [saidF_len])
  intro i h1 h2
  simp [saidF, r_at h2]
set_option maxHeartbeats 16000000 in
set_option maxRecDepth 100000 in
theorem cardTables_walk {H : Type} {enc : TypeId × Value → H} (i base step : Int) (v : Value) (d : DataW H) (ps : List MemPlace) (u : Value) (d2 : DataW H) (ps2 : List MemPlace) (W : World)
    (hwi : (Lit.int .i64 i).wf = true) (_ : (Lit.int .i64 base).wf = true) (_ : (Lit.int .i64 step).wf = true)
    (h : DataW.Trod enc Try.prog W 0 (fun _ => true) true 22 v d ps) {base1 : Nat} (hok : Value.okWide Try.prog W .any base1 22 v) (hw : ∀ n ∈ DataW.weights Try.prog 22 d, n ≤ reachBytes)
    (h2 : DataW.Trod enc Try.prog W 0 (fun _ => true) true 23 u d2 ps2) {base2 : Nat} (hok2 : Value.okWide Try.prog W .any base2 23 u) (hw2 : ∀ n ∈ DataW.weights Try.prog 23 d2, n ≤ reachBytes) (_ : W.ShapedOpen Try.prog) :
    Calls Try.prog 3 #[.int .i64 i, .int .i64 base, .int .i64 step, v, u] W fun e w' => e = .returned (.bool true) ∧ Below W.heap.size W w' := by
  obtain ⟨rs, hv, hsz, hR⟩ := tabs_arg Try.underlying22 Try.underlying31 (by kernel_rfl) rfl rfl (by kernel_rfl) (by kernel_rfl) rfl rfl Try.underlying2 Try.underlying23 (by kernel_rfl) (by kernel_rfl) (by kernel_rfl) hok h hw
  obtain ⟨zs, hu, hsz2, _⟩ := ints_arg (bytes := 8) Try.underlying23 Try.underlying2 (by kernel_rfl) (by kernel_rfl) hok2 h2 hw2
  have hr1 : rs.length ≤ 4398046511000 := by unfold reachBytes at hsz; omega
  have hlen : zs.length ≤ 17592186044416 := by unfold reachBytes at hsz2; omega
  have hO : ∀ k, k < rs.length → (rO rs k).length ≤ 17592186044416 := fun k hk => by have := (hR k hk).2.1; unfold reachBytes at this; omega
  have hi1 : i ≤ 9223372036854775807 := by
    have : -9223372036854775808 ≤ i ∧ i ≤ 9223372036854775807 := by simpa [Lit.wf, IntKind.min, IntKind.max, IntKind.bits, IntKind.signed] using hwi
    omega
  have HV := Lib.hid hv
  have HU := Lib.hid hu
  have HO := Lib.hid hO
  have HI1 := Lib.hid hi1
  obtain ⟨ir, hi, hz0, hz1, hz2⟩ := info_parts infoRR
  obtain ⟨ii, hj, hy0, hy1, hy2⟩ := info_parts infoI
  clear h hok hw hsz hR h2 hok2 hw2 hsz2 hwi hv hu hO hi1
  go_enter Try.func3, Try.ntmps3
  go_wp2_with fail
  refine (given_any v rs W HV.out hr1 HO.out).mono ?_
  rintro e w1 ⟨vi, L, rfl, hsaid, hown, hfam, hb⟩
  have hLl : L.length = rs.length := by rw [← hsaid, said_len]
  obtain ⟨V, hV⟩ : ∃ V : Nat → Value, V = fun i => (L.getD i (0, .bool false, [])).2.1 := ⟨_, rfl⟩
  have hLt : L = tabl (rF rs) V (rO rs) rs.length := by rw [hV, ← hsaid, said_len]; exact tabl_of L
  rw [hLl, hLt] at hown
  rw [hLt, tabl_rows] at hfam
  clear hV hsaid hLl hLt L
  have o0 : Hid ((w1.alloc (.cells #[] 2)).ownsRow W.heap.size 2 1 (.slice (some ⟨w1.heap.size, 0, none⟩) 0 0) 0 (rc [])) := Lib.hid (World.ownsRow_lit (w := w1) #[] 0 hb.size (by simp) rfl)
  have B1 := Lib.hid (hb.alloc hb.size (.cells #[] 2))
  have U1 := Lib.hid (HU.out.below B1.out)
  have A1 := Lib.hid hown
  have F1 := Lib.hid hfam
  have s1 : W.heap.size ≤ w1.heap.size := hb.size
  have sa : Hid (W.heap.size ≤ (w1.alloc (.cells #[] 2)).heap.size) := Lib.hid B1.out.size
  clear hown hfam hb
  go_wp2_with (refine wpList_copy (by rfl) (.tmp 19) (.tmp 20) 23 (by rfl) W.heap.size 2 ii Try.underlying23 hj hy0 hy1 hy2 w1.heap.size 0 (by rfl) o0.out u zs (by rfl) U1.out hlen sa.out (w1.heap.size + 1) (by simp) ?_)
  intro gs cs w2 hs2 hgrow hat hlt2
  have hgs : w1.heap.size ≤ gs := by rcases hat with rfl | rfl <;> omega
  have A2 := Lib.hid ((A1.out.alloc (.cells #[] 2)).kept hgrow (.inr fun h => by have := (A1.out.lt _ h).2; omega))
  have B2 := Lib.hid (B1.out.grown hgrow sa.out (fun k hk => by simp at hk; omega))
  have F2 : Hid (Fam w2 W.heap.size 2 (rows V (Zk rs 0 0) rs.length ++ [(.slice (some ⟨gs, 0, none⟩) zs.length cs, zs)])) := Lib.hid (by
    rw [show Zk rs 0 0 = rO rs from funext (zk_zero rs)]
    refine Fam.add (F1.out.to fun v n xs hv h => ((h.alloc (.cells #[] 2)).kept hgrow (.inr fun e => by have := (h.lt _ e).2; omega))) hs2 (by simp [Value.ownBlock]) (fun f hf e => ?_)
    have := ((F1.out.1 f hf).1.lt gs (by rw [e]; rfl)).2
    omega)
  clear hs2 hgrow hat A1 B1 F1 o0 U1
  have hrm : rs.length ≤ maxLen := by unfold maxLen; omega
  have hzm : zs.length ≤ maxLen := by unfold maxLen; omega
  have HOm : Hid (∀ i, i < rs.length → (rO rs i).length ≤ maxLen) := Lib.hid (fun i hi => by have := HO.out i hi; unfold maxLen; omega)
  have T2 : Hid (Tabs w2 vi rs) := Lib.hid (by
    have := tabs_at A2.out F2.out hrm (fun i hi => by rw [zk_zero]; exact HOm.out i hi)
    rwa [show Zk rs 0 0 = rO rs from funext (zk_zero rs), said_self] at this)
  have s2 : W.heap.size ≤ w2.heap.size := B2.out.size
  go_wp2_with fail
  refine (entry_any vi rs i base step w2 T2.out HI1.out HO.out).mono ?_
  rintro e w3 ⟨rfl, hb⟩
  have A3 := Lib.hid (own_below A2.out hb)
  have F3 := Lib.hid (F2.out.below hb)
  have B3 := Lib.hid (B2.out.trans (hb.mono s2))
  have s3 : W.heap.size ≤ w3.heap.size := B3.out.size
  clear A2 F2 B2 T2 hb
  go_wp2_with fail
  refine (rentry_any v rs i base step w3 (HV.out.below B3.out) HI1.out HO.out).mono ?_
  rintro e w4 ⟨rfl, hb⟩
  have A4 := Lib.hid (own_below A3.out hb)
  have F4 := Lib.hid (F3.out.below hb)
  have B4 := Lib.hid (B3.out.trans (hb.mono s3))
  clear A3 F3 B3 hb
  generalize entV i base step rs = E1
  go_wp2_with fail
  refine (sum_any (.slice (some ⟨gs, 0, none⟩) zs.length cs) zs w4 (ints_own (F4.out.1 _ (List.mem_append_right _ (List.mem_singleton.2 rfl))).1 hzm)).mono ?_
  rintro e w' ⟨rfl, rfl⟩
  go_wp2_with fail
  refine (rsum_any u zs w4 (HU.out.below B4.out)).mono ?_
  rintro e w' ⟨rfl, rfl⟩
  generalize sumP zs = E2
  have hiv := own_slice A4.out
  obtain ⟨ai, ci, rfl⟩ := hiv
  have hv' := HV.out
  obtain ⟨av, cv, rfl, _, _, hcv⟩ := hv'
  have HC := Lib.hid hcv
  have hu' := HU.out
  obtain ⟨au, cu, rfl, _, _, hcu⟩ := hu'
  have HCU := Lib.hid hcu
  unfold maxLen at hrm hzm
  clear hcv hcu
  go_wp2_with fail
  go_loopg [13, 14] rs.length (fun r vn vk wr => ∃ (k : Nat) (N : List (Int × Value × List Int)), k ≤ rs.length ∧ r = rs.length - k ∧ vk = .int .i64 k ∧ Hid (N.length = k ∧ said N = saidF (rF rs) (Zk rs k 0) k ∧ wr.ownsRow W.heap.size 31 2 vn k (tcells N) ∧ wr.ownsRow W.heap.size 30 2 (.slice ai rs.length ci) rs.length (tcells (tabl (rF rs) V (rO rs) rs.length)) ∧ Fam wr W.heap.size 2 (rows V (Zk rs k 0) rs.length ++ (.slice (some ⟨gs, 0, none⟩) zs.length cs, zs) :: N.map fun r => r.2) ∧ Below W.heap.size W wr))
  case atStart => exact ⟨0, [], by omega, by omega, rfl, Lib.hid ⟨rfl, rfl, World.ownsRow_nil _ _ _ _, A4.out, F4.out, B4.out⟩⟩
  case round =>
    clear A4 F4 B4
    obtain ⟨k, N, hk, hr, rfl, hq⟩ := hrel
    obtain ⟨q0, q1, q2, q3, q4, q5⟩ := hq.out
    have NL := Lib.hid q0
    have NS := Lib.hid q1
    have Nn := Lib.hid q2
    have A := Lib.hid q3
    have F := Lib.hid q4
    have B := Lib.hid q5
    have HR := Lib.hid hr
    clear q0 q1 q2 q3 q4 q5 hr hq
    by_cases hlt : k < rs.length
    · obtain ⟨gi, ci', hform, hgi, hgi2⟩ := A.out.form (by omega)
      obtain ⟨rfl, rfl⟩ : ai = some ⟨gi, 0, none⟩ ∧ ci = ci' := by
        simp only [Value.slice.injEq] at hform
        exact ⟨hform.1, hform.2.2⟩
      clear hform
      obtain ⟨b, off, u0, hp, g0, g1, g2⟩ := HC.out k hlt
      subst hp
      have hbz : b < W.heap.size := World.block_lt_of_cell? W _ g0
      have HB := Lib.hid hbz
      have HI := Lib.hid g2
      obtain ⟨a', cap', rfl, _, _, hc'⟩ := g2
      have HC' := Lib.hid hc'
      have G1 := Lib.hid g1
      have d0 : wr.cell? ⟨b, off + k * 2, none⟩ = some (.int .i64 (rF rs k)) := (B.out.cell (p := ⟨b, off + k * 2, none⟩) hbz).trans g0
      have d1 : wr.cell? ⟨b, off + k * 2 + 1, none⟩ = some (.slice a' (rO rs k).length cap') := (B.out.cell (p := ⟨b, off + k * 2 + 1, none⟩) hbz).trans g1
      obtain ⟨rk1, rk2⟩ := F.out.1 (V k, Zk rs k 0 k) (List.mem_append_left _ (rows_mem hlt))
      obtain ⟨qk, ck, hVk, hqk, hqk2⟩ := own_form rk1 rk2
      have hzl : (Zk rs k 0 k).length = (rO rs k).length := zk_len _ _ _ _ (by omega)
      dsimp only at hVk
      rw [hzl] at hVk
      have HVk := Lib.hid hVk
      have HX := Lib.hid (tabl_at (rF rs) V (rO rs) hlt)
      have c0 : wr.cell? ⟨gi, k * 2, none⟩ = some (.int .i64 (rF rs k)) := (A.out.cellAt _ (by omega)).trans HX.out.1
      have c1 : wr.cell? ⟨gi, k * 2 + 1, none⟩ = some (.slice (some ⟨qk, 0, none⟩) (rO rs k).length ck) := (A.out.cellAt _ (by omega)).trans (by rw [HX.out.2, hVk])
      have hO1 := HO.out k hlt
      clear g0 g1 hbz hc' rk1 rk2 hVk hzl
      go_wp2_with fail
      go_quiet (fail)
      go_wp2_with fail
      have G0 := Lib.hid d0
      clear c0 c1 d0 d1
      go_loopg [15] (rO rs k).length (fun r vj wq => ∃ (j : Nat), j ≤ (rO rs k).length ∧ r = (rO rs k).length - j ∧ vj = .int .i64 j ∧ Hid (wq.ownsRow W.heap.size 31 2 u13 k (tcells N) ∧ wq.ownsRow W.heap.size 30 2 (.slice (some ⟨gi, 0, none⟩) rs.length ci) rs.length (tcells (tabl (rF rs) V (rO rs) rs.length)) ∧ Fam wq W.heap.size 2 (rows V (Zk rs k j) rs.length ++ (.slice (some ⟨gs, 0, none⟩) zs.length cs, zs) :: N.map fun r => r.2) ∧ Below W.heap.size W wq))
      case atStart => exact ⟨0, by omega, by omega, rfl, Lib.hid ⟨own_below Nn.out (below_drewN (Below.refl _ _) _), own_below A.out (below_drewN (Below.refl _ _) _), F.out.below (below_drewN (Below.refl _ _) _), below_drewN B.out _⟩⟩
      case round =>
        clear Nn A F B
        obtain ⟨j, hjl, hr, rfl, hq⟩ := hrel
        have Nn := Lib.hid hq.out.1
        have A := Lib.hid hq.out.2.1
        have F := Lib.hid hq.out.2.2.1
        have B := Lib.hid hq.out.2.2.2
        have HR2 := Lib.hid hr
        clear hr hq
        have hbz := HB.out
        have d1 : wr.cell? ⟨b, off + k * 2 + 1, none⟩ = some (.slice a' (rO rs k).length cap') := (B.out.cell (p := ⟨b, off + k * 2 + 1, none⟩) hbz).trans G1.out
        have c1 : wr.cell? ⟨gi, k * 2 + 1, none⟩ = some (.slice (some ⟨qk, 0, none⟩) (rO rs k).length ck) := (A.out.cellAt _ (by omega)).trans (by rw [HX.out.2, HVk.out])
        obtain ⟨rk1, rk2⟩ := F.out.1 (V k, Zk rs k j k) (List.mem_append_left _ (rows_mem hlt))
        dsimp only at rk1
        rw [HVk.out, zk_len _ _ _ _ hjl] at rk1
        by_cases hlj : j < (rO rs k).length
        · obtain ⟨b2, off2, hp2, g3⟩ := HC'.out j hlj
          subst hp2
          have hb2 : b2 < W.heap.size := World.block_lt_of_cell? W _ g3
          have d2 : wr.cell? ⟨b2, off2 + j, none⟩ = some (.int .i64 (nth (rO rs k) j)) := (B.out.cell (p := ⟨b2, off2 + j, none⟩) hb2).trans g3
          have e0 : wr.cell? ⟨qk, j, none⟩ = some (.int .i64 (nth (rO rs k) j)) := by
            have := rc_at rk1 (zk_len _ _ _ _ hjl) j hlj
            rwa [zk_here, mix_at _ _ (by simp) _ _ hjl, if_neg (by omega)] at this
          have f0 : wr.frozen? ⟨qk, j, none⟩ = false := rk1.frozenAt j
          obtain ⟨z, hz⟩ : ∃ z, nth (rO rs k) j = z := ⟨_, rfl⟩
          obtain ⟨m1, hm1⟩ : ∃ m, wrap64 (3 * z) = m := ⟨_, rfl⟩
          obtain ⟨m2, hm2⟩ : ∃ m, wrap64 (m1 + 1) = m := ⟨_, rfl⟩
          have hT : Hid (nth ((rO rs k).map tw) j = m2) := Lib.hid (by
            rw [← hm2, ← hm1, ← hz]
            simp [nth, List.getD, hlj, tw])
          have S1 := Lib.hid (fun n => ownsRow_setCell_other (own_below Nn.out (below_drewN (Below.refl _ _) n)) (a := ⟨qk, j, none⟩) (fun h => by have := own_ne rk1 Nn.out (by decide); rw [h] at this; simp [Value.ownBlock] at this) (.int .i64 m2))
          have S2 := Lib.hid (fun n => ownsRow_setCell_other (own_below A.out (below_drewN (Below.refl _ _) n)) (a := ⟨qk, j, none⟩) (fun h => by have := own_ne rk1 A.out (by decide); rw [h] at this; simp [Value.ownBlock] at this) (.int .i64 m2))
          have S3 : Hid (∀ n, Fam ((wr.drewN n).setCell ⟨qk, j, none⟩ (.int .i64 m2)) W.heap.size 2 (rows V (Zk rs k (j + 1)) rs.length ++ (.slice (some ⟨gs, 0, none⟩) zs.length cs, zs) :: N.map fun r => r.2)) := Lib.hid (by
            intro n
            have h := (F.out.below (below_drewN (Below.refl _ _) n)).set (p := k) (g := qk) (c := ck) (zs := Zk rs k j k) (by
              rw [List.getElem?_append_left (by rw [rows_len]; exact hlt), zk_len _ _ _ _ hjl, ← HVk.out]
              simp [rows, hlt]) j m2
            rw [List.set_append_left _ _ (by rw [rows_len]; exact hlt), zk_len _ _ _ _ hjl, ← HVk.out, ← hT.out] at h
            have e : (Zk rs k j k).set j (nth ((rO rs k).map tw) j) = Zk rs k (j + 1) k := by rw [zk_here, zk_here]; exact mix_set _ _ (by simp) _ hlj
            rw [e, rows_set V _ _ _ _ hlt (fun i hi => zk_far rs k j (j + 1) i hi)] at h
            rwa [hT.out] at h)
          have S4 := Lib.hid (fun n => (below_drewN B.out n).setCell (p := ⟨qk, j, none⟩) hqk (.int .i64 m2))
          rw [hz] at e0 d2
          clear g3 rk1 rk2 hT hz
          go_wp2_with fail
          go_quiet (fail)
          go_wp2_with fail
          go_region_with (fail)
          all_goals
            go_wp2_with fail
            go_roundg ((rO rs k).length - (j + 1))
            case measure => rw [HR2.out]; omega
            case rel =>
              have E : wrap64 (wrap64 (3 * z) + 1) = m2 := by rw [hm1]; exact hm2
              rw [E]
              exact ⟨j + 1, by omega, rfl, by first | rfl | simp, Lib.hid ⟨S1.out _, S2.out _, S3.out _, S4.out _⟩⟩
        · obtain rfl : j = (rO rs k).length := by omega
          have c0 : wr.cell? ⟨gi, k * 2, none⟩ = some (.int .i64 (rF rs k)) := (A.out.cellAt _ (by omega)).trans HX.out.1
          have hz : W.heap.size ≤ wr.heap.size := B.out.size
          have hkm : k + 1 ≤ maxLen := by unfold maxLen; omega
          have hkb : (k + 1) * 32 ≤ 140737488355328 := by omega
          rw [zk_next] at F
          have hT : Hid (Zk rs k (rO rs k).length k = (rO rs k).map tw) := Lib.hid (by rw [zk_here]; exact mix_all _ _ (by simp))
          obtain ⟨Z1, hZ1⟩ : ∃ Z, (rO rs k).map tw = Z := ⟨_, rfl⟩
          have HZl : Hid (Z1.length = (rO rs k).length) := Lib.hid (by rw [← hZ1]; simp)
          rw [hT.out, hZ1] at rk1
          have hZZ := Lib.hid hZ1
          have rk := Lib.hid rk1
          have o0 : Hid ((wr.alloc (.cells #[] 2)).ownsRow W.heap.size 2 1 (.slice (some ⟨wr.heap.size, 0, none⟩) 0 0) 0 (rc [])) := Lib.hid (World.ownsRow_lit (w := wr) #[] 0 hz (by simp) rfl)
          have hZm : Z1.length ≤ 17592186044416 := by rw [HZl.out]; exact hO1
          have I1 : Hid (Ints .i64 (wr.alloc (.cells #[] 2)) (.slice (some ⟨qk, 0, none⟩) (rO rs k).length ck) Z1) := Lib.hid ((ints_own (zs := Z1) (by rw [HZl.out]; exact rk.out) (by have := HZl.out; unfold maxLen; omega)).below ((Below.refl _ _).alloc (Nat.le_refl _) (.cells #[] 2)))
          have hgi3 : gi < wr.heap.size := World.block_lt_of_cell? wr _ c0
          have HFx : Hid (some gi ≠ u13.ownBlock) := Lib.hid (by
            have := own_ne A.out Nn.out (by decide)
            simpa [Value.ownBlock] using this)
          have hgiN : Hid ((Value.slice (some ⟨gi, 0, none⟩) rs.length ci).ownBlock ≠ some wr.heap.size) := Lib.hid (fun h => by have := (A.out.lt _ h).2; omega)
          have hnN : Hid (u13.ownBlock ≠ some wr.heap.size) := Lib.hid (fun h => by have := (Nn.out.lt _ h).2; omega)
          have ha0 : k * 2 < rs.length * 2 := by omega
          have ha1 : k * 2 + 1 < rs.length * 2 := by omega
          have hX2 : Hid ((tcells (tabl (rF rs) V (rO rs) rs.length))[k * 2 + 1]? = some (.slice (some ⟨qk, 0, none⟩) (rO rs k).length ck)) := Lib.hid (by rw [HX.out.2, HVk.out])
          clear rk1 hZ1 d1
          go_wp2_with fail
          go_region_held3 (fun w' => w'.cell? ⟨gi, k * 2, none⟩ = some (.int .i64 (rF rs k)) ∧ w'.cell? ⟨gi, k * 2 + 1, none⟩ = some (.slice (some ⟨qk, 0, none⟩) (rO rs k).length ck))
            (first | exact ⟨k3, k4⟩ | exact ⟨k1, k2⟩ | go_keep)
            (first
              | (refine step_copy (by rfl) (.tmp 122) (.tmp 127) 23 (by rfl) W.heap.size 2 ii Try.underlying23 hj hy0 hy1 hy2 wr.heap.size 0 (by rfl) (o0.out.drew) (.slice (some ⟨qk, 0, none⟩) (rO rs k).length ck) Z1 (by rfl) I1.out hZm (Nat.le_trans hz (by simp)) (wr.heap.size + 1) (by simp) ?_; intro g1 cap1 w5 hown1 hgrow1 hat1 hlt1; have hA5 : Hid (w5.ownsRow W.heap.size 30 2 (.slice (some ⟨gi, 0, none⟩) rs.length ci) rs.length (tcells (tabl (rF rs) V (rO rs) rs.length))) := Lib.hid (((A.out.alloc (.cells #[] 2)).drew).kept hgrow1 (.inr hgiN.out)); have k1 : w5.cell? ⟨gi, k * 2, none⟩ = some (.int .i64 (rF rs k)) := (hA5.out.cellAt _ ha0).trans HX.out.1; have k2 : w5.cell? ⟨gi, k * 2 + 1, none⟩ = some (.slice (some ⟨qk, 0, none⟩) (rO rs k).length ck) := (hA5.out.cellAt _ ha1).trans hX2.out; have hF2 : Hid (w5.ownsRow W.heap.size 31 2 u13 k (tcells N)) := Lib.hid (((Nn.out.alloc (.cells #[] 2)).drew).kept hgrow1 (.inr hnN.out)); have hz5 : W.heap.size ≤ w5.heap.size := Nat.le_trans hz (Nat.le_trans (by simp) hgrow1.size))
              | (refine step_append_lies _ (by rfl) (.tmp 116) (.tmp 130) 22 (by rfl) W.heap.size 31 ir _ 2 32 Try.underlying22 hi hz0 hz1 hz2 rfl (by decide) u13 k (tcells N) (by rfl) (hF2.out.alloc _) ⟨w5.heap.size, 0, none⟩ 1 1 [.int .i64 (rF rs k), .slice (some ⟨g1, 0, none⟩) Z1.length cap1] (by rfl) (by rfl) (World.news_of_block (cs := #[.int .i64 (rF rs k), .slice (some ⟨g1, 0, none⟩) Z1.length cap1]) (t := 31) (fr := (0, 0)) (heap_alloc_new w5 _)) (by simp [Value.oneCell']) (by decide) hkm hkb (Nat.le_trans hz5 (by simp)) (w5.heap.size + 1) (by simp) ?_; intro g2 cap2 w6 hown2 hgrow2 hat2 hlt2; have hA6 : Hid (w6.ownsRow W.heap.size 30 2 (.slice (some ⟨gi, 0, none⟩) rs.length ci) rs.length (tcells (tabl (rF rs) V (rO rs) rs.length))) := Lib.hid ((hA5.out.alloc _).kept hgrow2 (.inr HFx.out)); have k3 : w6.cell? ⟨gi, k * 2, none⟩ = some (.int .i64 (rF rs k)) := (hA6.out.cellAt _ ha0).trans HX.out.1; have k4 : w6.cell? ⟨gi, k * 2 + 1, none⟩ = some (.slice (some ⟨qk, 0, none⟩) (rO rs k).length ck) := (hA6.out.cellAt _ ha1).trans hX2.out))
          have A2 := Lib.hid (hown1.alloc (.cells #[.int .i64 (rF rs k), .slice (some ⟨g1, 0, none⟩) Z1.length cap1] 31 (0, 0)))
          have A3 := Lib.hid (hF2.out.alloc (.cells #[.int .i64 (rF rs k), .slice (some ⟨g1, 0, none⟩) Z1.length cap1] 31 (0, 0)))
          have N0 := hA6
          have N1 := Lib.hid (A2.out.kept hgrow2 (own_ne A2.out A3.out (by decide)))
          have N2 := Lib.hid hown2
          have hg1 : wr.heap.size ≤ g1 := by rcases hat1 with rfl | rfl <;> omega
          have N3 : Hid (Fam w6 W.heap.size 2 (rows V (Zk rs (k + 1) 0) rs.length ++ (.slice (some ⟨gs, 0, none⟩) zs.length cs, zs) :: (N ++ [(rF rs k, Value.slice (some ⟨g1, 0, none⟩) Z1.length cap1, Z1)]).map fun r => r.2)) := Lib.hid (by
            rw [List.map_append, ← List.cons_append, ← List.append_assoc]
            refine Fam.add (F.out.to fun v n xs hv h => ?_) N1.out (by simp [Value.ownBlock]) (fun f hf => ?_)
            · have e1 := ((h.alloc (.cells #[] 2)).drew).kept hgrow1 (.inr fun e => by have := (h.lt _ e).2; omega)
              have e2 := e1.alloc (.cells #[.int .i64 (rF rs k), .slice (some ⟨g1, 0, none⟩) Z1.length cap1] 31 (0, 0))
              exact e2.kept hgrow2 (own_ne e2 A3.out (by decide))
            · intro e
              have := ((F.out.1 f hf).1.lt g1 (by rw [e]; rfl)).2
              omega)
          have N4 : Hid (Below W.heap.size W w6) := Lib.hid ((((((B.out.alloc hz (.cells #[] 2)).drew).grown hgrow1 (by simp; omega) (fun kk hk' => by simp at hk'; omega)).alloc hz5 (.cells #[.int .i64 (rF rs k), .slice (some ⟨g1, 0, none⟩) Z1.length cap1] 31 (0, 0)))).grown hgrow2 (by simp; omega) (fun kk hk' => (A3.out.lt kk hk').1))
          have N5 : Hid (said (N ++ [(rF rs k, Value.slice (some ⟨g1, 0, none⟩) Z1.length cap1, Z1)]) = saidF (rF rs) (Zk rs (k + 1) 0) (k + 1)) := Lib.hid (by
            have e1 : saidF (rF rs) (Zk rs (k + 1) 0) k = saidF (rF rs) (Zk rs k 0) k := saidF_congr fun i hi => by rw [zk_done _ _ _ hi, zk_done _ _ _ (by omega)]
            have e2 : Zk rs (k + 1) 0 k = Z1 := by rw [← zk_next, hT.out, hZZ.out]
            rw [saidF_succ, e1, e2, ← NS.out]
            simp [said])
          clear hgrow1 hgrow2 hat1 hat2 hown1 hown2 A2 A3
          go_wp2_with fail
          go_roundg (rs.length - (k + 1))
          case measure => rw [HR.out]; omega
          case rel => exact ⟨k + 1, _, by omega, rfl, by first | rfl | simp, Lib.hid ⟨by rw [List.length_append, NL.out]; rfl, N5.out, by rw [tcells_append]; exact N2.out, N0.out, N3.out, N4.out⟩⟩
    · obtain rfl : k = rs.length := by omega
      go_wp2_with fail
      go_loopg [16] zs.length (fun r vq wq => ∃ (q : Nat), q ≤ zs.length ∧ r = zs.length - q ∧ vq = .int .i64 q ∧ Hid (wq.ownsRow W.heap.size 31 2 u13 rs.length (tcells N) ∧ wq.ownsRow W.heap.size 30 2 (.slice ai rs.length ci) rs.length (tcells (tabl (rF rs) V (rO rs) rs.length)) ∧ Fam wq W.heap.size 2 (rows V (Zk rs rs.length 0) rs.length ++ (.slice (some ⟨gs, 0, none⟩) zs.length cs, mix zs (zs.map lw) q) :: N.map fun r => r.2) ∧ Below W.heap.size W wq))
      case atStart => exact ⟨0, by omega, by omega, rfl, Lib.hid ⟨Nn.out, A.out, by rw [mix_zero]; exact F.out, B.out⟩⟩
      case round =>
        clear Nn A F B
        obtain ⟨q, hql, hr, rfl, hq⟩ := hrel
        have Nn := Lib.hid hq.out.1
        have A := Lib.hid hq.out.2.1
        have F := Lib.hid hq.out.2.2.1
        have B := Lib.hid hq.out.2.2.2
        have HR2 := Lib.hid hr
        have HML : Hid ((mix zs (zs.map lw) q).length = zs.length) := Lib.hid (mix_len _ _ (by simp) _ hql)
        clear hr hq
        obtain ⟨rk1, rk2⟩ := F.out.1 (.slice (some ⟨gs, 0, none⟩) zs.length cs, mix zs (zs.map lw) q) (List.mem_append_right _ (List.mem_cons_self ..))
        dsimp only at rk1
        by_cases hlq : q < zs.length
        · rw [HML.out] at rk1
          obtain ⟨b2, off2, hp2, g3⟩ := HCU.out q hlq
          subst hp2
          have hb2 : b2 < W.heap.size := World.block_lt_of_cell? W _ g3
          have d2 : wr.cell? ⟨b2, off2 + q, none⟩ = some (.int .i64 (nth zs q)) := (B.out.cell (p := ⟨b2, off2 + q, none⟩) hb2).trans g3
          have e0 : wr.cell? ⟨gs, q, none⟩ = some (.int .i64 (nth zs q)) := by
            have := rc_at rk1 HML.out q hlq
            rwa [mix_at _ _ (by simp) _ _ hql, if_neg (by omega)] at this
          have f0 : wr.frozen? ⟨gs, q, none⟩ = false := rk1.frozenAt q
          have hgW : W.heap.size ≤ gs := (rk1.lt gs rfl).1
          obtain ⟨z, hz⟩ : ∃ z, nth zs q = z := ⟨_, rfl⟩
          obtain ⟨m2, hm2⟩ : ∃ m, wrap64 (z - 7) = m := ⟨_, rfl⟩
          have hT : Hid (nth (zs.map lw) q = m2) := Lib.hid (by
            rw [← hm2, ← hz]
            simp [nth, List.getD, hlq, lw])
          have S1 := Lib.hid (fun n => ownsRow_setCell_other (own_below Nn.out (below_drewN (Below.refl _ _) n)) (a := ⟨gs, q, none⟩) (fun h => by have := own_ne rk1 Nn.out (by decide); rw [h] at this; simp [Value.ownBlock] at this) (.int .i64 m2))
          have S2 := Lib.hid (fun n => ownsRow_setCell_other (own_below A.out (below_drewN (Below.refl _ _) n)) (a := ⟨gs, q, none⟩) (fun h => by have := own_ne rk1 A.out (by decide); rw [h] at this; simp [Value.ownBlock] at this) (.int .i64 m2))
          have S3 : Hid (∀ n, Fam ((wr.drewN n).setCell ⟨gs, q, none⟩ (.int .i64 m2)) W.heap.size 2 (rows V (Zk rs rs.length 0) rs.length ++ (.slice (some ⟨gs, 0, none⟩) zs.length cs, mix zs (zs.map lw) (q + 1)) :: N.map fun r => r.2)) := Lib.hid (by
            intro n
            have h := (F.out.below (below_drewN (Below.refl _ _) n)).set (p := rs.length) (g := gs) (c := cs) (zs := mix zs (zs.map lw) q) (by
              rw [List.getElem?_append_right (by rw [rows_len]; exact Nat.le_refl _), rows_len, Nat.sub_self, HML.out]
              rfl) q m2
            rw [List.set_append_right _ _ (by rw [rows_len]; exact Nat.le_refl _), rows_len, Nat.sub_self, HML.out, List.set_cons_zero, ← hT.out, mix_set _ _ (by simp) _ hlq] at h
            rwa [hT.out] at h)
          have S4 := Lib.hid (fun n => (below_drewN B.out n).setCell (p := ⟨gs, q, none⟩) hgW (.int .i64 m2))
          rw [hz] at e0 d2
          clear g3 rk1 rk2 hT hz
          go_wp2_with fail
          go_quiet (fail)
          go_wp2_with fail
          go_roundg (zs.length - (q + 1))
          case measure => rw [HR2.out]; omega
          case rel =>
            try rw [hm2]
            exact ⟨q + 1, by omega, rfl, by first | rfl | simp, Lib.hid ⟨S1.out _, S2.out _, S3.out _, S4.out _⟩⟩
        · obtain rfl : q = zs.length := by omega
          obtain ⟨Z1, hZ1⟩ : ∃ Z, zs.map lw = Z := ⟨_, rfl⟩
          have HZl : Hid (Z1.length = zs.length) := Lib.hid (by rw [← hZ1]; simp)
          rw [mix_all _ _ (by simp), hZ1] at F rk1
          obtain ⟨RS, hRS⟩ : ∃ RS, saidF (rF rs) (Zk rs rs.length 0) rs.length = RS := ⟨_, rfl⟩
          have HOR : Hid (∀ k, k < RS.length → (rO RS k).length ≤ 17592186044416) := Lib.hid (fun k hk => by
            rw [← hRS, saidF_len] at hk
            rw [← hRS, saidF_o hk, zk_len _ _ _ _ (by omega)]
            exact HO.out k hk)
          have T1 : Hid (Tabs wr (.slice ai rs.length ci) RS) := Lib.hid (by
            rw [← hRS]
            exact tabs_at A.out F.out (by unfold maxLen; exact hrm) (fun i hi => by rw [zk_len _ _ _ _ (by omega)]; exact HOm.out i hi))
          have T2 : Hid (Tabs wr u13 RS) := Lib.hid (by
            rw [← hRS, ← NS.out]
            refine tabs_own (e := 2) (by rw [NL.out]; exact Nn.out) (Fam.tail (Fam.right F.out)) (by rw [NL.out]; unfold maxLen; exact hrm) (fun r hr => ?_)
            obtain ⟨j, hj, rfl⟩ := List.getElem_of_mem hr
            have h1 := said_o hj
            rw [NS.out, saidF_o (by rw [← NL.out]; exact hj)] at h1
            rw [← h1, zk_len _ _ _ _ (by omega)]
            exact HOm.out j (by rw [← NL.out]; exact hj))
          have s5 : W.heap.size ≤ wr.heap.size := B.out.size
          have RK := Lib.hid rk1
          clear rk1 rk2 hRS hZ1 Nn A F
          go_wp2_with fail
          refine (entry_any (.slice ai rs.length ci) RS i base step wr T1.out HI1.out HOR.out).mono ?_
          rintro e w7 ⟨rfl, hb⟩
          have T3 := Lib.hid (T2.out.below hb)
          have RK3 := Lib.hid (own_below RK.out hb)
          have B3 := Lib.hid (B.out.trans (hb.mono s5))
          have s6 : W.heap.size ≤ w7.heap.size := B3.out.size
          clear hb T1 T2 B RK
          go_wp2_with fail
          refine (rentry_any u13 RS i base step w7 T3.out HI1.out HOR.out).mono ?_
          rintro e w8 ⟨rfl, hb⟩
          have RK4 := Lib.hid (own_below RK3.out hb)
          have B4 := Lib.hid (B3.out.trans (hb.mono s6))
          have s7 : W.heap.size ≤ w8.heap.size := B4.out.size
          clear hb T3 B3 RK3
          generalize entV i base step RS = E3
          have I8 : Hid (Ints .i64 w8 (.slice (some ⟨gs, 0, none⟩) zs.length cs) Z1) := Lib.hid (ints_own RK4.out (by have := HZl.out; unfold maxLen; omega))
          go_wp2_with fail
          refine (sum_any (.slice (some ⟨gs, 0, none⟩) zs.length cs) Z1 w8 I8.out).mono ?_
          rintro e w' ⟨rfl, rfl⟩
          have o0 : Hid ((w8.alloc (.cells #[] 2)).ownsRow W.heap.size 2 1 (.slice (some ⟨w8.heap.size, 0, none⟩) 0 0) 0 (rc [])) := Lib.hid (World.ownsRow_lit (w := w8) #[] 0 s7 (by simp) rfl)
          have B5 := Lib.hid (B4.out.alloc s7 (.cells #[] 2))
          have I9 := Lib.hid (I8.out.below ((Below.refl _ _).alloc (Nat.le_refl _) (.cells #[] 2)))
          have hZm : Z1.length ≤ 17592186044416 := by have := HZl.out; omega
          go_wp2_with (first | (refine wpList_copy_if (by rfl) (.tmp 169) (.tmp 170) 23 (by rfl) W.heap.size 2 ii Try.underlying23 hj hy0 hy1 hy2 w8.heap.size 0 (by rfl) o0.out (.slice (some ⟨gs, 0, none⟩) zs.length cs) Z1 (by rfl) I9.out hZm B5.out.size (w8.heap.size + 1) (by simp) ?_) | (refine wpList_copy_if (by simp [Region.wanted, yielded]) (.tmp 169) (.tmp 170) 23 (by rfl) W.heap.size 2 ii Try.underlying23 hj hy0 hy1 hy2 w8.heap.size 0 (by rfl) o0.out (.slice (some ⟨gs, 0, none⟩) zs.length cs) Z1 (by rfl) I9.out hZm B5.out.size (w8.heap.size + 1) (by simp) ?_) | (refine wp_copy (.tmp 169) (.tmp 170) 23 (by rfl) W.heap.size 2 ii Try.underlying23 hj hy0 hy1 hy2 w8.heap.size 0 (by rfl) o0.out (.slice (some ⟨gs, 0, none⟩) zs.length cs) Z1 (by rfl) I9.out hZm B5.out.size (w8.heap.size + 1) (by simp) ?_))
          intro g9 c9 w9 h9 hgrow9 hat9 hlt9
          have B6 := Lib.hid (B5.out.grown hgrow9 B5.out.size (fun k hk => by simp at hk; omega))
          have I10 := Lib.hid (ints_own h9 (by unfold maxLen; omega))
          clear h9 hgrow9 hat9 o0 I8 I9 B4 B5 RK4
          go_wp2_with fail
          refine (rsum_any (.slice (some ⟨g9, 0, none⟩) Z1.length c9) Z1 w9 I10.out).mono ?_
          rintro e w' ⟨rfl, rfl⟩
          generalize sumP Z1 = E4
          go_wp2_with fail
          go_ret
          exact ⟨rfl, B6.out⟩
end Go.Proofs.Ytpafbnmncioppaa
