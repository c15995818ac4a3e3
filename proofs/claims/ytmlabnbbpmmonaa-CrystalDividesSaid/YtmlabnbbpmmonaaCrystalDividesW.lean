/- The walk of CrystalDivides. -/
import Derived.Test.YtmlabnbbpmmonaaDivR
import Derived.Test.YtmlabnbbpmmonaaRowsLib
import Derived.Laws.AppendOwnNone
import Derived.Deep.QuietTactic
import Derived.BigQuiet
import Derived.Deep.DeepCutAuto
import Derived.Deep.LoopGhost
namespace Go.Proofs.Ytmlabnbbpmmonaa
open Go.RowKit Go.ChangeShapes

theorem info64 : (Try.prog.info? 2).map (fun i => (i.zero, i.size, i.bytes)) = some (some (.int .i64 0), 1, 8) := by kernel_rfl
theorem bytes64 : Try.prog.bytesOf 2 = 8 := by kernel_rfl
theorem cells64 : Try.prog.cellsOf 2 = 1 := by kernel_rfl
abbrev ints64 (zs : List Int) : List Value := zs.map (Value.int .i64)

/-- A slice of the call's own that holds these numbers; nothing that was there has turned. -/
def Own (W wx : World) (s : Value) (zs : List Int) : Prop :=
  ∃ g c, s = .slice (some ⟨g, 0, none⟩) zs.length c ∧ zs.length ≤ c ∧ wx.ownsRow W.heap.size 2 1 s zs.length (ints64 zs) ∧ Below W.heap.size W wx

theorem Own.of {W w' : World} {v : Value} {zs : List Int} (h : w'.ownsRow W.heap.size 2 1 v zs.length (ints64 zs)) (h0 : v ≠ .slice none 0 0) (hb : Below W.heap.size W w') : Own W w' v zs := by
  rcases h.2 with ⟨h1, _⟩ | ⟨g, cap, cur, rfl, hg, hh, hn, hm, hs, ht⟩
  · exact absurd h1 h0
  · exact ⟨g, cap, rfl, hn, h, hb⟩
theorem own_row {W w' : World} {g n c : Nat} {xs : List Value} (h : w'.ownsRow W.heap.size 2 1 (.slice (some ⟨g, 0, none⟩) n c) n xs) : W.heap.size ≤ g ∧ g < w'.heap.size := h.lt g rfl

theorem own_at {W w' : World} {g n c : Nat} {zs : List Int} (h : w'.ownsRow W.heap.size 2 1 (.slice (some ⟨g, 0, none⟩) n c) n (ints64 zs)) (hn : zs.length = n) (j : Nat) (hj : j < n) : w'.cell? ⟨g, j, none⟩ = some (.int .i64 (nth zs j)) := by
  rw [h.cellAt j (by omega)]
  simp [nth_eq (show j < zs.length by omega), show j < zs.length by omega]
theorem nth_app (zs : List Int) (x : Int) (j : Nat) (hj : j < zs.length) : nth (zs ++ [x]) j = nth zs j := by
  simp [nth, List.getD, List.getElem?_append, hj]
theorem nth_last (zs : List Int) (x : Int) : nth (zs ++ [x]) zs.length = x := by
  simp [nth, List.getD]

/-- The first k numbers, one more each. -/
def incTo (zs : List Int) (k : Nat) : List Int := (zs.take k).map (fun z => wrap64 (z + 1)) ++ zs.drop k
theorem incTo_zero (zs : List Int) : incTo zs 0 = zs := by simp [incTo]
theorem incTo_len (zs : List Int) (k : Nat) (hk : k ≤ zs.length) : (incTo zs k).length = zs.length := by simp [incTo]; omega
theorem incTo_rest (zs : List Int) (k : Nat) (hk : k < zs.length) : nth (incTo zs k) k = nth zs k := by
  simp [nth, incTo, List.getD, List.getElem?_append, show min k zs.length = k by omega]
theorem incTo_set (zs : List Int) (k : Nat) (hk : k < zs.length) : (incTo zs k).set k (wrap64 (nth zs k + 1)) = incTo zs (k + 1) := by
  apply List.ext_getElem?
  intro i
  simp only [incTo, List.getElem?_set, List.getElem?_append, List.getElem?_map, List.length_map, List.length_take, List.length_append, List.length_drop, List.getElem?_take, List.getElem?_drop]
  by_cases h1 : i = k
  · subst h1
    simp [show min i zs.length = i by omega, show min (i + 1) zs.length = i + 1 by omega, hk, nth_eq hk]
    omega
  · by_cases h2 : i < k
    · simp [h2, show k ≠ i by omega, show min k zs.length = k by omega, show min (k + 1) zs.length = k + 1 by omega, show i < k + 1 by omega]
    · simp [show ¬ i < k by omega, show k ≠ i by omega, show min k zs.length = k by omega, show min (k + 1) zs.length = k + 1 by omega, show ¬ i < k + 1 by omega, show k + (i - k) = i by omega, show k + 1 + (i - (k + 1)) = i by omega]
theorem own_drewN {w : World} {base : Nat} {e : TypeId} {size : Nat} {v : Value} {n : Nat} {xs : List Value} (h : w.ownsRow base e size v n xs) (m : Nat) : (w.drewN m).ownsRow base e size v n xs := h

theorem ints_drewN {k : IntKind} {w : World} {v : Value} {zs : List Int} (h : Ints k w v zs) (m : Nat) : Ints k (w.drewN m) v zs := h

set_option maxHeartbeats 4000000 in
set_option maxRecDepth 100000 in
theorem crystalDivides_walk {H : Type} {enc : TypeId × Value → H} (f t : Int) (v : Value) (d : DataW H) (ps : List MemPlace) (W : World) (_ : (Lit.int .i64 f).wf = true) (_ : (Lit.int .i64 t).wf = true)
    (h : DataW.Trod enc Try.prog W 0 (fun _ => true) true 31 v d ps) {base : Nat} (hok : Value.okWide Try.prog W .any base 31 v) (hw : ∀ n ∈ DataW.weights Try.prog 31 d, n ≤ reachBytes) (_ : W.ShapedOpen Try.prog) :
    Calls Try.prog 4 #[.int .i64 f, .int .i64 t, v] W fun e w' => e = .returned (.bool true) ∧ Below W.heap.size W w' := by
  obtain ⟨zs, hI, hlen, hwf⟩ := ints_arg Try.underlying31 Try.underlying2 cells64 bytes64 hok h hw
  have HI := Lib.hid hI
  obtain ⟨a, cap, rfl, hm, hnil, hc⟩ := hI
  have hlen : zs.length ≤ 17592186043904 := by have : reachBytes = 140737488351232 := by decide
                                               omega
  unfold maxLen at hm
  obtain ⟨i0, hi, hz0, hz1, hz2⟩ := info_parts info64
  clear h hok hw
  go_enter Try.func4, Try.ntmps4
  go_wp2_with fail
  refine (refDivider_any f t _).mono ?_
  rintro e w' ⟨rfl, rfl⟩
  go_wp2_with fail
  refine (divider_any f t _).mono ?_
  rintro e w' ⟨rfl, rfl⟩
  go_wp2_with fail
  refine (refChain_any f _ zs _ HI.out).mono ?_
  rintro e w' ⟨rfl, n, rfl⟩
  go_upto_region 4 with fail
  go_cut [13] (fun s wx => Own W wx s (zs ++ [77]))
  case first =>
    have o0 : ((W.drewN n).alloc (.cells #[] 2)).ownsRow W.heap.size 2 1 (.slice (some ⟨W.heap.size, 0, none⟩) 0 0) 0 (ints64 []) :=
      World.ownsRow_lit (w := W.drewN n) #[] 0 (Nat.le_refl _) (by simp) rfl
    have b0 : Below W.heap.size W ((W.drewN n).alloc (.cells #[] 2)) := (below_drewN (Below.refl _ _) n).alloc (Nat.le_refl _) _
    have O0 := Lib.hid o0
    have B0 := Lib.hid b0
    clear o0 b0
    cases a with
    | none =>
      obtain ⟨rfl, rfl⟩ := hnil rfl
      clear hc hnil hm hlen
      go_wp2_with (first
        | (refine wpList_append_own_none rfl (.tmp 36) (.tmp 37) 31 rfl W.heap.size 2 i0 1 Try.underlying31 hi _ 0 (ints64 []) rfl O0.out rfl ?_)
        | (refine wpList_append_own _ rfl (.tmp 38) (.tmp 39) 31 rfl W.heap.size 2 i0 (.int .i64 0) 1 8 Try.underlying31 hi hz0 hz1 hz2 rfl (by decide) _ 0 (ints64 []) rfl (O0.out.alloc _) ⟨W.heap.size + 1, 0, none⟩ 1 1 (ints64 [77]) rfl rfl ?_ ?_ ?_ ?_ ?_ ?_))
      case refine_1 => exact cell_one_at _ _ _ _ (by rw [size_alloc]; rfl)
      case refine_2 => simp [Value.oneCell']
      case refine_3 => simp [maxLen]
      case refine_4 => omega
      case refine_5 => rw [size_alloc, size_alloc]; show W.heap.size ≤ W.heap.size + 1 + 1; omega
      case refine_6 =>
        intro v' w' h1 h2 h3
        have hb := (B0.out.alloc (by rw [size_alloc]; exact Nat.le_succ _) (.cells #[.int .i64 77] 2)).grown h2 (by rw [size_alloc, size_alloc]; show W.heap.size ≤ W.heap.size + 1 + 1; omega) (fun k hk => by simp [Value.ownBlock] at hk; omega)
        have HO : Hid (Own W w' v' ([] ++ [77])) := Own.of h1 h3 hb
        clear h1 h2 h3 hb
        go_wp2_with fail
        go_meet
        exact HO.out
    | some ad =>
      have hsrc : Hid (∀ j u, (ints64 zs)[j]? = some u → ((W.drewN n).alloc (.cells #[] 2)).cell? (ad.add j) = some u) := by
        intro j u hj
        have hjl : j < zs.length := by
          have := (List.getElem?_eq_some_iff.1 hj).1
          simpa using this
        obtain ⟨b, off, hp, hcell⟩ := hc j hjl
        obtain rfl := Option.some.inj hp
        rw [addr_add, B0.out.cell (p := ⟨b, off + j, none⟩) (World.block_lt_of_cell? W _ hcell), hcell]
        simp [hjl, nth_eq hjl] at hj ⊢
        exact hj
      have hlen' : (ints64 zs).length = zs.length := by simp
      have HL := Lib.hid hlen'
      clear hc hnil hlen'
      go_wp2_with (first
        | (refine wpList_append_own _ rfl (.tmp 36) (.tmp 37) 31 rfl W.heap.size 2 i0 (.int .i64 0) 1 8 Try.underlying31 hi hz0 hz1 hz2 rfl (by decide) _ 0 (ints64 []) rfl O0.out ad zs.length cap (ints64 zs) (by rfl) (by rw [HL.out]; omega) hsrc.out (by simp [Value.oneCell']) (by unfold maxLen; omega) (by omega) (by rw [size_alloc]; exact Nat.le_succ _) ?_))
      intro v1 w1 h1 h2 h3
      have h1 : w1.ownsRow W.heap.size 2 1 v1 zs.length (ints64 zs) := by simpa using h1
      have b1 : Hid (Below W.heap.size W w1) := B0.out.grown h2 (by rw [size_alloc]; exact Nat.le_succ _) (fun k hk => by simp [Value.ownBlock] at hk; omega)
      have H1 := Lib.hid h1
      clear h1 h2 h3
      go_wp2_with (first
        | (refine wpList_append_own _ rfl (.tmp 38) (.tmp 39) 31 rfl W.heap.size 2 i0 (.int .i64 0) 1 8 Try.underlying31 hi hz0 hz1 hz2 rfl (by decide) _ zs.length (ints64 zs) rfl (H1.out.alloc _) ⟨w1.heap.size, 0, none⟩ 1 1 (ints64 [77]) (by rfl) rfl (cell_one_at _ _ _ _ rfl) (by simp [Value.oneCell']) (by unfold maxLen; omega) (by omega) (by rw [size_alloc]; have := b1.out.size; omega) ?_))
      intro v2 w2 h1 h2 h3
      have hb : Below W.heap.size W w2 := (b1.out.alloc b1.out.size _).grown h2 (by rw [size_alloc]; have := b1.out.size; omega) (fun k hk => (H1.out.lt k hk).1)
      have HO : Hid (Own W w2 v2 (zs ++ [77])) := Own.of (by simpa using h1) h3 hb
      clear h1 h2 h3 hb
      go_wp2_with fail
      go_meet
      exact HO.out
  case rest =>
    obtain ⟨g, c, rfl, hgc, R, B⟩ := hcut
    have e1 : (zs ++ [77]).length = zs.length + 1 := by simp
    rw [e1] at hgc R ⊢
    have cat : Hid (∀ j, j < zs.length → wc.cell? ⟨g, j, none⟩ = some (.int .i64 (nth zs j))) := fun j hj => by
      rw [own_at R (by simp) j (by omega), nth_app zs 77 j hj]
    have clast : wc.cell? ⟨g, zs.length, none⟩ = some (.int .i64 77) := by rw [own_at R (by simp) zs.length (by omega), nth_last]
    have hI2 : Hid (Ints .i64 wc (.slice (some ⟨g, 0, none⟩) zs.length c) zs) := Ints.mk rfl (by unfold maxLen; omega) (fun i hi => by simpa using cat.out i hi)
    have HR := Lib.hid R
    have HB := Lib.hid B
    have HC := Lib.hid hc
    clear e1 R B hc hnil
    have hgz : zs.length ≤ c := by omega
    go_wp2_with fail
    refine (chain_any f _ zs _ hI2.out).mono ?_
    rintro e w' ⟨rfl, rfl⟩
    go_wp2_with fail
    go_loopw [16] (fun i wr => ∃ k m : Nat, k ≤ zs.length ∧ i = .int .i64 k ∧ wr = wc.drewN m) (fun i _ => zs.length - (intOf i).toNat)
    case atStart => exact ⟨0, 0, by omega, rfl, rfl⟩
    case round =>
      obtain ⟨k, m, hk, rfl, rfl⟩ := hrel
      by_cases hlt : k < zs.length
      · have g1 := cat.out k hlt
        obtain ⟨b, off, hp, g0⟩ := HC.out k hlt
        subst hp
        have g2 : wc.cell? ⟨b, off + k, none⟩ = some (.int .i64 (nth zs k)) := (HB.out.cell (p := ⟨b, off + k, none⟩) (World.block_lt_of_cell? W _ g0)).trans g0
        clear g0
        go_wp2_with fail
        go_quiet (fail)
        go_wp2_with fail
        go_roundw
        case rel => exact ⟨k + 1, _, by omega, by go_num, rfl⟩
        case measure => simp [intOf]; omega
      · have hke : k = zs.length := by omega
        subst hke
        go_wp2_with fail
        go_loopw [17] (fun i wr => ∃ k : Nat, k ≤ zs.length ∧ i = .int .i64 k ∧ Hid (wr.ownsRow W.heap.size 2 1 (.slice (some ⟨g, 0, none⟩) (zs.length + 1) c) (zs.length + 1) (ints64 (incTo zs k ++ [77])) ∧ Below W.heap.size W wr)) (fun i _ => zs.length - (intOf i).toNat)
        case atStart => exact ⟨0, by omega, rfl, by rw [incTo_zero]; exact own_drewN HR.out m, below_drewN HB.out m⟩
        case round =>
          obtain ⟨k, hk, rfl, hrel⟩ := hrel
          obtain ⟨hR3, hB3⟩ := hrel.out
          have HR3 := Lib.hid hR3
          have HB3 := Lib.hid hB3
          clear hR3 hB3 hrel
          by_cases hlt : k < zs.length
          · have g1 : wr.cell? ⟨g, k, none⟩ = some (.int .i64 (nth zs k)) := by
              rw [own_at HR3.out (by simp [incTo_len zs k hk]) k (by omega), nth_app _ _ _ (by rw [incTo_len zs k hk]; exact hlt), incTo_rest zs k hlt]
            have g2 : wr.frozen? ⟨g, k, none⟩ = false := HR3.out.frozenAt k
            go_wp2_with fail
            have hst : Hid ((wr.setCell ⟨g, k, none⟩ (.int .i64 (wrap64 (nth zs k + 1)))).ownsRow W.heap.size 2 1 (.slice (some ⟨g, 0, none⟩) (zs.length + 1) c) (zs.length + 1) (ints64 (incTo zs (k + 1) ++ [77]))) := by
              have := (HR3.out.stored k (.int .i64 (wrap64 (nth zs k + 1)))).1
              rw [← List.map_set, List.set_append_left _ _ (by rw [incTo_len zs k hk]; exact hlt), incTo_set zs k hlt] at this
              exact this
            have hbk : Hid (Below W.heap.size W (wr.setCell ⟨g, k, none⟩ (.int .i64 (wrap64 (nth zs k + 1))))) := HB3.out.setCell (own_row HR3.out).1 _
            go_roundw
            case rel => exact ⟨k + 1, by omega, by go_num, hst.out, hbk.out⟩
            case measure => simp [intOf]; omega
          · have hke : k = zs.length := by omega
            subst hke
            have el : (incTo zs zs.length).length = zs.length := incTo_len zs _ (Nat.le_refl _)
            generalize incTo zs zs.length = ys at *
            have EL := Lib.hid el
            have cat2 : Hid (∀ j, j < zs.length → wr.cell? ⟨g, j, none⟩ = some (.int .i64 (nth ys j))) := fun j hj => by
              rw [own_at HR3.out (by simp [el]) j (by omega), nth_app ys 77 j (by omega)]
            have hz3 : W.heap.size ≤ wr.heap.size := HB3.out.size
            have o0 : Hid ((wr.alloc (.cells #[] 2)).ownsRow W.heap.size 2 1 (.slice (some ⟨wr.heap.size, 0, none⟩) 0 0) 0 (ints64 [])) :=
              World.ownsRow_lit (w := wr) #[] 0 hz3 (by simp) rfl
            have b0 : Hid (Below W.heap.size W (wr.alloc (.cells #[] 2))) := HB3.out.alloc hz3 _
            have hsrc : Hid (∀ j u, (ints64 ys)[j]? = some u → (wr.alloc (.cells #[] 2)).cell? ((⟨g, 0, none⟩ : Addr).add j) = some u) := by
              intro j u hj
              have hjl : j < ys.length := by
                have := (List.getElem?_eq_some_iff.1 hj).1
                simpa using this
              have hcell := cat2.out j (by omega)
              rw [addr_add, Nat.zero_add, World.cell?_of_block (w := wr) (Below.heap_alloc wr _ g (own_row HR3.out).2), hcell]
              simp [hjl, nth_eq hjl] at hj ⊢
              exact hj
            have hl' : Hid ((ints64 ys).length = zs.length) := by unfold Hid; simp [el]
            clear el
            go_wp2_with (first
              | (refine wpList_append_own _ rfl (.tmp 107) (.tmp 111) 31 rfl W.heap.size 2 i0 (.int .i64 0) 1 8 Try.underlying31 hi hz0 hz1 hz2 rfl (by decide) _ 0 (ints64 []) rfl o0.out ⟨g, 0, none⟩ zs.length c (ints64 ys) (by rfl) (by rw [hl'.out]; omega) hsrc.out (by simp [Value.oneCell']) (by unfold maxLen; omega) (by omega) (by rw [size_alloc]; omega) ?_))
            intro v2 w2 h1 h2 h3
            have h1 : w2.ownsRow W.heap.size 2 1 v2 zs.length (ints64 ys) := by simpa using h1
            have hb : Hid (Below W.heap.size W w2) := b0.out.grown h2 (by rw [size_alloc]; omega) (fun k hk => by simp [Value.ownBlock] at hk; omega)
            have h0 : Own W w2 v2 ys := Own.of (by rw [EL.out]; exact h1) (fun e => by simpa using h3 e) hb.out
            have hcg : Hid (Ints .i64 w2 (.slice (some ⟨g, 0, none⟩) zs.length c) ys) := Ints.mk EL.out (by unfold maxLen; omega) (fun i hi => by
              have hg := (own_row HR3.out).2
              rw [Nat.zero_add, World.cell?_of_block (w := wr.alloc (.cells #[] 2)) (h2.block g (by rw [size_alloc]; omega) (by simp [Value.ownBlock]; omega)), World.cell?_of_block (w := wr) (Below.heap_alloc wr _ g hg)]
              exact cat2.out i (by rw [EL.out] at hi; exact hi))
            obtain ⟨g2, c2, hv2, hgc2, R2, B2⟩ := h0
            have hI3 : Hid (Ints .i64 w2 (.slice (some ⟨g2, 0, none⟩) ys.length c2) ys) := Ints.mk rfl (by unfold maxLen; have := EL.out; omega) (fun i hi => by
              rw [hv2] at R2
              rw [Nat.zero_add]
              exact own_at R2 rfl i hi)
            rw [hv2]
            clear h1 h2 h3 B2 R2 hv2 hgc2
            go_wp2_with fail
            refine (refChain_any f _ ys _ hI3.out).mono ?_
            rintro e w' ⟨rfl, m2, rfl⟩
            go_wp2_with fail
            refine (chain_any f _ ys _ (ints_drewN hcg.out m2)).mono ?_
            rintro e w' ⟨rfl, rfl⟩
            go_wp2_with fail
            go_ret
            exact ⟨rfl, below_drewN hb.out m2⟩
end Go.Proofs.Ytmlabnbbpmmonaa
