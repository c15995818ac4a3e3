/- bus.Order, whole. -/
import Derived.Test.YtdhlmflbefnekaaDoorOrderC
import Derived.Laws.EntriesVeiled
namespace Go.Proofs.YtdhlmflbefnekaaDoor
open Go.RowKit Go.ChangeShapes
/-- x stands behind y. -/
def gtD (down : Bool) (x y : Int) : Bool := if down then decide (x < y) else decide (y < x)
def ordV (down : Bool) (zs : List Int) : List Int := zs.mergeSort fun x y => !gtD down x y
def okO (zs : List Int) : Bool := decide (zs.length ≤ 4096) && zs.all (fun z => decide (0 ≤ z) && decide (z < 20))
def resO (down : Bool) (zs : List Int) : List Int := if okO zs then ordV down zs else []
def errO (zs : List Int) : Int := if okO zs then 0 else 1
theorem ordV_len (down : Bool) (zs : List Int) : (ordV down zs).length = zs.length := by simp [ordV]
theorem okO_big {zs : List Int} (h : 4096 < zs.length) : okO zs = false := by
  unfold okO
  rw [decide_eq_false (by omega)]
  rfl
theorem okO_bad {zs : List Int} {k : Nat} (hk : k < zs.length) (h : nth zs k < 0 ∨ 20 ≤ nth zs k) : okO zs = false := by
  have : zs.all (fun z => decide (0 ≤ z) && decide (z < 20)) = false := by
    rw [List.all_eq_false]
    exact ⟨nth zs k, nth_mem hk, by simp; omega⟩
  unfold okO
  rw [this, Bool.and_false]
theorem okO_good {zs : List Int} (hl : zs.length ≤ 4096) (h : ∀ k, k < zs.length → 0 ≤ nth zs k ∧ nth zs k < 20) : okO zs = true := by
  have : zs.all (fun z => decide (0 ≤ z) && decide (z < 20)) = true := by
    rw [List.all_eq_true]
    intro z hz
    obtain ⟨k, hk, rfl⟩ := List.getElem_of_mem hz
    have := h k hk
    rw [nth_eq hk] at this
    simp; omega
  unfold okO
  rw [this, decide_eq_true hl]
  rfl
def enc20 (x : Fin 20) : Value := .int .i64 (x.val : Int)
def val20 (x : Fin 20) : Int := (x.val : Int)
def of20 (z : Int) : Fin 20 := Fin.ofNat 20 z.toNat
theorem val_of {z : Int} (h0 : 0 ≤ z) (h1 : z < 20) : val20 (of20 z) = z := by
  unfold val20 of20
  simp [Fin.ofNat]
  omega
theorem vals_of {zs : List Int} (h : ∀ k, k < zs.length → 0 ≤ nth zs k ∧ nth zs k < 20) : (zs.map of20).map val20 = zs := by
  rw [List.map_map]
  apply List.ext_getElem (by simp)
  intro k h1 h2
  have := h k h2
  rw [nth_eq h2] at this
  simp [val_of this.1 this.2]
theorem encs_vals (l : List (Fin 20)) : l.map enc20 = rc (l.map val20) := by simp [rc, enc20, val20]
open Go.Sort Stb in
theorem lt_up (x y : Fin 20) : ltOf cmpN x y = decide (x.val < y.val) := by
  unfold ltOf cmpN
  by_cases h1 : x.val < y.val
  · simp [h1]
  · by_cases h2 : y.val < x.val <;> simp [h1, h2]
def cmpD (down : Bool) (x y : Fin 20) : Int := if down then cmpN y x else cmpN x y
open Go.Sort in
theorem lt_D (down : Bool) (x y : Fin 20) : ltOf (cmpD down) x y = gtD down (val20 y) (val20 x) := by
  have h1 := lt_up x y
  have h2 := lt_up y x
  unfold ltOf at *
  cases down with
  | false => simp only [cmpD, gtD, val20, Bool.false_eq_true, if_false]; rw [h1]; simp
  | true => simp only [cmpD, gtD, val20, if_true]; rw [h2]; simp
open Go.Sort in
theorem swo_D (down : Bool) : SWO (ltOf (cmpD down)) where
  irrefl x := by rw [lt_D]; cases down <;> simp [gtD]
  trans x y z h1 h2 := by rw [lt_D] at *; cases down <;> simp [gtD] at * <;> omega
  ntrans x y z h1 h2 := by rw [lt_D] at *; cases down <;> simp [gtD] at * <;> omega
open Go.Sort in
theorem sorted_is (down : Bool) (d d' : Array (Fin 20)) (h1 : PermIn 0 d.size d d') (h2 : SortedIn (ltOf (cmpD down)) 0 d.size d') : d'.toList.map val20 = ordV down (d.toList.map val20) := by
  have h := sorted_unique_holds (swo_D down) (fun x y e1 e2 => by
    rw [lt_D] at e1 e2
    have : x.val = y.val := by cases down <;> simp [gtD, val20] at e1 e2 <;> omega
    exact Fin.ext this) d d' h1 h2
  rw [h]
  unfold ordV
  refine List.map_mergeSort (fun a _ b _ => ?_)
  rw [lt_D]
open Go.Sort in
theorem tab_apart {enc : Fin 20 → Value} {w w' : World} {g : Nat} {d' : Array (Fin 20)} (hS : SW enc w g 0 d' w') (hT : busAt w) (h0 : 0 ≠ g) : busAt w' := by
  obtain ⟨k, os, rfl⟩ := hS
  obtain ⟨t, fr, h⟩ := hT
  refine ⟨t, fr, ?_⟩
  unfold sortWorld
  rw [(Stb.grownBy_sorted (enc := enc) (w := w) (g := g) (n := k) (os := os) d').block 0 (Array.getElem?_eq_some_iff.1 h).1 (by simpa using h0)]
  exact h
open Go.Sort in
/-- The sort of a row of the call's own, with a test that reads. -/
theorem sorts (down : Bool) (gf : Nat) (cb : Array Value) (zs : List Int) (w : World) (B g c : Nat) (hpos : 0 < zs.length) (hl : zs.length ≤ 4096) (hr : ∀ k, k < zs.length → 0 ≤ nth zs k ∧ nth zs k < 20) (hown : w.ownsRow B 3 1 (.slice (some ⟨g, 0, none⟩) zs.length c) zs.length (rc zs)) (eg : ∀ args w, (callFunc gf args).run Tryd.prog w = .ok (.enter gf args) w)
    (hcmp : ∀ (m : Nat) (os : Array Obj) (dk : Array (Fin 20)), ∀ x y : Fin 20, Calls Tryd.prog gf (#[enc20 x, enc20 y] ++ cb) (sortWorld enc20 w g 0 m dk os) fun e w' => e = .returned (.int .i64 (cmpD down x y)) ∧ ∃ q, w' = (sortWorld enc20 w g 0 m dk os).drewN q) :
    Calls Tryd.prog (Stb.sortF) #[.slice (some ⟨g, 0, none⟩) zs.length c, .func (.func gf) #[] cb] w fun e w' => e = .returned (.tuple #[]) ∧ w'.ownsRow B 3 1 (.slice (some ⟨g, 0, none⟩) zs.length c) zs.length (rc (ordV down zs)) ∧ w.grownBy w' (some g) := by
  obtain ⟨d, hd⟩ : ∃ d : Array (Fin 20), d = (zs.map of20).toArray := ⟨_, rfl⟩
  have hdl : d.toList = zs.map of20 := by rw [hd]
  have hds : d.size = zs.length := by rw [hd]; simp
  have hrow : w.ownsRow B 3 1 (.slice (some ⟨g, 0, none⟩) zs.length c) zs.length (d.toList.map enc20) := by
    rw [encs_vals, hdl, vals_of hr]; exact hown
  have R : Row1 enc20 w g 0 d := ⟨fun _ => rfl, Stb.holds_of_own hrow hds, (hown.lt g rfl).2⟩
  have hc : CmpReads Tryd.prog gf cb enc20 (cmpD down) g 0 d.size w := fun m os dk _ x y => hcmp m os dk x y
  have h := Stb.sort_s enc20 (cmpD down) (ltOf (cmpD down)) (swo_D down) gf cb g 0 c d w eg hc.lays R (by omega) (fun _ _ _ _ => rfl)
  rw [hds] at h
  refine h.mono ?_
  rintro e w' ⟨he, d', p1, s1, hS⟩
  obtain ⟨o1, o2⟩ := Stb.own_sorted hrow hds (by rw [p1.1, hds]) hS
  refine ⟨he, ?_, o2⟩
  rw [← hds] at p1 s1
  rwa [encs_vals, sorted_is down d d' p1 s1, hdl, vals_of hr] at o1

set_option maxHeartbeats 4000000 in
set_option maxRecDepth 100000 in
theorem order_any (v : Value) (zs : List Int) (down : Bool) (w : World) (hv : Ints .i64 w v zs) (hlen : zs.length ≤ 17592186044416) (hT : busAt w) :
    Calls Tryd.prog 21 #[v, .bool down] w fun e w' => ∃ u, e = .returned (.tuple #[u, .int .i64 (errO zs)]) ∧ w'.ownsRow w.heap.size 3 1 u (resO down zs).length (rc (resO down zs)) ∧ Below w.heap.size w w' := by
  have HV := Lib.hid hv
  have HT := Lib.hid hT
  obtain ⟨a, cap, rfl, hm, _, hc⟩ := hv
  have HC := Lib.hid hc
  clear hc hT hm
  by_cases hbig : 4096 < zs.length
  · have hz : (zs.length : Int) > 4096 := by omega
    have hz2 : decide ((zs.length : Int) > 4096) = true := decide_eq_true hz
    have HO : Hid (okO zs = false) := Lib.hid (okO_big hbig)
    go_enter Tryd.func21, Tryd.ntmps21
    go_wp2_with fail
    go_ret2
    unfold errO resO
    rw [HO.out]
    exact ⟨_, rfl, World.ownsRow_nil _ _ _ _, Below.refl _ _⟩
  · have hz : ¬ (zs.length : Int) > 4096 := by omega
    have hz2 : decide ((zs.length : Int) > 4096) = false := decide_eq_false hz
    go_enter Tryd.func21, Tryd.ntmps21
    go_wp2_with fail
    go_loopg [16] zs.length (fun r vi wr => ∃ k : Nat, k ≤ zs.length ∧ r = zs.length - k ∧ vi = .int .i64 k ∧ wr = w ∧ Hid (∀ j, j < k → 0 ≤ nth zs j ∧ nth zs j < 20))
    case atStart => exact ⟨0, by omega, by omega, rfl, rfl, Lib.hid (fun j hj => by omega)⟩
    case round =>
      obtain ⟨k, hk, hr, rfl, rfl, hh⟩ := hrel
      have HR := Lib.hid hr
      clear hr
      by_cases hlt : k < zs.length
      · obtain ⟨b, off, hp, g⟩ := HC.out k hlt
        subst hp
        obtain ⟨z, hz0⟩ : ∃ z, z = nth zs k := ⟨_, rfl⟩
        rw [← hz0] at g
        by_cases hneg : z < 0
        · have HO : Hid (okO zs = false) := Lib.hid (okO_bad hlt (.inl (by omega)))
          clear hz0 hh
          go_wp2_with fail
          go_ret2
          unfold errO resO
          rw [HO.out]
          exact ⟨_, rfl, World.ownsRow_nil _ _ _ _, Below.refl _ _⟩
        · by_cases hge : 20 ≤ z
          · have HO : Hid (okO zs = false) := Lib.hid (okO_bad hlt (.inr (by omega)))
            have hge2 : z ≥ 20 := hge
            clear hz0 hh
            go_wp2_with fail
            go_ret2
            unfold errO resO
            rw [HO.out]
            exact ⟨_, rfl, World.ownsRow_nil _ _ _ _, Below.refl _ _⟩
          · have hN : Hid (∀ j, j < k + 1 → 0 ≤ nth zs j ∧ nth zs j < 20) := Lib.hid (fun j hj => by
              by_cases e : j = k
              · subst e; rw [← hz0]; omega
              · exact hh.out j (by omega))
            have hge2 : ¬ z ≥ 20 := hge
            clear hz0 hh
            go_wp2_with fail
            go_roundg (zs.length - (k + 1))
            case measure => rw [HR.out]; omega
            case rel => exact ⟨k + 1, by omega, rfl, by first | rfl | simp, rfl, hN⟩
      · obtain rfl : k = zs.length := by omega
        have HOK : Hid (okO zs = true) := Lib.hid (okO_good (by omega) hh.out)
        cases down with
        | false =>
          have hcl := clone_any (.slice a zs.length cap) zs wr HV.out hlen
          go_wp2_with fail
          refine hcl.mono ?_
          rintro e w1 ⟨u, rfl, hu, hb⟩
          have HB := Lib.hid hb
          have HT1 := Lib.hid (HT.out.grown hb)
          by_cases hn : zs.length = 0
          · obtain ⟨ua, uc, rfl⟩ := own_slice hu
            have HU := Lib.hid hu
            rw [hn]
            have hs := Stb.sort_none ua uc (.func (.func 32) #[] #[]) w1
            clear hcl hb hu
            go_wp2_with fail
            refine hs.mono ?_
            rintro e w2 ⟨rfl, rfl⟩
            go_wp2_with fail
            go_ret2
            obtain rfl := List.length_eq_zero_iff.1 hn
            unfold errO resO
            rw [HOK.out]
            have e0 : ordV false [] = [] := by simp [ordV]
            rw [if_pos rfl, e0]
            exact ⟨_, rfl, HU.out, HB.out⟩
          · obtain ⟨g, c, rfl, hg1, hg2⟩ := hu.form (by omega)
            have hs := sorts false 32 #[] zs w1 wr.heap.size g c (by omega) (by omega) hh.out hu (enters_of Tryd.func32 (by kernel_rfl) rfl) (fun m os dk x y => by_any x y _ (tab_apart (d' := dk) ⟨m, os, rfl⟩ HT1.out (by have := HT.out.pos; omega)))
            have HU := Lib.hid hu
            clear hcl hb hu
            go_wp2_with fail
            refine hs.mono ?_
            rintro e w2 ⟨rfl, ho, hgr⟩
            have HO := Lib.hid ho
            have HB2 := Lib.hid (HB.out.grown hgr HB.out.size (fun k hk => by cases hk; exact hg1))
            clear ho hgr hs
            go_wp2_with fail
            go_ret2
            unfold errO resO
            rw [HOK.out]
            exact ⟨_, rfl, by rw [if_pos rfl, ordV_len]; exact HO.out, HB2.out⟩
        | true =>
          have c2 : (wr.alloc (.cells #[.func (.func 32) #[] #[]] 62)).cell? ⟨wr.heap.size, 0, none⟩ = some (.func (.func 32) #[] #[]) := by simp
          have hb1 : Below wr.heap.size wr (wr.alloc (.cells #[.func (.func 32) #[] #[]] 62)) := (Below.refl _ _).alloc (Nat.le_refl _) _
          obtain ⟨w0, hw0⟩ : ∃ w0, w0 = wr.alloc (.cells #[.func (.func 32) #[] #[]] 62) := ⟨_, rfl⟩
          rw [← hw0] at c2 hb1
          obtain ⟨bx, hbx⟩ : ∃ bx, bx = wr.heap.size := ⟨_, rfl⟩
          have HBX : Hid (bx = wr.heap.size) := Lib.hid hbx
          have hsz0 : bx < w0.heap.size := by rw [hw0, hbx]; simp
          have hV0 : Ints .i64 w0 (.slice a zs.length cap) zs := by
            obtain ⟨a', cap', he, g1, g2, g3⟩ := HV.out
            refine ⟨a', cap', he, g1, g2, fun i hi => ?_⟩
            obtain ⟨b, off, h1, h2⟩ := g3 i hi
            exact ⟨b, off, h1, (hb1.cell (p := ⟨b, off + i, none⟩) (World.block_lt_of_cell? wr _ h2)).trans h2⟩
          have hcl := clone_any (.slice a zs.length cap) zs w0 hV0 hlen
          have HB1 := Lib.hid hb1
          have HC2 := Lib.hid c2
          clear hb1 c2 hV0
          go_upto_region 13 with fail
          rw [← hw0, ← hbx]
          clear hw0 hbx
          go_wp2_with fail
          refine hcl.mono ?_
          rintro e w1 ⟨u, rfl, hu, hb⟩
          have HB := Lib.hid (HB1.out.trans (hb.mono HB1.out.size))
          have HT1 := Lib.hid (HT.out.grown HB.out)
          have CB : Hid (w1.cell? ⟨bx, 0, none⟩ = some (.func (.func 32) #[] #[])) := Lib.hid (by
            rw [hb.cell (p := ⟨bx, 0, none⟩) hsz0, HBX.out]
            exact HC2.out)
          have hbx1 : bx < w1.heap.size := Nat.lt_of_lt_of_le hsz0 hb.size
          have hu : Hid (w1.ownsRow w0.heap.size 3 1 u zs.length (rc zs)) := Lib.hid hu
          have hw0s : wr.heap.size ≤ w0.heap.size := HB1.out.size
          by_cases hn : zs.length = 0
          · obtain ⟨ua, uc, rfl⟩ := own_slice hu.out
            rw [hn]
            have hs := Stb.sort_none ua uc (.func (.func 34) #[] #[.pointer (some ⟨bx, 0, none⟩)]) w1
            clear hcl hb
            go_wp2_with fail
            refine hs.mono ?_
            rintro e w2 ⟨rfl, rfl⟩
            go_wp2_with fail
            go_ret2
            obtain rfl := List.length_eq_zero_iff.1 hn
            unfold errO resO
            rw [HOK.out]
            have e0 : ordV true [] = [] := by simp [ordV]
            rw [if_pos rfl, e0]
            exact ⟨_, rfl, own_mono hu.out hw0s, HB.out⟩
          · obtain ⟨g, c, rfl, hg1, hg2⟩ := hu.out.form (by omega)
            have hs := sorts true 34 #[.pointer (some ⟨bx, 0, none⟩)] zs w1 w0.heap.size g c (by omega) (by omega) hh.out hu.out (enters_of Tryd.func34 (by kernel_rfl) rfl) (fun m os dk x y => down_any x y _ (tab_apart (d' := dk) ⟨m, os, rfl⟩ HT1.out (by have := HT.out.pos; omega)) bx (by
              rw [Stb.cell_apart (d' := dk) ⟨m, os, rfl⟩ ⟨bx, 0, none⟩ hbx1 (by show bx ≠ g; omega)]
              exact CB.out))
            clear hcl hb
            go_wp2_with fail
            refine hs.mono ?_
            rintro e w2 ⟨rfl, ho, hgr⟩
            have HO := Lib.hid ho
            have HB2 := Lib.hid (HB.out.grown hgr HB.out.size (fun k hk => by cases hk; omega))
            clear ho hgr hs
            go_wp2_with fail
            go_ret2
            unfold errO resO
            rw [HOK.out]
            exact ⟨_, rfl, by rw [if_pos rfl, ordV_len]; exact own_mono HO.out hw0s, HB2.out⟩
end Go.Proofs.YtdhlmflbefnekaaDoor
