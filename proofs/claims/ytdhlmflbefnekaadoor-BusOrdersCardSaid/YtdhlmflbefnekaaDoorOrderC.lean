/- bus.Order: what it returns. -/
import Derived.Test.YtdhlmflbefnekaaDoorTurnC
import Derived.Test.YtdhlmflbefnekaaDoorStabO
import Derived.Test.YtdhlmflbefnekaaDoorTables
namespace Go.Proofs.YtdhlmflbefnekaaDoor
open Go.RowKit Go.ChangeShapes
theorem ints_of_own {w : World} {B e : Nat} {u : Value} {n : Nat} {zs : List Int} (h : w.ownsRow B e 1 u n (rc zs)) (hn : zs.length = n) (hm : n ≤ maxLen) : Ints .i64 w u zs := by
  have h' := h
  rcases h.2 with ⟨rfl, h0⟩ | ⟨g, cap, cur, rfl, _⟩
  · subst h0
    exact ⟨none, 0, by rw [hn], by omega, fun _ => ⟨List.length_eq_zero_iff.1 hn, rfl⟩, fun i hi => by omega⟩
  · exact ⟨some ⟨g, 0, none⟩, cap, by rw [hn], by omega, (fun h => by cases h), fun i hi => ⟨g, 0, rfl, by rw [Nat.zero_add]; exact rc_at h' hn i (by omega)⟩⟩
theorem cmp64_any (a b : Int) (w : World) : Calls Tryd.prog 33 #[.int .i64 a, .int .i64 b] w fun e w' => e = .returned (.int .i64 (if a < b then -1 else if b < a then 1 else 0)) ∧ w = w' := by
  by_cases h1 : a < b
  · rw [if_pos h1]
    go_enter Tryd.func33, Tryd.ntmps33
    go_wp2
    go_ret
    exact ⟨rfl, rfl⟩
  · by_cases h2 : b < a
    · rw [if_neg h1, if_pos h2]
      go_enter Tryd.func33, Tryd.ntmps33
      go_wp2
      go_ret
      exact ⟨rfl, rfl⟩
    · rw [if_neg h1, if_neg h2]
      go_enter Tryd.func33, Tryd.ntmps33
      go_wp2
      go_ret
      exact ⟨rfl, rfl⟩
/-- The test, by the places' numbers. -/
def cmpN (x y : Fin 20) : Int := if x.val < y.val then -1 else if y.val < x.val then 1 else 0
theorem bus_mono : ∀ x y : Fin 20, (if nth busL x.val < nth busL y.val then (-1 : Int) else if nth busL y.val < nth busL x.val then 1 else 0) = cmpN x y := by decide +kernel
set_option maxHeartbeats 1000000 in
theorem by_any (x y : Fin 20) (w : World) (hT : busAt w) : Calls Tryd.prog 32 #[.int .i64 (x.val : Int), .int .i64 (y.val : Int)] w fun e w' => e = .returned (.int .i64 (cmpN x y)) ∧ ∃ q, w' = w.drewN q := by
  have hc := fun w => cmp64_any (nth busL x.val) (nth busL y.val) w
  rw [bus_mono x y] at hc
  have c1 := hT.cell x.val x.isLt
  have c2 := hT.cell y.val y.isLt
  have x0 := x.isLt
  have y0 := y.isLt
  generalize cmpN x y = r at *
  generalize nth busL x.val = X at *
  generalize nth busL y.val = Y at *
  generalize x.val = i at *
  generalize y.val = j at *
  clear hT
  go_enter Tryd.func32, Tryd.ntmps32
  go_wp2_with fail
  go_quiet ((go_at_call 33; exact Calls.quiet_of_same ((hc _).mono fun _ _ ⟨h, e⟩ => ⟨h, e.symm⟩)))
  go_wp2_with fail
  go_ret
  exact ⟨rfl, _, rfl⟩
set_option maxHeartbeats 1000000 in
theorem down_any (x y : Fin 20) (w : World) (hT : busAt w) (bx : Nat) (hb : w.cell? ⟨bx, 0, none⟩ = some (.func (.func 32) #[] #[])) : Calls Tryd.prog 34 #[.int .i64 (x.val : Int), .int .i64 (y.val : Int), .pointer (some ⟨bx, 0, none⟩)] w fun e w' => e = .returned (.int .i64 (cmpN y x)) ∧ ∃ q, w' = w.drewN q := by
  have hc := by_any y x w hT
  clear hT
  generalize (x.val : Int) = i at *
  generalize (y.val : Int) = j at *
  go_enter Tryd.func34, Tryd.ntmps34
  go_wp2_with fail
  refine hc.mono ?_
  rintro e w' ⟨rfl, q, rfl⟩
  go_wp2_with fail
  go_ret
  exact ⟨rfl, _, rfl⟩
set_option maxHeartbeats 1000000 in
theorem clone_any (v : Value) (zs : List Int) (w : World) (hv : Ints .i64 w v zs) (hlen : zs.length ≤ 17592186044416) : Calls Tryd.prog 35 #[v] w fun e w' => ∃ u, e = .returned u ∧ w'.ownsRow w.heap.size 3 1 u zs.length (rc zs) ∧ Below w.heap.size w w' := by
  obtain ⟨a, cap, rfl, hm, hnil, hc⟩ := hv
  obtain ⟨iv, hj, hy0, hy1, hy2⟩ := info_parts infoInt'
  cases a with
  | none =>
    obtain ⟨rfl, rfl⟩ := hnil rfl
    clear hc hm hnil
    have hn : ∀ w, Sem.run Tryd.prog (binOp BinOp.eql 43 (.slice none 0 0) (.slice none 0 0)) w = Result.ok (.bool true) w := fun w => by kernel_rfl
    simp only [List.length_nil]
    go_enter Tryd.func35, Tryd.ntmps35
    go_wp2_with fail
    go_ret
    exact ⟨_, rfl, World.ownsRow_nil _ _ _ _, Below.refl _ _⟩
  | some ad =>
    have o0 : Hid ((w.alloc (.cells #[] 3)).ownsRow w.heap.size 3 1 (.slice (some ⟨w.heap.size, 0, none⟩) 0 0) 0 (rc [])) := Lib.hid (World.ownsRow_lit (w := w) #[] 0 (Nat.le_refl _) (by simp) rfl)
    have hsrc : Hid (∀ j u, (rc zs)[j]? = some u → (w.alloc (.cells #[] 3)).cell? (ad.add j) = some u) := Lib.hid (fun j u hj => by
      have hjl : j < zs.length := by
        have := (List.getElem?_eq_some_iff.1 hj).1
        rwa [rc_len] at this
      obtain ⟨b, off, hp, hcell⟩ := hc j hjl
      obtain rfl := Option.some.inj hp
      rw [addr_add, ((Below.refl w.heap.size w).alloc (Nat.le_refl _) _).cell (p := ⟨b, off + j, none⟩) (World.block_lt_of_cell? w _ hcell), hcell]
      simp [rc, hjl, nth_eq hjl] at hj ⊢
      exact hj)
    clear hc hnil hm
    have hn : ∀ w, Sem.run Tryd.prog (binOp BinOp.eql 43 (.slice (some ad) zs.length cap) (.slice none 0 0)) w = Result.ok (.bool false) w := fun w => by kernel_rfl
    go_enter Tryd.func35, Tryd.ntmps35
    go_wp2_with (refine wpList_append_own _ rfl (.tmp 5) (.tmp 6) 43 rfl w.heap.size 3 iv (.int .i64 0) 1 8 Tryd.underlying43 hj hy0 hy1 hy2 rfl (by decide) _ 0 (rc []) rfl o0.out ad zs.length cap (rc zs) (by rfl) (by rw [rc_len, Nat.mul_one]) hsrc.out (rc_one zs) (by unfold maxLen; omega) (by omega) (by rw [size_alloc]; exact Nat.le_succ _) ?_)
    intro v1 w1 h1 h2 h3
    have H1 : Hid (w1.ownsRow w.heap.size 3 1 v1 zs.length (rc zs)) := Lib.hid (by simpa [rc] using h1)
    have H2 : Hid (Below w.heap.size w w1) := Lib.hid (((Below.refl w.heap.size w).alloc (Nat.le_refl _) (.cells #[] 3)).grown h2 (by rw [size_alloc]; exact Nat.le_succ _) (fun k hk => by simp [Value.ownBlock] at hk; omega))
    clear h1 h2 h3 o0 hsrc
    go_wp2_with fail
    go_ret
    exact ⟨_, rfl, H1.out, H2.out⟩
end Go.Proofs.YtdhlmflbefnekaaDoor
