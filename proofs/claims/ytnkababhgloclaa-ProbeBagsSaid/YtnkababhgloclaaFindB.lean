/- The place of a thing, or of a mark, in a bag: find, its closure, the library's IndexFunc. -/
import Derived.Test.YtnkababhgloclaaPutC
import Derived.Deep.LoopGhost
namespace Go.Proofs.Ytnkababhgloclaa
open Go.RowKit Go.ChangeShapes
def matchT (id : Int) (mark : Bool) (t : Th) : Bool := decide (t.id = id) && (t.fn.isNone == mark)
/-- Its place; none: there is none. -/
def posT (L : List Th) (id : Int) (mark : Bool) : Option Nat := L.findIdx? (matchT id mark)
def placeI : Option Nat → Int
  | none => -1
  | some i => i
theorem posT_none {L : List Th} {id : Int} {mark : Bool} (h : ∀ j (hj : j < L.length), matchT id mark L[j] = false) : posT L id mark = none := by
  unfold posT
  rw [List.findIdx?_eq_none_iff]
  intro x hx
  obtain ⟨j, hj, rfl⟩ := List.getElem_of_mem hx
  exact h j hj
theorem posT_some {L : List Th} {id : Int} {mark : Bool} {k : Nat} (hk : k < L.length) (h1 : matchT id mark L[k] = true) (h : ∀ j (hj : j < k), matchT id mark (L[j]'(by omega)) = false) : posT L id mark = some k := by
  unfold posT
  rw [List.findIdx?_eq_some_iff_getElem]
  exact ⟨hk, h1, fun j hj => by rw [h j hj]; simp⟩
theorem posT_lt {L : List Th} {id : Int} {mark : Bool} {k : Nat} (h : posT L id mark = some k) : ∃ hk : k < L.length, matchT id mark L[k] = true := by
  unfold posT at h
  rw [List.findIdx?_eq_some_iff_getElem] at h
  obtain ⟨hk, h1, _⟩ := h
  exact ⟨hk, h1⟩
/-- The closure: is it that one? -/
def GB (b : Bool) (w : World) (e : Ending) (w' : World) : Prop := e = .returned (.bool b) ∧ Below w.heap.size w w'
set_option maxHeartbeats 4000000 in
theorem cl_any (p q : Nat) (x id : Int) (mark : Bool) (name : ByteArray) (fn : Option (Nat × Array Value)) (w : World) (hp : w.cell? ⟨p, 0, none⟩ = some (.int .i64 id)) (hq : w.cell? ⟨q, 0, none⟩ = some (.bool mark)) :
    Calls Try.prog 77 #[.agg #[.int .i64 x, .string name, fnV fn], .pointer (some ⟨p, 0, none⟩), .pointer (some ⟨q, 0, none⟩)] w (GB (matchT id mark ⟨x, name, fn⟩) w) := by
  have h0 := fn_none
  have h1 := fn_some
  have pp : ∀ v : Value, (w.alloc (.cells #[.int .i64 x, .string name, v] 101)).cell? ⟨p, 0, none⟩ = some (.int .i64 id) := fun v => (((Below.refl _ w).alloc (Nat.le_refl _) (.cells #[.int .i64 x, .string name, v] 101)).cell (p := ⟨p, 0, none⟩) (World.block_lt_of_cell? w _ hp)).trans hp
  have qq : ∀ v : Value, (w.alloc (.cells #[.int .i64 x, .string name, v] 101)).cell? ⟨q, 0, none⟩ = some (.bool mark) := fun v => (((Below.refl _ w).alloc (Nat.le_refl _) (.cells #[.int .i64 x, .string name, v] 101)).cell (p := ⟨q, 0, none⟩) (World.block_lt_of_cell? w _ hq)).trans hq
  have BB : Hid (∀ v : Value, Below w.heap.size w (w.alloc (.cells #[.int .i64 x, .string name, v] 101))) := Lib.hid (fun v => (Below.refl _ w).alloc (Nat.le_refl _) _)
  by_cases hx : x = id
  · have e1 : decide (x = id) = true := decide_eq_true hx
    rcases fn with _ | ⟨k, c⟩ <;> cases mark
    all_goals
      have p1 := pp .nilFunc
      have q1 := qq .nilFunc
      unfold matchT
      simp only [hx, decide_true, fnV, Option.isNone_none, Option.isNone_some, Bool.true_and]
      subst hx
      clear hp hq
    · go_enter Try.func77, Try.ntmps77
      go_wp2_with fail
      go_ret
      exact ⟨rfl, BB.out _⟩
    · go_enter Try.func77, Try.ntmps77
      go_wp2_with fail
      go_ret
      exact ⟨rfl, BB.out _⟩
    · have p1 := pp (.func (.func k) #[] c)
      have q1 := qq (.func (.func k) #[] c)
      go_enter Try.func77, Try.ntmps77
      go_wp2_with fail
      go_ret
      exact ⟨rfl, BB.out _⟩
    · have p1 := pp (.func (.func k) #[] c)
      have q1 := qq (.func (.func k) #[] c)
      go_enter Try.func77, Try.ntmps77
      go_wp2_with fail
      go_ret
      exact ⟨rfl, BB.out _⟩
  · have e1 : decide (x = id) = false := decide_eq_false hx
    have hm : matchT id mark ⟨x, name, fn⟩ = false := by simp [matchT, e1]
    rw [hm]
    rcases fn with _ | ⟨k, c⟩
    all_goals
      simp only [fnV]
      clear hp hq
    · have p1 := pp .nilFunc
      go_enter Try.func77, Try.ntmps77
      go_wp2_with fail
      go_ret
      exact ⟨rfl, BB.out _⟩
    · have p1 := pp (.func (.func k) #[] c)
      go_enter Try.func77, Try.ntmps77
      go_wp2_with fail
      go_ret
      exact ⟨rfl, BB.out _⟩
set_option maxHeartbeats 8000000 in
set_option maxRecDepth 100000 in
theorem idxf_any (B : Nat) (L : List Th) (a : Option Addr) (c p q : Nat) (id : Int) (mark : Bool) (w : World) (ho : w.ownsRow B 101 3 (.slice a L.length c) L.length (hc L)) (hp : w.cell? ⟨p, 0, none⟩ = some (.int .i64 id)) (hq : w.cell? ⟨q, 0, none⟩ = some (.bool mark)) (hl : L.length ≤ 256) :
    Calls Try.prog 76 #[.slice a L.length c, .func (.func 77) #[] #[.pointer (some ⟨p, 0, none⟩), .pointer (some ⟨q, 0, none⟩)]] w fun e w' => e = .returned (.int .i64 (placeI (posT L id mark))) ∧ Below w.heap.size w w' := by
  have HO := Lib.hid ho
  have HP := Lib.hid hp
  have HQ := Lib.hid hq
  obtain ⟨n, hn⟩ : ∃ n, L.length = n := ⟨_, rfl⟩
  have HN := Lib.hid hn
  rw [hn] at hl HO ⊢
  clear ho hp hq hn
  go_enter Try.func76, Try.ntmps76
  go_wp2_with fail
  go_loopg [8] n (fun r v wr => ∃ k : Nat, k ≤ n ∧ r = n - k ∧ v = .int .i64 k ∧ Hid (Below w.heap.size w wr ∧ ∀ j (hj : j < L.length), j < k → matchT id mark L[j] = false))
  case atStart => exact ⟨0, by omega, by omega, rfl, Lib.hid ⟨Below.refl _ _, fun j _ h => by omega⟩⟩
  case round =>
    obtain ⟨k, hk, hr, rfl, hq⟩ := hrel
    have HR := Lib.hid hr
    have BB := Lib.hid hq.out.1
    have NO := Lib.hid hq.out.2
    clear hr hq
    by_cases hlt : k < n
    · have hkL : k < L.length := by rw [HN.out]; exact hlt
      obtain ⟨g, cap', hform, hgB, hgl⟩ := HO.out.form (by omega)
      injection hform with e1 _ e3
      subst e1 e3
      obtain ⟨t, ht⟩ : ∃ t, L[k]'hkL = t := ⟨_, rfl⟩
      have OW := own_below HO.out BB.out
      have gx : ∀ j (u : Value), t.cells[j]? = some u → wr.cell? ⟨g, k * 3 + j, none⟩ = some u := fun j u hu => by
        have h3 := tcell_lt hu
        rw [OW.cellAt (k * 3 + j) (by omega)]
        exact hc_at L k hkL j u (by rw [ht]; exact hu)
      obtain ⟨x, name, fn⟩ := t
      have g0 : wr.cell? ⟨g, k * 3, none⟩ = some (.int .i64 x) := gx 0 _ rfl
      have g1 : wr.cell? ⟨g, k * 3 + 1, none⟩ = some (.string name) := gx 1 _ rfl
      have g2 : wr.cell? ⟨g, k * 3 + 2, none⟩ = some (fnV fn) := gx 2 _ rfl
      have CC := cl_any p q x id mark name fn wr ((BB.out.cell (p := ⟨p, 0, none⟩) (World.block_lt_of_cell? w _ HP.out)).trans HP.out) ((BB.out.cell (p := ⟨q, 0, none⟩) (World.block_lt_of_cell? w _ HQ.out)).trans HQ.out)
      have hkc1 : (0 : Int) ≤ (k : Int) := by omega
      have hkc2 : (k : Int) < (n : Int) := by omega
      have HT := Lib.hid ht
      clear gx OW ht
      have CC := Lib.hid CC
      rcases fn with _ | ⟨kf, cf⟩
      all_goals
        simp only [fnV] at g2 CC
        obtain ⟨mm, hmm⟩ : ∃ m, matchT id mark (L[k]'hkL) = m := ⟨_, rfl⟩
        have HM := Lib.hid hmm
        rw [HT.out] at hmm
        rw [hmm] at CC
        clear hmm
        go_wp2_with fail
        refine CC.out.mono ?_
        rintro er w2 ⟨rfl, hb⟩
        have B2 := Lib.hid (BB.out.trans (hb.mono BB.out.size))
        clear hb CC g0 g1 g2
        cases mm with
        | true =>
          have HRES : Hid (placeI (posT L id mark) = (k : Int)) := Lib.hid (by rw [posT_some hkL HM.out (fun j hj => NO.out j (by omega) hj)]; rfl)
          go_wp2_with fail
          go_ret
          rw [HRES.out]
          exact ⟨rfl, B2.out⟩
        | false =>
          have NO2 : Hid (∀ j (hj : j < L.length), j < k + 1 → matchT id mark L[j] = false) := Lib.hid (fun j hj hjk => by
            by_cases h : j < k
            · exact NO.out j hj h
            · obtain rfl : j = k := by omega
              exact HM.out)
          go_wp2_with fail
          go_roundg (n - (k + 1))
          case measure => rw [HR.out]; omega
          case rel => exact ⟨k + 1, by omega, rfl, by first | rfl | simp, Lib.hid ⟨B2.out, NO2.out⟩⟩
    · obtain rfl : k = n := by omega
      have HRES : Hid (placeI (posT L id mark) = -1) := Lib.hid (by rw [posT_none (fun j hj => NO.out j hj (by rw [← HN.out]; exact hj))]; rfl)
      go_wp2_with fail
      go_ret
      rw [HRES.out]
      exact ⟨rfl, BB.out⟩
set_option maxHeartbeats 4000000 in
set_option maxRecDepth 100000 in
theorem find_any {w : World} {B b : Nat} {L : List Th} {last : Int} {busy closed : Bool} (h : BagAt w B b L last busy closed) (hl : L.length ≤ 256) (id : Int) (mark : Bool) :
    Calls Try.prog 62 #[.pointer (some ⟨b, 0, none⟩), .int .i64 id, .bool mark] w fun e w' => e = .returned (.int .i64 (placeI (posT L id mark))) ∧ Below w.heap.size w w' := by
  have hmf : ∀ (fn : Fn) (first cap : Array Value) (w : World), (Instr.makeFunc fn first cap).run Try.prog w = .ok (.func fn first cap) w := fun _ _ _ _ => rfl
  obtain ⟨a, c, c0, _, _, _, ho⟩ := h.cells
  have b1 : Below w.heap.size w ((w.alloc (.cells #[.int .i64 id] 3)).alloc (.cells #[.bool mark] 4)) := ((Below.refl _ w).alloc (Nat.le_refl _) _).alloc (by simp) _
  have B1 := Lib.hid b1
  have d0 : ((w.alloc (.cells #[.int .i64 id] 3)).alloc (.cells #[.bool mark] 4)).cell? ⟨b, 0, none⟩ = some (.slice a L.length c) := (b1.cell (p := ⟨b, 0, none⟩) (World.block_lt_of_cell? w _ c0)).trans c0
  have hz : (w.alloc (.cells #[.int .i64 id] 3)).heap.size = w.heap.size + 1 := by simp
  have e1 := heap_alloc2_new w (.cells #[.int .i64 id] 3) (.cells #[.bool mark] 4)
  have CI := Lib.hid (idxf_any B L a c w.heap.size (w.heap.size + 1) id mark _ (own_below ho b1) ((cell_of_row _ w.heap.size 0 _ 3 (0, 0) (((Below.refl (w.heap.size + 1) (w.alloc (.cells #[.int .i64 id] 3))).alloc (by simp) (.cells #[.bool mark] 4)).block w.heap.size (by omega) |>.trans (heap_alloc_new w _))).trans rfl) ((cell_of_row _ (w.heap.size + 1) 0 _ 4 (0, 0) e1).trans rfl) hl)
  clear h c0 ho b1
  go_enter Try.func62, Try.ntmps62
  go_wp2_with fail
  refine CI.out.mono ?_
  rintro er w2 ⟨rfl, hb⟩
  have B2 := Lib.hid (B1.out.trans (hb.mono B1.out.size))
  clear hb
  go_wp2_with fail
  go_ret
  exact ⟨rfl, B2.out⟩
end Go.Proofs.Ytnkababhgloclaa
