/- The document's bag walked: Add, Mark, Undo, Keep. -/
import Derived.Test.YtnkababhgloclaaRBagF
namespace Go.Proofs.Ytnkababhgloclaa
open Go.RowKit Go.ChangeShapes
set_option maxHeartbeats 4000000 in
theorem rput_full {w : World} {B m : Nat} {L : List RT} {last : Int} {closed : Bool} (h : RBagAt w B m L last closed) (hlen : L.length = 256) (id : Int) (tm : Bool) (tn : ByteArray) (tc : Int) (tp : Bool) (tw : ByteArray) :
    Calls Try.prog 66 #[.pointer (some ⟨m, 0, none⟩), .agg #[.int .i64 id, .bool tm, .string tn, .int .i64 tc, .bool tp, .string tw]] w fun e w' => e = .returned (.tuple #[.int .i64 0, .int .i64 3]) ∧ Below w.heap.size w w' := by
  have ba := (Below.refl w.heap.size w).alloc (Nat.le_refl _) (.cells #[.int .i64 id, .bool tm, .string tn, .int .i64 tc, .bool tp, .string tw] 92)
  obtain ⟨a, c, c0, _, _, _⟩ := (h.below ba).cells
  rw [hlen] at c0
  have hge : ((256 : Nat) : Int) ≥ 256 := by decide
  have BA := Lib.hid ba
  clear h ba hlen
  go_enter Try.func66, Try.ntmps66
  go_wp2_with fail
  go_ret2
  exact ⟨rfl, BA.out⟩
set_option maxHeartbeats 4000000 in
theorem rmark_done {w : World} {B m : Nat} {L : List RT} {last : Int} (h : RBagAt w B m L last true) :
    Calls Try.prog 36 #[.pointer (some ⟨m, 0, none⟩)] w fun e w' => e = .returned (.tuple #[.int .i64 0, .int .i64 5]) ∧ w' = w := by
  obtain ⟨a, c, c0, c1, c2, ho⟩ := h.cells
  clear h ho c0 c1
  go_enter Try.func36, Try.ntmps36
  go_wp2_with fail
  go_ret2
  exact ⟨rfl, rfl⟩
set_option maxHeartbeats 4000000 in
theorem rmark_full {w : World} {B m : Nat} {L : List RT} {last : Int} (h : RBagAt w B m L last false) (hlen : L.length = 256) :
    Calls Try.prog 36 #[.pointer (some ⟨m, 0, none⟩)] w fun e w' => e = .returned (.tuple #[.int .i64 0, .int .i64 3]) ∧ Below w.heap.size w w' := by
  have CP := Lib.hid (rput_full h hlen 0 true ⟨#[]⟩ 0 false ⟨#[]⟩)
  obtain ⟨a, c, c0, c1, c2, ho⟩ := h.cells
  clear h ho c0 c1 hlen
  go_enter Try.func36, Try.ntmps36
  go_wp2_with fail
  refine CP.out.mono ?_
  rintro er w2 ⟨rfl, hb⟩
  have FIN := Lib.hid hb
  clear hb CP c2
  go_wp2_with fail
  go_ret2
  exact ⟨rfl, FIN.out⟩
set_option maxHeartbeats 4000000 in
theorem rmark_room {w : World} {B m : Nat} {L : List RT} {last : Int} (h : RBagAt w B m L last false) (hB : B ≤ w.heap.size) (hlen : L.length < 256) (hl0 : 0 ≤ last) (hl1 : last ≤ 4611686018427387904) :
    Calls Try.prog 36 #[.pointer (some ⟨m, 0, none⟩)] w fun e w' => e = .returned (.tuple #[.int .i64 (last + 1), .int .i64 0]) ∧ RBagAt w' B m (L ++ [⟨last + 1, true, ⟨#[]⟩, 0, false, ⟨#[]⟩⟩]) (last + 1) false ∧ Rel B (SD m) w w' := by
  have CP := Lib.hid (rput_room h hB hlen hl0 hl1 0 true ⟨#[]⟩ 0 false ⟨#[]⟩)
  obtain ⟨a, c, c0, c1, c2, ho⟩ := h.cells
  clear h ho c0 c1 hlen hB hl0 hl1
  go_enter Try.func36, Try.ntmps36
  go_wp2_with fail
  refine CP.out.mono ?_
  rintro er w2 ⟨rfl, hb⟩
  have FIN := Lib.hid hb
  clear hb CP c2
  go_wp2_with fail
  go_ret2
  exact ⟨rfl, FIN.out⟩
set_option maxHeartbeats 4000000 in
theorem radd_done {w : World} {B m : Nat} {L : List RT} {last : Int} (h : RBagAt w B m L last true) (id : Int) (tm : Bool) (tn : ByteArray) (tc : Int) (tp : Bool) (tw : ByteArray) :
    Calls Try.prog 44 #[.pointer (some ⟨m, 0, none⟩), .agg #[.int .i64 id, .bool tm, .string tn, .int .i64 tc, .bool tp, .string tw]] w fun e w' => e = .returned (.tuple #[.int .i64 0, .int .i64 5]) ∧ Below w.heap.size w w' := by
  have ba := (Below.refl w.heap.size w).alloc (Nat.le_refl _) (.cells #[.int .i64 id, .bool tm, .string tn, .int .i64 tc, .bool tp, .string tw] 92)
  obtain ⟨a, c, c0, c1, c2, ho⟩ := (h.below ba).cells
  have BA := Lib.hid ba
  clear h ho c0 c1 ba
  go_enter Try.func44, Try.ntmps44
  go_wp2_with fail
  go_ret2
  exact ⟨rfl, BA.out⟩
set_option maxHeartbeats 4000000 in
theorem radd_open {w : World} {B m : Nat} {L : List RT} {last : Int} (h : RBagAt w B m L last false) (id : Int) (tm : Bool) (tn : ByteArray) (tc : Int) (tp : Bool) (tw : ByteArray) {Q : Int → Int → World → Prop}
    (hlong : 31 < tn.size → ∀ w', Below w.heap.size w w' → Q 0 1 w')
    (hput : tn.size ≤ 31 → ∀ w', Below w.heap.size w w' → Calls Try.prog 66 #[.pointer (some ⟨m, 0, none⟩), .agg #[.int .i64 id, .bool tm, .string tn, .int .i64 tc, .bool tp, .string tw]] w' fun e w'' => ∃ x y : Int, e = .returned (.tuple #[.int .i64 x, .int .i64 y]) ∧ Q x y w'') :
    Calls Try.prog 44 #[.pointer (some ⟨m, 0, none⟩), .agg #[.int .i64 id, .bool tm, .string tn, .int .i64 tc, .bool tp, .string tw]] w fun e w'' => ∃ x y : Int, e = .returned (.tuple #[.int .i64 x, .int .i64 y]) ∧ Q x y w'' := by
  have ba := (Below.refl w.heap.size w).alloc (Nat.le_refl _) (.cells #[.int .i64 id, .bool tm, .string tn, .int .i64 tc, .bool tp, .string tw] 92)
  have cb := heap_alloc_new w (.cells #[.int .i64 id, .bool tm, .string tn, .int .i64 tc, .bool tp, .string tw] 92)
  obtain ⟨a, c, c0, c1, c2, ho⟩ := (h.below ba).cells
  have BA := Lib.hid ba
  obtain ⟨p3, hp3⟩ : ∃ p, p = w.heap.size := ⟨_, rfl⟩
  obtain ⟨wa, hwa⟩ : ∃ x, x = w.alloc (.cells #[.int .i64 id, .bool tm, .string tn, .int .i64 tc, .bool tp, .string tw] 92) := ⟨_, rfl⟩
  rw [← hwa] at cb BA c2
  rw [← hp3] at cb
  have s0 := (cell_of_row wa p3 0 _ _ _ cb).trans (show (#[Value.int .i64 id, .bool tm, .string tn, .int .i64 tc, .bool tp, .string tw] : Array Value)[0]? = some (.int .i64 id) from rfl)
  have s1 := (cell_of_row wa p3 1 _ _ _ cb).trans (show (#[Value.int .i64 id, .bool tm, .string tn, .int .i64 tc, .bool tp, .string tw] : Array Value)[1]? = some (.bool tm) from rfl)
  have s2 := (cell_of_row wa p3 2 _ _ _ cb).trans (show (#[Value.int .i64 id, .bool tm, .string tn, .int .i64 tc, .bool tp, .string tw] : Array Value)[2]? = some (.string tn) from rfl)
  have s3 := (cell_of_row wa p3 3 _ _ _ cb).trans (show (#[Value.int .i64 id, .bool tm, .string tn, .int .i64 tc, .bool tp, .string tw] : Array Value)[3]? = some (.int .i64 tc) from rfl)
  have s4 := (cell_of_row wa p3 4 _ _ _ cb).trans (show (#[Value.int .i64 id, .bool tm, .string tn, .int .i64 tc, .bool tp, .string tw] : Array Value)[4]? = some (.bool tp) from rfl)
  have s5 := (cell_of_row wa p3 5 _ _ _ cb).trans (show (#[Value.int .i64 id, .bool tm, .string tn, .int .i64 tc, .bool tp, .string tw] : Array Value)[5]? = some (.string tw) from rfl)
  have HWA := Lib.hid hwa
  have HP3 := Lib.hid hp3
  have HLO := Lib.hid hlong
  have HPU := Lib.hid hput
  clear h ho c0 c1 ba cb hwa hp3 hlong hput
  by_cases hn : tn.size ≤ 31
  · have CP := Lib.hid (HPU.out hn wa BA.out)
    have hlt : ¬ ((tn.size : Int) > 31) := by omega
    clear hn
    go_enter Try.func44, Try.ntmps44
    go_upto_region 1 with fail
    rw [← HWA.out, ← HP3.out]
    go_wp2_with fail
    refine CP.out.mono ?_
    rintro er w2 ⟨x, y, rfl, hQ⟩
    have FIN := Lib.hid hQ
    clear hQ CP
    go_wp2_with fail
    go_ret2
    exact ⟨_, _, rfl, FIN.out⟩
  · have FIN := Lib.hid (HLO.out (by omega) wa BA.out)
    have hlt : (tn.size : Int) > 31 := by omega
    clear hn
    go_enter Try.func44, Try.ntmps44
    go_upto_region 1 with fail
    rw [← HWA.out, ← HP3.out]
    go_wp2_with fail
    go_ret2
    exact ⟨_, _, rfl, FIN.out⟩
theorem radd_long {w : World} {B m : Nat} {L : List RT} {last : Int} (h : RBagAt w B m L last false) (id : Int) (tm : Bool) (tn : ByteArray) (tc : Int) (tp : Bool) (tw : ByteArray) (hn : 31 < tn.size) :
    Calls Try.prog 44 #[.pointer (some ⟨m, 0, none⟩), .agg #[.int .i64 id, .bool tm, .string tn, .int .i64 tc, .bool tp, .string tw]] w fun e w' => e = .returned (.tuple #[.int .i64 0, .int .i64 1]) ∧ Below w.heap.size w w' := by
  refine (radd_open h id tm tn tc tp tw (Q := fun x y w' => x = 0 ∧ y = 1 ∧ Below w.heap.size w w') (fun _ w' hb => ⟨rfl, rfl, hb⟩) (fun hle => by omega)).mono ?_
  rintro e w' ⟨x, y, rfl, rfl, rfl, hb⟩
  exact ⟨rfl, hb⟩
theorem radd_full {w : World} {B m : Nat} {L : List RT} {last : Int} (h : RBagAt w B m L last false) (hlen : L.length = 256) (id : Int) (tm : Bool) (tn : ByteArray) (tc : Int) (tp : Bool) (tw : ByteArray) (hn : tn.size ≤ 31) :
    Calls Try.prog 44 #[.pointer (some ⟨m, 0, none⟩), .agg #[.int .i64 id, .bool tm, .string tn, .int .i64 tc, .bool tp, .string tw]] w fun e w' => e = .returned (.tuple #[.int .i64 0, .int .i64 3]) ∧ Below w.heap.size w w' := by
  refine (radd_open h id tm tn tc tp tw (Q := fun x y w' => x = 0 ∧ y = 3 ∧ Below w.heap.size w w') (fun hlt => by omega) (fun _ w' hb => (rput_full (h.below hb) hlen id tm tn tc tp tw).mono ?_)).mono ?_
  · rintro e w'' ⟨rfl, hb2⟩
    exact ⟨_, _, rfl, rfl, rfl, hb.trans (hb2.mono hb.size)⟩
  · rintro e w' ⟨x, y, rfl, rfl, rfl, hb⟩
    exact ⟨rfl, hb⟩
theorem radd_room {w : World} {B m : Nat} {L : List RT} {last : Int} (h : RBagAt w B m L last false) (hB : B ≤ w.heap.size) (hlen : L.length < 256) (hl0 : 0 ≤ last) (hl1 : last ≤ 4611686018427387904) (id : Int) (tm : Bool) (tn : ByteArray) (tc : Int) (tp : Bool) (tw : ByteArray) (hn : tn.size ≤ 31) :
    Calls Try.prog 44 #[.pointer (some ⟨m, 0, none⟩), .agg #[.int .i64 id, .bool tm, .string tn, .int .i64 tc, .bool tp, .string tw]] w fun e w' => e = .returned (.tuple #[.int .i64 (last + 1), .int .i64 0]) ∧ RBagAt w' B m (L ++ [⟨last + 1, tm, tn, tc, tp, tw⟩]) (last + 1) false ∧ Rel B (SD m) w w' := by
  refine (radd_open h id tm tn tc tp tw (Q := fun x y w' => x = last + 1 ∧ y = 0 ∧ RBagAt w' B m (L ++ [⟨last + 1, tm, tn, tc, tp, tw⟩]) (last + 1) false ∧ Rel B (SD m) w w') (fun hlt => by omega) (fun _ w' hb => (rput_room (h.below hb) (Nat.le_trans hB hb.size) hlen hl0 hl1 id tm tn tc tp tw).mono ?_)).mono ?_
  · rintro e w'' ⟨rfl, h1, h2⟩
    exact ⟨_, _, rfl, rfl, rfl, h1, (Rel.below hb).trans h2⟩
  · rintro e w' ⟨x, y, rfl, rfl, rfl, hb⟩
    exact ⟨rfl, hb⟩
end Go.Proofs.Ytnkababhgloclaa
