/- A card enters a registry that is full; Enter, whatever comes. -/
import Derived.Test.YtpafbnmncioppaaPEnterC
namespace Go.Proofs.Ytpafbnmncioppaa
open Go.RowKit Go.ChangeShapes Tx Nm
set_option linter.unusedSectionVars false
variable [RE]
set_option maxHeartbeats 8000000 in
set_option maxRecDepth 100000 in
theorem enter_full_taken (b B : Nat) (cs rs : List Cd) (n f q : ByteArray) (l s e : Int) (ss : List ByteArray) (sl : Value) (w : World) (h : Reg w B b cs rs false) (hB : B ≤ w.heap.size) (hml : ∀ i (h : i < cs.length), cs[i].comp.length ≤ maxLen) (hs : Strs w sl ss) (hok : Cd.ok ⟨n, f, l, ss, s, q, e⟩) (hm : mayB ⟨n, f, l, ss, s, q, e⟩ = true) (ht : namedB cs n = true) (hr : rs.length = 64) :
    Calls Try.prog 28 #[.pointer (some ⟨b, 0, none⟩), .agg #[.string n, .string f, .int .u8 l, sl, .int .i8 s, .string q, .int .i16 e]] w (Ent w B b 3 cs rs false) := by
  have b1 : Below w.heap.size w (w.alloc (.cells #[.string n, .string f, .int .u8 l, sl, .int .i8 s, .string q, .int .i16 e] 38)) := (Below.refl _ w).alloc (Nat.le_refl _) _
  have HRH := Lib.hid hr
  clear hr
  have HR := Lib.hid h
  have B1 := Lib.hid b1
  have HML := Lib.hid hml
  have HB := Lib.hid hB
  have CM := may_walk n f q l s e ss sl _ (hs.below b1) hok
  rw [hm] at CM
  have CM := Lib.hid CM
  have HT := Lib.hid ht
  have hz : (w.alloc (.cells #[.string n, .string f, .int .u8 l, sl, .int .i8 s, .string q, .int .i16 e] 38)).heap.size = w.heap.size + 1 := by simp
  have HZ := Lib.hid hz
  have hcn : cs.length ≤ 64 := by obtain ⟨C, m, h1, h2, h3, _⟩ := h; exact h3
  obtain ⟨C, m, h1, h2, h3, h4, h5, h6, h7, h8, h9, h10⟩ := h.below b1
  have c3 := reg_cell h1 1923 h8
  clear h b1 h1 h2 h3 h4 h5 h6 h7 h8 h9 h10 hs hm ht hml hz hB
  go_enter Try.func28, Try.ntmps28
  go_wp2_with fail
  refine CM.out.mono ?_
  rintro er w1 ⟨rfl, hb⟩
  rw [HZ.out] at hb
  have B2 := Lib.hid (B1.out.trans (hb.mono (by omega)))
  have K1 := Lib.hid (box_cells hb)
  have X1 := Lib.hid hb
  have R1 := Lib.hid (HR.out.below B2.out)
  clear hb c3
  have k0 := K1.out.1
  obtain ⟨C, m, h1, h2, h3, h4, h5, h6, h7, h8, h9, h10⟩ := R1.out
  have c0 := reg_cell h1 1920 h5
  clear h1 h2 h3 h4 h5 h6 h7 h8 h9 h10
  have CH := has_any (.slice (some ⟨b, 0, none⟩) cs.length 64) cs w.heap.size n w1.drew (R1.out.cards HML.out) k0
  rw [HT.out] at CH
  have CH := Lib.hid CH
  have hc1 : (0 : Int) ≤ (cs.length : Int) := by omega
  have hc2 : (cs.length : Int) ≤ 64 := by omega
  go_wp2_with fail
  refine wp_region_any (by kernel_rfl) ?_
  refine wpAny_take (i := 0) (v := ?_) rfl (by kernel_rfl) (by kernel_rfl) (by kernel_rfl) (fun _ _ _ h => h) (Or.inl ⟨by kernel_rfl, ?_⟩) ?_
  rotate_left
  · intro w
    go_simp
    try with_reducible rfl
  simp only [Act.put, List.getElem_toArray, List.getElem_cons_zero, List.getElem_cons_succ, List.setIfInBounds_toArray, List.set_cons_zero, List.set_cons_succ]
  refine wpAny_take (i := 1) (v := ?_) rfl (by kernel_rfl) (by kernel_rfl) (by kernel_rfl) (fun _ _ _ h => h) (Or.inl ⟨by kernel_rfl, ?_⟩) ?_
  rotate_left
  · intro w
    go_simp
    try with_reducible rfl
  simp only [Act.put, List.getElem_toArray, List.getElem_cons_zero, List.getElem_cons_succ, List.setIfInBounds_toArray, List.set_cons_zero, List.set_cons_succ]
  refine wpAny_take (i := 2) (v := ?_) rfl (by kernel_rfl) (by kernel_rfl) (by kernel_rfl) (fun _ _ _ h => h) (Or.inl ⟨by kernel_rfl, ?_⟩) ?_
  rotate_left
  · intro w
    go_simp
    try with_reducible rfl
  simp only [Act.put, List.getElem_toArray, List.getElem_cons_zero, List.getElem_cons_succ, List.setIfInBounds_toArray, List.set_cons_zero, List.set_cons_succ]
  refine wpAny_take (i := 3) (v := ?_) rfl (by kernel_rfl) (by kernel_rfl) (by kernel_rfl) (fun _ _ _ h => h) (Or.inl ⟨by kernel_rfl, ?_⟩) ?_
  rotate_left
  · intro w
    go_simp
    try with_reducible rfl
  simp only [Act.put, List.getElem_toArray, List.getElem_cons_zero, List.getElem_cons_succ, List.setIfInBounds_toArray, List.set_cons_zero, List.set_cons_succ]
  refine wpAny_take (i := 4) (v := ?_) rfl (by kernel_rfl) (by kernel_rfl) (by kernel_rfl) (fun _ _ _ h => h) (Or.inl ⟨by kernel_rfl, ?_⟩) ?_
  rotate_left
  · intro w
    go_simp
    try with_reducible rfl
  simp only [Act.put, List.getElem_toArray, List.getElem_cons_zero, List.getElem_cons_succ, List.setIfInBounds_toArray, List.set_cons_zero, List.set_cons_succ]
  refine wpAny_take (i := 5) (v := ?_) rfl (by kernel_rfl) (by kernel_rfl) (by kernel_rfl) (fun _ _ _ h => h) (Or.inl ⟨by kernel_rfl, ?_⟩) ?_
  rotate_left
  · intro w
    go_simp
    try with_reducible rfl
  simp only [Act.put, List.getElem_toArray, List.getElem_cons_zero, List.getElem_cons_succ, List.setIfInBounds_toArray, List.set_cons_zero, List.set_cons_succ]
  refine wpAny_take (i := 8) (v := ?_) rfl (by kernel_rfl) (by kernel_rfl) (by kernel_rfl) (fun _ _ _ h => h) (Or.inl ⟨by kernel_rfl, ?_⟩) ?_
  rotate_left
  · intro w
    go_simp
    try with_reducible rfl
  simp only [Act.put, List.getElem_toArray, List.getElem_cons_zero, List.getElem_cons_succ, List.setIfInBounds_toArray, List.set_cons_zero, List.set_cons_succ]
  refine wpAny_ready (rs := [6]) (by kernel_rfl) (by simp) (AllReady.cons rfl (fun K hK => ?_) AllReady.nil)
  go_simp
  refine hK _ _ ?_
  clear hK K
  try simp only [Act.put, List.setIfInBounds_toArray, List.set_cons_zero, List.set_cons_succ]
  refine wpAny_take (i := 7) (v := ?_) rfl (by kernel_rfl) (by kernel_rfl) (by kernel_rfl) (fun _ _ _ h => h) (Or.inl ⟨by kernel_rfl, ?_⟩) ?_
  rotate_left
  · intro w
    go_simp
    try with_reducible rfl
  simp only [Act.put, List.getElem_toArray, List.getElem_cons_zero, List.getElem_cons_succ, List.setIfInBounds_toArray, List.set_cons_zero, List.set_cons_succ]
  refine wpAny_ready (rs := [9]) (by kernel_rfl) (by simp) (AllReady.cons rfl (fun K hK => ?_) AllReady.nil)
  go_simp
  refine CH.out.mono ?_
  rintro er w2 ⟨rfl, hb⟩
  go_simp
  refine hK _ _ ?_
  clear hK K
  try simp only [Act.put, List.setIfInBounds_toArray, List.set_cons_zero, List.set_cons_succ]
  refine wpAny_done (by kernel_rfl) ?_ _
  have B3 := Lib.hid ((B2.out.drew).trans (hb.mono B2.out.size))
  have X2 := Lib.hid ((X1.out.drew).trans (hb.mono (by have := X1.out.size; rw [HZ.out] at this; exact this)))
  clear hb k0 c0 CH CM hc1 hc2
  obtain ⟨k0, k1, k2, k3, k4, k5, k6⟩ := box_cells X2.out
  have R2 := Lib.hid (HR.out.below B3.out)
  obtain ⟨C, m, h1, h2, h3, h4, h5, h6, h7, h8, h9, h10⟩ := R2.out
  have c1 := reg_cell h1 1921 h6
  clear h1 h2 h3 h4 h5 h6 h7 h8 h9 h10
  rw [show (rs.length : Int) = 64 by have := HRH.out; omega] at c1
  go_wp2_with fail
  go_ret
  exact ⟨rfl, R2.out, grown_below B3.out⟩
set_option maxHeartbeats 8000000 in
set_option maxRecDepth 100000 in
theorem enter_full (b B : Nat) (cs rs : List Cd) (n f q : ByteArray) (l s e : Int) (ss : List ByteArray) (sl : Value) (w : World) (h : Reg w B b cs rs false) (hB : B ≤ w.heap.size) (hml : ∀ i (h : i < cs.length), cs[i].comp.length ≤ maxLen) (hs : Strs w sl ss) (hok : Cd.ok ⟨n, f, l, ss, s, q, e⟩) (hm : mayB ⟨n, f, l, ss, s, q, e⟩ = true) (ht : namedB cs n = false) (hr : cs.length = 64) :
    Calls Try.prog 28 #[.pointer (some ⟨b, 0, none⟩), .agg #[.string n, .string f, .int .u8 l, sl, .int .i8 s, .string q, .int .i16 e]] w (Ent w B b 3 cs rs false) := by
  have b1 : Below w.heap.size w (w.alloc (.cells #[.string n, .string f, .int .u8 l, sl, .int .i8 s, .string q, .int .i16 e] 38)) := (Below.refl _ w).alloc (Nat.le_refl _) _
  have HRH := Lib.hid hr
  clear hr
  have HR := Lib.hid h
  have B1 := Lib.hid b1
  have HML := Lib.hid hml
  have HB := Lib.hid hB
  have CM := may_walk n f q l s e ss sl _ (hs.below b1) hok
  rw [hm] at CM
  have CM := Lib.hid CM
  have HT := Lib.hid ht
  have hz : (w.alloc (.cells #[.string n, .string f, .int .u8 l, sl, .int .i8 s, .string q, .int .i16 e] 38)).heap.size = w.heap.size + 1 := by simp
  have HZ := Lib.hid hz
  have hcn : cs.length ≤ 64 := by obtain ⟨C, m, h1, h2, h3, _⟩ := h; exact h3
  obtain ⟨C, m, h1, h2, h3, h4, h5, h6, h7, h8, h9, h10⟩ := h.below b1
  have c3 := reg_cell h1 1923 h8
  clear h b1 h1 h2 h3 h4 h5 h6 h7 h8 h9 h10 hs hm ht hml hz hB
  go_enter Try.func28, Try.ntmps28
  go_wp2_with fail
  refine CM.out.mono ?_
  rintro er w1 ⟨rfl, hb⟩
  rw [HZ.out] at hb
  have B2 := Lib.hid (B1.out.trans (hb.mono (by omega)))
  have K1 := Lib.hid (box_cells hb)
  have X1 := Lib.hid hb
  have R1 := Lib.hid (HR.out.below B2.out)
  clear hb c3
  have k0 := K1.out.1
  obtain ⟨C, m, h1, h2, h3, h4, h5, h6, h7, h8, h9, h10⟩ := R1.out
  have c0 := reg_cell h1 1920 h5
  clear h1 h2 h3 h4 h5 h6 h7 h8 h9 h10
  have CH := has_any (.slice (some ⟨b, 0, none⟩) cs.length 64) cs w.heap.size n w1.drew (R1.out.cards HML.out) k0
  rw [HT.out] at CH
  have CH := Lib.hid CH
  have hc1 : (0 : Int) ≤ (cs.length : Int) := by omega
  have hc2 : (cs.length : Int) ≤ 64 := by omega
  go_wp2_with fail
  refine wp_region_any (by kernel_rfl) ?_
  refine wpAny_take (i := 0) (v := ?_) rfl (by kernel_rfl) (by kernel_rfl) (by kernel_rfl) (fun _ _ _ h => h) (Or.inl ⟨by kernel_rfl, ?_⟩) ?_
  rotate_left
  · intro w
    go_simp
    try with_reducible rfl
  simp only [Act.put, List.getElem_toArray, List.getElem_cons_zero, List.getElem_cons_succ, List.setIfInBounds_toArray, List.set_cons_zero, List.set_cons_succ]
  refine wpAny_take (i := 1) (v := ?_) rfl (by kernel_rfl) (by kernel_rfl) (by kernel_rfl) (fun _ _ _ h => h) (Or.inl ⟨by kernel_rfl, ?_⟩) ?_
  rotate_left
  · intro w
    go_simp
    try with_reducible rfl
  simp only [Act.put, List.getElem_toArray, List.getElem_cons_zero, List.getElem_cons_succ, List.setIfInBounds_toArray, List.set_cons_zero, List.set_cons_succ]
  refine wpAny_take (i := 2) (v := ?_) rfl (by kernel_rfl) (by kernel_rfl) (by kernel_rfl) (fun _ _ _ h => h) (Or.inl ⟨by kernel_rfl, ?_⟩) ?_
  rotate_left
  · intro w
    go_simp
    try with_reducible rfl
  simp only [Act.put, List.getElem_toArray, List.getElem_cons_zero, List.getElem_cons_succ, List.setIfInBounds_toArray, List.set_cons_zero, List.set_cons_succ]
  refine wpAny_take (i := 3) (v := ?_) rfl (by kernel_rfl) (by kernel_rfl) (by kernel_rfl) (fun _ _ _ h => h) (Or.inl ⟨by kernel_rfl, ?_⟩) ?_
  rotate_left
  · intro w
    go_simp
    try with_reducible rfl
  simp only [Act.put, List.getElem_toArray, List.getElem_cons_zero, List.getElem_cons_succ, List.setIfInBounds_toArray, List.set_cons_zero, List.set_cons_succ]
  refine wpAny_take (i := 4) (v := ?_) rfl (by kernel_rfl) (by kernel_rfl) (by kernel_rfl) (fun _ _ _ h => h) (Or.inl ⟨by kernel_rfl, ?_⟩) ?_
  rotate_left
  · intro w
    go_simp
    try with_reducible rfl
  simp only [Act.put, List.getElem_toArray, List.getElem_cons_zero, List.getElem_cons_succ, List.setIfInBounds_toArray, List.set_cons_zero, List.set_cons_succ]
  refine wpAny_take (i := 5) (v := ?_) rfl (by kernel_rfl) (by kernel_rfl) (by kernel_rfl) (fun _ _ _ h => h) (Or.inl ⟨by kernel_rfl, ?_⟩) ?_
  rotate_left
  · intro w
    go_simp
    try with_reducible rfl
  simp only [Act.put, List.getElem_toArray, List.getElem_cons_zero, List.getElem_cons_succ, List.setIfInBounds_toArray, List.set_cons_zero, List.set_cons_succ]
  refine wpAny_take (i := 8) (v := ?_) rfl (by kernel_rfl) (by kernel_rfl) (by kernel_rfl) (fun _ _ _ h => h) (Or.inl ⟨by kernel_rfl, ?_⟩) ?_
  rotate_left
  · intro w
    go_simp
    try with_reducible rfl
  simp only [Act.put, List.getElem_toArray, List.getElem_cons_zero, List.getElem_cons_succ, List.setIfInBounds_toArray, List.set_cons_zero, List.set_cons_succ]
  refine wpAny_ready (rs := [6]) (by kernel_rfl) (by simp) (AllReady.cons rfl (fun K hK => ?_) AllReady.nil)
  go_simp
  refine hK _ _ ?_
  clear hK K
  try simp only [Act.put, List.setIfInBounds_toArray, List.set_cons_zero, List.set_cons_succ]
  refine wpAny_take (i := 7) (v := ?_) rfl (by kernel_rfl) (by kernel_rfl) (by kernel_rfl) (fun _ _ _ h => h) (Or.inl ⟨by kernel_rfl, ?_⟩) ?_
  rotate_left
  · intro w
    go_simp
    try with_reducible rfl
  simp only [Act.put, List.getElem_toArray, List.getElem_cons_zero, List.getElem_cons_succ, List.setIfInBounds_toArray, List.set_cons_zero, List.set_cons_succ]
  refine wpAny_ready (rs := [9]) (by kernel_rfl) (by simp) (AllReady.cons rfl (fun K hK => ?_) AllReady.nil)
  go_simp
  refine CH.out.mono ?_
  rintro er w2 ⟨rfl, hb⟩
  go_simp
  refine hK _ _ ?_
  clear hK K
  try simp only [Act.put, List.setIfInBounds_toArray, List.set_cons_zero, List.set_cons_succ]
  refine wpAny_done (by kernel_rfl) ?_ _
  have B3 := Lib.hid ((B2.out.drew).trans (hb.mono B2.out.size))
  have X2 := Lib.hid ((X1.out.drew).trans (hb.mono (by have := X1.out.size; rw [HZ.out] at this; exact this)))
  clear hb k0 c0 CH CM hc1 hc2
  obtain ⟨k0, k1, k2, k3, k4, k5, k6⟩ := box_cells X2.out
  have R2 := Lib.hid (HR.out.below B3.out)
  obtain ⟨C, m, h1, h2, h3, h4, h5, h6, h7, h8, h9, h10⟩ := R2.out
  have c1 := reg_cell h1 1920 h5
  clear h1 h2 h3 h4 h5 h6 h7 h8 h9 h10
  rw [show (cs.length : Int) = 64 by have := HRH.out; omega] at c1
  go_wp2_with fail
  go_ret
  exact ⟨rfl, R2.out, grown_below B3.out⟩
/-- What a card's entering comes to: the answer, what stands, what is refused. -/
def entA (cs rs : List Cd) (fz : Bool) (c : Cd) : Int := if fz then 5 else if mayB c then (if namedB cs c.name then (if 64 ≤ rs.length then 3 else 71) else (if 64 ≤ cs.length then 3 else 0)) else 70
def entC (cs rs : List Cd) (fz : Bool) (c : Cd) : List Cd := if entA cs rs fz c = 0 then cs ++ [c] else cs
def entR (cs rs : List Cd) (fz : Bool) (c : Cd) : List Cd := if entA cs rs fz c = 71 then rs ++ [c] else rs
theorem enter_any (b B : Nat) (cs rs : List Cd) (fz : Bool) (n f q : ByteArray) (l s e : Int) (ss : List ByteArray) (sl : Value) (w : World) (h : Reg w B b cs rs fz) (hB : B ≤ w.heap.size) (hml : ∀ i (h : i < cs.length), cs[i].comp.length ≤ maxLen) (hs : Strs w sl ss) (hn : ss.length ≤ 8796093022208) (hok : Cd.ok ⟨n, f, l, ss, s, q, e⟩) (hT : ∀ g, w.heap.size ≤ g → RE.okT g) :
    Calls Try.prog 28 #[.pointer (some ⟨b, 0, none⟩), .agg #[.string n, .string f, .int .u8 l, sl, .int .i8 s, .string q, .int .i16 e]] w (Ent w B b (entA cs rs fz ⟨n, f, l, ss, s, q, e⟩) (entC cs rs fz ⟨n, f, l, ss, s, q, e⟩) (entR cs rs fz ⟨n, f, l, ss, s, q, e⟩) fz) := by
  have hcn : cs.length ≤ 64 ∧ rs.length ≤ 64 := by obtain ⟨C, m, h1, h2, h3, h4, _⟩ := h; exact ⟨h3, h4⟩
  cases fz with
  | true =>
    simp only [entA, entC, entR, if_true]
    exact enter_frozen b B cs rs n f q l s e sl w h
  | false =>
    by_cases hm : mayB ⟨n, f, l, ss, s, q, e⟩ = true
    · by_cases ht : namedB cs n = true
      · by_cases hr : rs.length < 64
        · have := enter_taken b B cs rs n f q l s e ss sl w h hB hml hs hn hok hm ht hr hT
          simp only [entA, entC, entR, hm, ht, show ¬ 64 ≤ rs.length by omega, if_true, if_false, Bool.false_eq_true]
          exact this
        · have := enter_full_taken b B cs rs n f q l s e ss sl w h hB hml hs hok hm ht (by omega)
          simp only [entA, entC, entR, hm, ht, show 64 ≤ rs.length by omega, if_true, if_false, Bool.false_eq_true]
          exact this
      · have ht := Bool.eq_false_iff.2 ht
        by_cases hr : cs.length < 64
        · have := enter_stands b B cs rs n f q l s e ss sl w h hB hml hs hn hok hm ht hr hT
          simp only [entA, entC, entR, hm, ht, show ¬ 64 ≤ cs.length by omega, if_true, if_false, Bool.false_eq_true]
          exact this
        · have := enter_full b B cs rs n f q l s e ss sl w h hB hml hs hok hm ht (by omega)
          simp only [entA, entC, entR, hm, ht, show 64 ≤ cs.length by omega, if_true, if_false, Bool.false_eq_true]
          exact this
    · have hm := Bool.eq_false_iff.2 hm
      have := enter_bad b B cs rs n f q l s e ss sl w h hs hok hm
      simp only [entA, entC, entR, hm, if_false, Bool.false_eq_true]
      exact this
end Go.Proofs.Ytpafbnmncioppaa
