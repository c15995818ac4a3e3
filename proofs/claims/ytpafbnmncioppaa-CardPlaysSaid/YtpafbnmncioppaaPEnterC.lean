/- A card enters a registry: Enter. -/
import Derived.Test.YtpafbnmncioppaaPRegD
import Derived.Test.YtpafbnmncioppaaFindC
import Derived.Test.YtpafbnmncioppaaOrderV
import Derived.Test.YtpafbnmncioppaaPRegL
namespace Go.Proofs.Ytpafbnmncioppaa
open Go.RowKit Go.ChangeShapes Tx Nm
set_option linter.unusedSectionVars false
variable [RE]
/-- What stands in a registry reads as cards. -/
theorem Reg.cards {w : World} {B b : Nat} {cs rs : List Cd} {fz : Bool} (h : Reg w B b cs rs fz) (hml : ∀ i (h : i < cs.length), cs[i].comp.length ≤ maxLen) : CardsAt w (.slice (some ⟨b, 0, none⟩) cs.length 64) cs := by
  obtain ⟨C, m, h1, h2, h3, h4, h5, h6, h7, h8, h9, h10⟩ := h
  refine ⟨some ⟨b, 0, none⟩, 64, rfl, ⟨by unfold maxLen; omega, h3⟩, (fun h => by cases h), fun i hi => ?_⟩
  obtain ⟨a, c, g1, g2⟩ := h9 i hi
  exact ⟨b, 0, _, rfl, fun j u hj => reg_cell h1 _ (g1 j u hj), strs_own g2.1 (hml i hi)⟩
theorem Reg.refs {w : World} {B b : Nat} {cs rs : List Cd} {fz : Bool} (h : Reg w B b cs rs fz) (hml : ∀ i (h : i < rs.length), rs[i].comp.length ≤ maxLen) : CardsAt w (.slice (some ⟨b, 448, none⟩) rs.length 64) rs := by
  obtain ⟨C, m, h1, h2, h3, h4, h5, h6, h7, h8, h9, h10⟩ := h
  refine ⟨some ⟨b, 448, none⟩, 64, rfl, ⟨by unfold maxLen; omega, h4⟩, (fun h => by cases h), fun i hi => ?_⟩
  obtain ⟨a, c, g1, g2⟩ := h10 i hi
  exact ⟨b, 448, _, rfl, fun j u hj => reg_cell h1 _ (g1 j u hj), strs_own g2.1 (hml i hi)⟩
def Ent (w : World) (B b : Nat) (x : Int) (cs rs : List Cd) (fz : Bool) (e : Ending) (w' : World) : Prop := e = .returned (.int .i64 x) ∧ Reg w' B b cs rs fz ∧ w.grownBy w' (some b)
theorem grown_below {w w' : World} {row : Option Nat} (h : Below w.heap.size w w') : w.grownBy w' row := ⟨h.os, h.tape, h.output, h.size, fun k hk _ => h.block k hk⟩
set_option maxHeartbeats 1000000 in
set_option maxRecDepth 100000 in
theorem enter_frozen (b B : Nat) (cs rs : List Cd) (n f q : ByteArray) (l s e : Int) (sl : Value) (w : World) (h : Reg w B b cs rs true) :
    Calls Try.prog 28 #[.pointer (some ⟨b, 0, none⟩), .agg #[.string n, .string f, .int .u8 l, sl, .int .i8 s, .string q, .int .i16 e]] w (Ent w B b 5 cs rs true) := by
  have b1 : Below w.heap.size w (w.alloc (.cells #[.string n, .string f, .int .u8 l, sl, .int .i8 s, .string q, .int .i16 e] 38)) := (Below.refl _ w).alloc (Nat.le_refl _) _
  have HR := Lib.hid (h.below b1)
  have HG : Hid (w.grownBy (w.alloc (.cells #[.string n, .string f, .int .u8 l, sl, .int .i8 s, .string q, .int .i16 e] 38)) (some b)) := Lib.hid (grown_below b1)
  obtain ⟨C, m, h1, h2, h3, h4, h5, h6, h7, h8, h9, h10⟩ := h.below b1
  have c3 := reg_cell h1 1923 h8
  clear h b1 h1 h2 h3 h4 h5 h6 h7 h8 h9 h10
  go_enter Try.func28, Try.ntmps28
  go_wp2_with fail
  go_ret
  exact ⟨rfl, HR.out, HG.out⟩
set_option maxHeartbeats 2000000 in
set_option maxRecDepth 100000 in
theorem enter_bad (b B : Nat) (cs rs : List Cd) (n f q : ByteArray) (l s e : Int) (ss : List ByteArray) (sl : Value) (w : World) (h : Reg w B b cs rs false) (hs : Strs w sl ss) (hok : Cd.ok ⟨n, f, l, ss, s, q, e⟩) (hm : mayB ⟨n, f, l, ss, s, q, e⟩ = false) :
    Calls Try.prog 28 #[.pointer (some ⟨b, 0, none⟩), .agg #[.string n, .string f, .int .u8 l, sl, .int .i8 s, .string q, .int .i16 e]] w (Ent w B b 70 cs rs false) := by
  have b1 : Below w.heap.size w (w.alloc (.cells #[.string n, .string f, .int .u8 l, sl, .int .i8 s, .string q, .int .i16 e] 38)) := (Below.refl _ w).alloc (Nat.le_refl _) _
  have HR := Lib.hid h
  have B1 := Lib.hid b1
  have CM := may_walk n f q l s e ss sl _ (hs.below b1) hok
  rw [hm] at CM
  have CM := Lib.hid CM
  obtain ⟨C, m, h1, h2, h3, h4, h5, h6, h7, h8, h9, h10⟩ := h.below b1
  have c3 := reg_cell h1 1923 h8
  clear h b1 h1 h2 h3 h4 h5 h6 h7 h8 h9 h10 hs hm
  go_enter Try.func28, Try.ntmps28
  go_wp2_with fail
  refine CM.out.mono ?_
  rintro er w1 ⟨rfl, hb⟩
  have B2 := Lib.hid (B1.out.trans (hb.mono B1.out.size))
  clear hb
  go_wp2_with fail
  go_ret
  exact ⟨rfl, HR.out.below B2.out, grown_below B2.out⟩
set_option maxHeartbeats 8000000 in
set_option maxRecDepth 100000 in
theorem enter_taken (b B : Nat) (cs rs : List Cd) (n f q : ByteArray) (l s e : Int) (ss : List ByteArray) (sl : Value) (w : World) (h : Reg w B b cs rs false) (hB : B ≤ w.heap.size) (hml : ∀ i (h : i < cs.length), cs[i].comp.length ≤ maxLen) (hs : Strs w sl ss) (hn : ss.length ≤ 8796093022208) (hok : Cd.ok ⟨n, f, l, ss, s, q, e⟩) (hm : mayB ⟨n, f, l, ss, s, q, e⟩ = true) (ht : namedB cs n = true) (hr : rs.length < 64) (hT : ∀ g, w.heap.size ≤ g → RE.okT g) :
    Calls Try.prog 28 #[.pointer (some ⟨b, 0, none⟩), .agg #[.string n, .string f, .int .u8 l, sl, .int .i8 s, .string q, .int .i16 e]] w (Ent w B b 71 cs (rs ++ [⟨n, f, l, ss, s, q, e⟩]) false) := by
  have b1 : Below w.heap.size w (w.alloc (.cells #[.string n, .string f, .int .u8 l, sl, .int .i8 s, .string q, .int .i16 e] 38)) := (Below.refl _ w).alloc (Nat.le_refl _) _
  have HR := Lib.hid h
  have B1 := Lib.hid b1
  have HS := Lib.hid hs
  have HML := Lib.hid hml
  have HTT := Lib.hid hT
  have HB := Lib.hid hB
  have CM := may_walk n f q l s e ss sl _ (hs.below b1) hok
  rw [hm] at CM
  have CM := Lib.hid CM
  have HT := Lib.hid ht
  have hz : (w.alloc (.cells #[.string n, .string f, .int .u8 l, sl, .int .i8 s, .string q, .int .i16 e] 38)).heap.size = w.heap.size + 1 := by simp
  have HZ := Lib.hid hz
  have hcn : cs.length ≤ 64 := by obtain ⟨C, m, h1, h2, h3, _⟩ := h; exact h3
  obtain ⟨C, m, h1, h2, h3, h4, h5, h6, h7, h8, h9, h10⟩ := h.below b1
  have c3 := reg_cell h1 1923 h8
  clear h b1 h1 h2 h3 h4 h5 h6 h7 h8 h9 h10 hs hm ht hml hz hB hT
  go_enter Try.func28, Try.ntmps28
  go_wp2_with fail
  refine CM.out.mono ?_
  rintro er w1 ⟨rfl, hb⟩
  rw [HZ.out] at hb
  have B2 := Lib.hid (B1.out.trans (hb.mono (by omega)))
  have K1 := Lib.hid (box_cells hb)
  have X1 := Lib.hid hb
  have R1 := Lib.hid (HR.out.below B2.out)
  clear hb c3
  have k0 := K1.out.1
  obtain ⟨C, m, h1, h2, h3, h4, h5, h6, h7, h8, h9, h10⟩ := R1.out
  have c0 := reg_cell h1 1920 h5
  clear h1 h2 h3 h4 h5 h6 h7 h8 h9 h10
  have CH := has_any (.slice (some ⟨b, 0, none⟩) cs.length 64) cs w.heap.size n w1.drew (R1.out.cards HML.out) k0
  rw [HT.out] at CH
  have CH := Lib.hid CH
  have hc1 : (0 : Int) ≤ (cs.length : Int) := by omega
  have hc2 : (cs.length : Int) ≤ 64 := by omega
  go_wp2_with fail
  refine wp_region_any (by kernel_rfl) ?_
  refine wpAny_take (i := 0) (v := ?_) rfl (by kernel_rfl) (by kernel_rfl) (by kernel_rfl) (fun _ _ _ h => h) (Or.inl ⟨by kernel_rfl, ?_⟩) ?_
  rotate_left
  · intro w
    go_simp
    try with_reducible rfl
  simp only [Act.put, List.getElem_toArray, List.getElem_cons_zero, List.getElem_cons_succ, List.setIfInBounds_toArray, List.set_cons_zero, List.set_cons_succ]
  refine wpAny_take (i := 1) (v := ?_) rfl (by kernel_rfl) (by kernel_rfl) (by kernel_rfl) (fun _ _ _ h => h) (Or.inl ⟨by kernel_rfl, ?_⟩) ?_
  rotate_left
  · intro w
    go_simp
    try with_reducible rfl
  simp only [Act.put, List.getElem_toArray, List.getElem_cons_zero, List.getElem_cons_succ, List.setIfInBounds_toArray, List.set_cons_zero, List.set_cons_succ]
  refine wpAny_take (i := 2) (v := ?_) rfl (by kernel_rfl) (by kernel_rfl) (by kernel_rfl) (fun _ _ _ h => h) (Or.inl ⟨by kernel_rfl, ?_⟩) ?_
  rotate_left
  · intro w
    go_simp
    try with_reducible rfl
  simp only [Act.put, List.getElem_toArray, List.getElem_cons_zero, List.getElem_cons_succ, List.setIfInBounds_toArray, List.set_cons_zero, List.set_cons_succ]
  refine wpAny_take (i := 3) (v := ?_) rfl (by kernel_rfl) (by kernel_rfl) (by kernel_rfl) (fun _ _ _ h => h) (Or.inl ⟨by kernel_rfl, ?_⟩) ?_
  rotate_left
  · intro w
    go_simp
    try with_reducible rfl
  simp only [Act.put, List.getElem_toArray, List.getElem_cons_zero, List.getElem_cons_succ, List.setIfInBounds_toArray, List.set_cons_zero, List.set_cons_succ]
  refine wpAny_take (i := 4) (v := ?_) rfl (by kernel_rfl) (by kernel_rfl) (by kernel_rfl) (fun _ _ _ h => h) (Or.inl ⟨by kernel_rfl, ?_⟩) ?_
  rotate_left
  · intro w
    go_simp
    try with_reducible rfl
  simp only [Act.put, List.getElem_toArray, List.getElem_cons_zero, List.getElem_cons_succ, List.setIfInBounds_toArray, List.set_cons_zero, List.set_cons_succ]
  refine wpAny_take (i := 5) (v := ?_) rfl (by kernel_rfl) (by kernel_rfl) (by kernel_rfl) (fun _ _ _ h => h) (Or.inl ⟨by kernel_rfl, ?_⟩) ?_
  rotate_left
  · intro w
    go_simp
    try with_reducible rfl
  simp only [Act.put, List.getElem_toArray, List.getElem_cons_zero, List.getElem_cons_succ, List.setIfInBounds_toArray, List.set_cons_zero, List.set_cons_succ]
  refine wpAny_take (i := 8) (v := ?_) rfl (by kernel_rfl) (by kernel_rfl) (by kernel_rfl) (fun _ _ _ h => h) (Or.inl ⟨by kernel_rfl, ?_⟩) ?_
  rotate_left
  · intro w
    go_simp
    try with_reducible rfl
  simp only [Act.put, List.getElem_toArray, List.getElem_cons_zero, List.getElem_cons_succ, List.setIfInBounds_toArray, List.set_cons_zero, List.set_cons_succ]
  refine wpAny_ready (rs := [6]) (by kernel_rfl) (by simp) (AllReady.cons rfl (fun K hK => ?_) AllReady.nil)
  go_simp
  refine hK _ _ ?_
  clear hK K
  try simp only [Act.put, List.setIfInBounds_toArray, List.set_cons_zero, List.set_cons_succ]
  refine wpAny_take (i := 7) (v := ?_) rfl (by kernel_rfl) (by kernel_rfl) (by kernel_rfl) (fun _ _ _ h => h) (Or.inl ⟨by kernel_rfl, ?_⟩) ?_
  rotate_left
  · intro w
    go_simp
    try with_reducible rfl
  simp only [Act.put, List.getElem_toArray, List.getElem_cons_zero, List.getElem_cons_succ, List.setIfInBounds_toArray, List.set_cons_zero, List.set_cons_succ]
  refine wpAny_ready (rs := [9]) (by kernel_rfl) (by simp) (AllReady.cons rfl (fun K hK => ?_) AllReady.nil)
  go_simp
  refine CH.out.mono ?_
  rintro er w2 ⟨rfl, hb⟩
  go_simp
  refine hK _ _ ?_
  clear hK K
  try simp only [Act.put, List.setIfInBounds_toArray, List.set_cons_zero, List.set_cons_succ]
  refine wpAny_done (by kernel_rfl) ?_ _
  have B3 := Lib.hid ((B2.out.drew).trans (hb.mono B2.out.size))
  have X2 := Lib.hid ((X1.out.drew).trans (hb.mono (by have := X1.out.size; rw [HZ.out] at this; exact this)))
  clear hb k0 c0 CH CM hc1 hc2
  obtain ⟨k0, k1, k2, k3, k4, k5, k6⟩ := box_cells X2.out
  have R2 := Lib.hid (HR.out.below B3.out)
  obtain ⟨C, m, h1, h2, h3, h4, h5, h6, h7, h8, h9, h10⟩ := R2.out
  have c1 := reg_cell h1 1921 h6
  clear h1 h2 h3 h4 h5 h6 h7 h8 h9 h10
  have HC := Lib.hid (copied_walk n f q l s e ss sl w2.drew (HS.out.below B3.out.drew) hn)
  have e64 : decide ((rs.length : Int) = 64) = false := decide_eq_false (by omega)
  have hrc1 : (0 : Int) ≤ (rs.length : Int) := by omega
  have hrc2 : (rs.length : Int) < 64 := by omega
  go_wp2_with fail
  refine wp_region_any (by kernel_rfl) ?_
  refine wpAny_take (i := 0) (v := ?_) rfl (by kernel_rfl) (by kernel_rfl) (by kernel_rfl) (fun _ _ _ h => h) (Or.inl ⟨by kernel_rfl, ?_⟩) ?_
  rotate_left
  · intro w
    go_simp
    try with_reducible rfl
  simp only [Act.put, List.getElem_toArray, List.getElem_cons_zero, List.getElem_cons_succ, List.setIfInBounds_toArray, List.set_cons_zero, List.set_cons_succ]
  refine wpAny_take (i := 1) (v := ?_) rfl (by kernel_rfl) (by kernel_rfl) (by kernel_rfl) (fun _ _ _ h => h) (Or.inl ⟨by kernel_rfl, ?_⟩) ?_
  rotate_left
  · intro w
    go_simp
    try with_reducible rfl
  simp only [Act.put, List.getElem_toArray, List.getElem_cons_zero, List.getElem_cons_succ, List.setIfInBounds_toArray, List.set_cons_zero, List.set_cons_succ]
  refine wpAny_take (i := 2) (v := ?_) rfl (by kernel_rfl) (by kernel_rfl) (by kernel_rfl) (fun _ _ _ h => h) (Or.inl ⟨by kernel_rfl, ?_⟩) ?_
  rotate_left
  · intro w
    go_simp
    try with_reducible rfl
  simp only [Act.put, List.getElem_toArray, List.getElem_cons_zero, List.getElem_cons_succ, List.setIfInBounds_toArray, List.set_cons_zero, List.set_cons_succ]
  refine wpAny_take (i := 3) (v := ?_) rfl (by kernel_rfl) (by kernel_rfl) (by kernel_rfl) (fun _ _ _ h => h) (Or.inl ⟨by kernel_rfl, ?_⟩) ?_
  rotate_left
  · intro w
    go_simp
    try with_reducible rfl
  simp only [Act.put, List.getElem_toArray, List.getElem_cons_zero, List.getElem_cons_succ, List.setIfInBounds_toArray, List.set_cons_zero, List.set_cons_succ]
  refine wpAny_take (i := 7) (v := ?_) rfl (by kernel_rfl) (by kernel_rfl) (by kernel_rfl) (fun _ _ _ h => h) (Or.inl ⟨by kernel_rfl, ?_⟩) ?_
  rotate_left
  · intro w
    go_simp
    try with_reducible rfl
  simp only [Act.put, List.getElem_toArray, List.getElem_cons_zero, List.getElem_cons_succ, List.setIfInBounds_toArray, List.set_cons_zero, List.set_cons_succ]
  refine wpAny_take (i := 8) (v := ?_) rfl (by kernel_rfl) (by kernel_rfl) (by kernel_rfl) (fun _ _ _ h => h) (Or.inl ⟨by kernel_rfl, ?_⟩) ?_
  rotate_left
  · intro w
    go_simp
    try with_reducible rfl
  simp only [Act.put, List.getElem_toArray, List.getElem_cons_zero, List.getElem_cons_succ, List.setIfInBounds_toArray, List.set_cons_zero, List.set_cons_succ]
  refine wpAny_ready (rs := [4, 5]) (by kernel_rfl) (by simp) (AllReady.cons rfl (fun K hK => ?_) (AllReady.cons rfl (fun K hK => ?_) AllReady.nil))
  · skip
    go_simp
    refine hK _ _ ?_
    clear hK K
    try simp only [Act.put, List.setIfInBounds_toArray, List.set_cons_zero, List.set_cons_succ]
    refine wpAny_ready (rs := [5]) (by kernel_rfl) (by simp) (AllReady.cons rfl (fun K hK => ?_) AllReady.nil)
    go_simp
    refine hK _ _ ?_
    clear hK K
    try simp only [Act.put, List.setIfInBounds_toArray, List.set_cons_zero, List.set_cons_succ]
    refine wpAny_ready (rs := [6]) (by kernel_rfl) (by simp) (AllReady.cons rfl (fun K hK => ?_) AllReady.nil)
    go_simp
    refine HC.out.mono ?_
    rintro er w3 ⟨ax, cx, rfl, hown, hb3⟩
    have B4 := Lib.hid ((B3.out.drew).trans (hb3.mono B3.out.size))
    have OW := Lib.hid (own_base hown (Nat.le_trans HB.out B3.out.size))
    have OT := Lib.hid (fun (g : Addr) (e : ax = some g) => HTT.out g.block (Nat.le_trans B3.out.size (hown.lt g.block (by rw [e]; rfl)).1))
    have R3 := Lib.hid (HR.out.below B4.out)
    clear hown hb3
    obtain ⟨C3, m3, h1, h2, h3, h4, h5, h6, h7, h8, h9, h10⟩ := R3.out
    have x1 := reg_cell h1 1921 h6
    obtain ⟨o0, d0⟩ : ∃ u, w3.cell? ⟨b, 448 + rs.length * 7 + 0, none⟩ = some u := ⟨_, reg_cell h1 (448 + rs.length * 7 + 0) (Array.getElem?_eq_getElem (by omega))⟩
    have f0 := frozen_of_row w3 b (448 + rs.length * 7 + 0) C3 _ h1
    obtain ⟨o1, d1⟩ : ∃ u, w3.cell? ⟨b, 448 + rs.length * 7 + 1, none⟩ = some u := ⟨_, reg_cell h1 (448 + rs.length * 7 + 1) (Array.getElem?_eq_getElem (by omega))⟩
    have f1 := frozen_of_row w3 b (448 + rs.length * 7 + 1) C3 _ h1
    obtain ⟨o2, d2⟩ : ∃ u, w3.cell? ⟨b, 448 + rs.length * 7 + 2, none⟩ = some u := ⟨_, reg_cell h1 (448 + rs.length * 7 + 2) (Array.getElem?_eq_getElem (by omega))⟩
    have f2 := frozen_of_row w3 b (448 + rs.length * 7 + 2) C3 _ h1
    obtain ⟨o3, d3⟩ : ∃ u, w3.cell? ⟨b, 448 + rs.length * 7 + 3, none⟩ = some u := ⟨_, reg_cell h1 (448 + rs.length * 7 + 3) (Array.getElem?_eq_getElem (by omega))⟩
    have f3 := frozen_of_row w3 b (448 + rs.length * 7 + 3) C3 _ h1
    obtain ⟨o4, d4⟩ : ∃ u, w3.cell? ⟨b, 448 + rs.length * 7 + 4, none⟩ = some u := ⟨_, reg_cell h1 (448 + rs.length * 7 + 4) (Array.getElem?_eq_getElem (by omega))⟩
    have f4 := frozen_of_row w3 b (448 + rs.length * 7 + 4) C3 _ h1
    obtain ⟨o5, d5⟩ : ∃ u, w3.cell? ⟨b, 448 + rs.length * 7 + 5, none⟩ = some u := ⟨_, reg_cell h1 (448 + rs.length * 7 + 5) (Array.getElem?_eq_getElem (by omega))⟩
    have f5 := frozen_of_row w3 b (448 + rs.length * 7 + 5) C3 _ h1
    obtain ⟨o6, d6⟩ : ∃ u, w3.cell? ⟨b, 448 + rs.length * 7 + 6, none⟩ = some u := ⟨_, reg_cell h1 (448 + rs.length * 7 + 6) (Array.getElem?_eq_getElem (by omega))⟩
    have f6 := frozen_of_row w3 b (448 + rs.length * 7 + 6) C3 _ h1
    simp only [Nat.add_zero] at d0 f0
    clear h1 h2 h3 h4 h5 h6 h7 h8 h9 h10
    go_simp
    refine hK _ _ ?_
    clear hK K
    try simp only [Act.put, List.setIfInBounds_toArray, List.set_cons_zero, List.set_cons_succ]
    refine wpAny_take (i := 9) (v := ?_) rfl (by kernel_rfl) (by kernel_rfl) (by kernel_rfl) (fun _ _ _ h => h) (Or.inl ⟨by kernel_rfl, ?_⟩) ?_
    rotate_left
    · intro w
      go_simp
      try with_reducible rfl
    simp only [Act.put, List.getElem_toArray, List.getElem_cons_zero, List.getElem_cons_succ, List.setIfInBounds_toArray, List.set_cons_zero, List.set_cons_succ]
    refine wpAny_ready (rs := [10]) (by kernel_rfl) (by simp) (AllReady.cons rfl (fun K hK => ?_) AllReady.nil)
    go_simp
    refine hK _ _ ?_
    clear hK K
    try simp only [Act.put, List.setIfInBounds_toArray, List.set_cons_zero, List.set_cons_succ]
    refine wpAny_done (by kernel_rfl) ?_ _
    obtain ⟨W4, hW4⟩ : ∃ W4, W4 = putAll w3 b (448 + rs.length * 7) [.string n, .string f, .int .u8 l, .slice ax ss.length cx, .int .i8 s, .string q, .int .i16 e] := ⟨_, rfl⟩
    change Exit.then _ _ _ _ (putAll w3 b (448 + rs.length * 7) [.string n, .string f, .int .u8 l, .slice ax ss.length cx, .int .i8 s, .string q, .int .i16 e])
    rw [← hW4]
    have HRF : Hid (Reg (W4.setCell ⟨b, 1921, none⟩ (.int .i64 (rs.length + 1))) B b cs (rs ++ [⟨n, f, l, ss, s, q, e⟩]) false) := Lib.hid (by rw [hW4]; exact R3.out.refuse ⟨n, f, l, ss, s, q, e⟩ ax cx hr OW.out OT.out)
    have HGR : Hid (w.grownBy (W4.setCell ⟨b, 1921, none⟩ (.int .i64 (rs.length + 1))) (some b)) := Lib.hid (by rw [hW4]; exact ((grown_below B4.out).trans (putAll_grown _ _ _)).trans (grown_setCell _ _ _ _))
    have x4 : W4.cell? ⟨b, 1921, none⟩ = some (.int .i64 rs.length) := by
      obtain ⟨C3, m3, h1, h2, h3, h4, h5, h6, h7, h8, h9, h10⟩ := R3.out
      rw [hW4]
      exact (cell_of_row _ b 1921 _ _ _ (putAll_heap _ w3 C3 _ h1)).trans ((setAll_out _ _ _ _ (by simp; omega)).trans h6)
    have fz4 : W4.frozen? ⟨b, 1921, none⟩ = false := by
      obtain ⟨C3, m3, h1, h2, h3, h4, h5, h6, h7, h8, h9, h10⟩ := R3.out
      rw [hW4]
      exact frozen_of_row _ b 1921 _ _ (putAll_heap _ w3 C3 _ h1)
    clear hW4 x1
    go_wp2_with fail
    go_ret
    exact ⟨rfl, HRF.out, HGR.out⟩
  · skip
    go_simp
    refine hK _ _ ?_
    clear hK K
    try simp only [Act.put, List.setIfInBounds_toArray, List.set_cons_zero, List.set_cons_succ]
    refine wpAny_ready (rs := [4, 6]) (by kernel_rfl) (by simp) (AllReady.cons rfl (fun K hK => ?_) (AllReady.cons rfl (fun K hK => ?_) AllReady.nil))
    · skip
      go_simp
      refine hK _ _ ?_
      clear hK K
      try simp only [Act.put, List.setIfInBounds_toArray, List.set_cons_zero, List.set_cons_succ]
      refine wpAny_ready (rs := [6]) (by kernel_rfl) (by simp) (AllReady.cons rfl (fun K hK => ?_) AllReady.nil)
      go_simp
      refine HC.out.mono ?_
      rintro er w3 ⟨ax, cx, rfl, hown, hb3⟩
      have B4 := Lib.hid ((B3.out.drew).trans (hb3.mono B3.out.size))
      have OW := Lib.hid (own_base hown (Nat.le_trans HB.out B3.out.size))
      have OT := Lib.hid (fun (g : Addr) (e : ax = some g) => HTT.out g.block (Nat.le_trans B3.out.size (hown.lt g.block (by rw [e]; rfl)).1))
      have R3 := Lib.hid (HR.out.below B4.out)
      clear hown hb3
      obtain ⟨C3, m3, h1, h2, h3, h4, h5, h6, h7, h8, h9, h10⟩ := R3.out
      have x1 := reg_cell h1 1921 h6
      obtain ⟨o0, d0⟩ : ∃ u, w3.cell? ⟨b, 448 + rs.length * 7 + 0, none⟩ = some u := ⟨_, reg_cell h1 (448 + rs.length * 7 + 0) (Array.getElem?_eq_getElem (by omega))⟩
      have f0 := frozen_of_row w3 b (448 + rs.length * 7 + 0) C3 _ h1
      obtain ⟨o1, d1⟩ : ∃ u, w3.cell? ⟨b, 448 + rs.length * 7 + 1, none⟩ = some u := ⟨_, reg_cell h1 (448 + rs.length * 7 + 1) (Array.getElem?_eq_getElem (by omega))⟩
      have f1 := frozen_of_row w3 b (448 + rs.length * 7 + 1) C3 _ h1
      obtain ⟨o2, d2⟩ : ∃ u, w3.cell? ⟨b, 448 + rs.length * 7 + 2, none⟩ = some u := ⟨_, reg_cell h1 (448 + rs.length * 7 + 2) (Array.getElem?_eq_getElem (by omega))⟩
      have f2 := frozen_of_row w3 b (448 + rs.length * 7 + 2) C3 _ h1
      obtain ⟨o3, d3⟩ : ∃ u, w3.cell? ⟨b, 448 + rs.length * 7 + 3, none⟩ = some u := ⟨_, reg_cell h1 (448 + rs.length * 7 + 3) (Array.getElem?_eq_getElem (by omega))⟩
      have f3 := frozen_of_row w3 b (448 + rs.length * 7 + 3) C3 _ h1
      obtain ⟨o4, d4⟩ : ∃ u, w3.cell? ⟨b, 448 + rs.length * 7 + 4, none⟩ = some u := ⟨_, reg_cell h1 (448 + rs.length * 7 + 4) (Array.getElem?_eq_getElem (by omega))⟩
      have f4 := frozen_of_row w3 b (448 + rs.length * 7 + 4) C3 _ h1
      obtain ⟨o5, d5⟩ : ∃ u, w3.cell? ⟨b, 448 + rs.length * 7 + 5, none⟩ = some u := ⟨_, reg_cell h1 (448 + rs.length * 7 + 5) (Array.getElem?_eq_getElem (by omega))⟩
      have f5 := frozen_of_row w3 b (448 + rs.length * 7 + 5) C3 _ h1
      obtain ⟨o6, d6⟩ : ∃ u, w3.cell? ⟨b, 448 + rs.length * 7 + 6, none⟩ = some u := ⟨_, reg_cell h1 (448 + rs.length * 7 + 6) (Array.getElem?_eq_getElem (by omega))⟩
      have f6 := frozen_of_row w3 b (448 + rs.length * 7 + 6) C3 _ h1
      simp only [Nat.add_zero] at d0 f0
      clear h1 h2 h3 h4 h5 h6 h7 h8 h9 h10
      go_simp
      refine hK _ _ ?_
      clear hK K
      try simp only [Act.put, List.setIfInBounds_toArray, List.set_cons_zero, List.set_cons_succ]
      refine wpAny_take (i := 9) (v := ?_) rfl (by kernel_rfl) (by kernel_rfl) (by kernel_rfl) (fun _ _ _ h => h) (Or.inl ⟨by kernel_rfl, ?_⟩) ?_
      rotate_left
      · intro w
        go_simp
        try with_reducible rfl
      simp only [Act.put, List.getElem_toArray, List.getElem_cons_zero, List.getElem_cons_succ, List.setIfInBounds_toArray, List.set_cons_zero, List.set_cons_succ]
      refine wpAny_ready (rs := [10]) (by kernel_rfl) (by simp) (AllReady.cons rfl (fun K hK => ?_) AllReady.nil)
      go_simp
      refine hK _ _ ?_
      clear hK K
      try simp only [Act.put, List.setIfInBounds_toArray, List.set_cons_zero, List.set_cons_succ]
      refine wpAny_done (by kernel_rfl) ?_ _
      obtain ⟨W4, hW4⟩ : ∃ W4, W4 = putAll w3 b (448 + rs.length * 7) [.string n, .string f, .int .u8 l, .slice ax ss.length cx, .int .i8 s, .string q, .int .i16 e] := ⟨_, rfl⟩
      change Exit.then _ _ _ _ (putAll w3 b (448 + rs.length * 7) [.string n, .string f, .int .u8 l, .slice ax ss.length cx, .int .i8 s, .string q, .int .i16 e])
      rw [← hW4]
      have HRF : Hid (Reg (W4.setCell ⟨b, 1921, none⟩ (.int .i64 (rs.length + 1))) B b cs (rs ++ [⟨n, f, l, ss, s, q, e⟩]) false) := Lib.hid (by rw [hW4]; exact R3.out.refuse ⟨n, f, l, ss, s, q, e⟩ ax cx hr OW.out OT.out)
      have HGR : Hid (w.grownBy (W4.setCell ⟨b, 1921, none⟩ (.int .i64 (rs.length + 1))) (some b)) := Lib.hid (by rw [hW4]; exact ((grown_below B4.out).trans (putAll_grown _ _ _)).trans (grown_setCell _ _ _ _))
      have x4 : W4.cell? ⟨b, 1921, none⟩ = some (.int .i64 rs.length) := by
        obtain ⟨C3, m3, h1, h2, h3, h4, h5, h6, h7, h8, h9, h10⟩ := R3.out
        rw [hW4]
        exact (cell_of_row _ b 1921 _ _ _ (putAll_heap _ w3 C3 _ h1)).trans ((setAll_out _ _ _ _ (by simp; omega)).trans h6)
      have fz4 : W4.frozen? ⟨b, 1921, none⟩ = false := by
        obtain ⟨C3, m3, h1, h2, h3, h4, h5, h6, h7, h8, h9, h10⟩ := R3.out
        rw [hW4]
        exact frozen_of_row _ b 1921 _ _ (putAll_heap _ w3 C3 _ h1)
      clear hW4 x1
      go_wp2_with fail
      go_ret
      exact ⟨rfl, HRF.out, HGR.out⟩
    · skip
      go_simp
      refine HC.out.mono ?_
      rintro er w3 ⟨ax, cx, rfl, hown, hb3⟩
      have B4 := Lib.hid ((B3.out.drew).trans (hb3.mono B3.out.size))
      have OW := Lib.hid (own_base hown (Nat.le_trans HB.out B3.out.size))
      have OT := Lib.hid (fun (g : Addr) (e : ax = some g) => HTT.out g.block (Nat.le_trans B3.out.size (hown.lt g.block (by rw [e]; rfl)).1))
      have R3 := Lib.hid (HR.out.below B4.out)
      clear hown hb3
      obtain ⟨C3, m3, h1, h2, h3, h4, h5, h6, h7, h8, h9, h10⟩ := R3.out
      have x1 := reg_cell h1 1921 h6
      obtain ⟨o0, d0⟩ : ∃ u, w3.cell? ⟨b, 448 + rs.length * 7 + 0, none⟩ = some u := ⟨_, reg_cell h1 (448 + rs.length * 7 + 0) (Array.getElem?_eq_getElem (by omega))⟩
      have f0 := frozen_of_row w3 b (448 + rs.length * 7 + 0) C3 _ h1
      obtain ⟨o1, d1⟩ : ∃ u, w3.cell? ⟨b, 448 + rs.length * 7 + 1, none⟩ = some u := ⟨_, reg_cell h1 (448 + rs.length * 7 + 1) (Array.getElem?_eq_getElem (by omega))⟩
      have f1 := frozen_of_row w3 b (448 + rs.length * 7 + 1) C3 _ h1
      obtain ⟨o2, d2⟩ : ∃ u, w3.cell? ⟨b, 448 + rs.length * 7 + 2, none⟩ = some u := ⟨_, reg_cell h1 (448 + rs.length * 7 + 2) (Array.getElem?_eq_getElem (by omega))⟩
      have f2 := frozen_of_row w3 b (448 + rs.length * 7 + 2) C3 _ h1
      obtain ⟨o3, d3⟩ : ∃ u, w3.cell? ⟨b, 448 + rs.length * 7 + 3, none⟩ = some u := ⟨_, reg_cell h1 (448 + rs.length * 7 + 3) (Array.getElem?_eq_getElem (by omega))⟩
      have f3 := frozen_of_row w3 b (448 + rs.length * 7 + 3) C3 _ h1
      obtain ⟨o4, d4⟩ : ∃ u, w3.cell? ⟨b, 448 + rs.length * 7 + 4, none⟩ = some u := ⟨_, reg_cell h1 (448 + rs.length * 7 + 4) (Array.getElem?_eq_getElem (by omega))⟩
      have f4 := frozen_of_row w3 b (448 + rs.length * 7 + 4) C3 _ h1
      obtain ⟨o5, d5⟩ : ∃ u, w3.cell? ⟨b, 448 + rs.length * 7 + 5, none⟩ = some u := ⟨_, reg_cell h1 (448 + rs.length * 7 + 5) (Array.getElem?_eq_getElem (by omega))⟩
      have f5 := frozen_of_row w3 b (448 + rs.length * 7 + 5) C3 _ h1
      obtain ⟨o6, d6⟩ : ∃ u, w3.cell? ⟨b, 448 + rs.length * 7 + 6, none⟩ = some u := ⟨_, reg_cell h1 (448 + rs.length * 7 + 6) (Array.getElem?_eq_getElem (by omega))⟩
      have f6 := frozen_of_row w3 b (448 + rs.length * 7 + 6) C3 _ h1
      simp only [Nat.add_zero] at d0 f0
      clear h1 h2 h3 h4 h5 h6 h7 h8 h9 h10
      go_simp
      refine hK _ _ ?_
      clear hK K
      try simp only [Act.put, List.setIfInBounds_toArray, List.set_cons_zero, List.set_cons_succ]
      refine wpAny_ready (rs := [4]) (by kernel_rfl) (by simp) (AllReady.cons rfl (fun K hK => ?_) AllReady.nil)
      go_simp
      refine hK _ _ ?_
      clear hK K
      try simp only [Act.put, List.setIfInBounds_toArray, List.set_cons_zero, List.set_cons_succ]
      refine wpAny_take (i := 9) (v := ?_) rfl (by kernel_rfl) (by kernel_rfl) (by kernel_rfl) (fun _ _ _ h => h) (Or.inl ⟨by kernel_rfl, ?_⟩) ?_
      rotate_left
      · intro w
        go_simp
        try with_reducible rfl
      simp only [Act.put, List.getElem_toArray, List.getElem_cons_zero, List.getElem_cons_succ, List.setIfInBounds_toArray, List.set_cons_zero, List.set_cons_succ]
      refine wpAny_ready (rs := [10]) (by kernel_rfl) (by simp) (AllReady.cons rfl (fun K hK => ?_) AllReady.nil)
      go_simp
      refine hK _ _ ?_
      clear hK K
      try simp only [Act.put, List.setIfInBounds_toArray, List.set_cons_zero, List.set_cons_succ]
      refine wpAny_done (by kernel_rfl) ?_ _
      obtain ⟨W4, hW4⟩ : ∃ W4, W4 = putAll w3 b (448 + rs.length * 7) [.string n, .string f, .int .u8 l, .slice ax ss.length cx, .int .i8 s, .string q, .int .i16 e] := ⟨_, rfl⟩
      change Exit.then _ _ _ _ (putAll w3 b (448 + rs.length * 7) [.string n, .string f, .int .u8 l, .slice ax ss.length cx, .int .i8 s, .string q, .int .i16 e])
      rw [← hW4]
      have HRF : Hid (Reg (W4.setCell ⟨b, 1921, none⟩ (.int .i64 (rs.length + 1))) B b cs (rs ++ [⟨n, f, l, ss, s, q, e⟩]) false) := Lib.hid (by rw [hW4]; exact R3.out.refuse ⟨n, f, l, ss, s, q, e⟩ ax cx hr OW.out OT.out)
      have HGR : Hid (w.grownBy (W4.setCell ⟨b, 1921, none⟩ (.int .i64 (rs.length + 1))) (some b)) := Lib.hid (by rw [hW4]; exact ((grown_below B4.out).trans (putAll_grown _ _ _)).trans (grown_setCell _ _ _ _))
      have x4 : W4.cell? ⟨b, 1921, none⟩ = some (.int .i64 rs.length) := by
        obtain ⟨C3, m3, h1, h2, h3, h4, h5, h6, h7, h8, h9, h10⟩ := R3.out
        rw [hW4]
        exact (cell_of_row _ b 1921 _ _ _ (putAll_heap _ w3 C3 _ h1)).trans ((setAll_out _ _ _ _ (by simp; omega)).trans h6)
      have fz4 : W4.frozen? ⟨b, 1921, none⟩ = false := by
        obtain ⟨C3, m3, h1, h2, h3, h4, h5, h6, h7, h8, h9, h10⟩ := R3.out
        rw [hW4]
        exact frozen_of_row _ b 1921 _ _ (putAll_heap _ w3 C3 _ h1)
      clear hW4 x1
      go_wp2_with fail
      go_ret
      exact ⟨rfl, HRF.out, HGR.out⟩
set_option maxHeartbeats 8000000 in
set_option maxRecDepth 100000 in
theorem enter_stands (b B : Nat) (cs rs : List Cd) (n f q : ByteArray) (l s e : Int) (ss : List ByteArray) (sl : Value) (w : World) (h : Reg w B b cs rs false) (hB : B ≤ w.heap.size) (hml : ∀ i (h : i < cs.length), cs[i].comp.length ≤ maxLen) (hs : Strs w sl ss) (hn : ss.length ≤ 8796093022208) (hok : Cd.ok ⟨n, f, l, ss, s, q, e⟩) (hm : mayB ⟨n, f, l, ss, s, q, e⟩ = true) (ht : namedB cs n = false) (hr : cs.length < 64) (hT : ∀ g, w.heap.size ≤ g → RE.okT g) :
    Calls Try.prog 28 #[.pointer (some ⟨b, 0, none⟩), .agg #[.string n, .string f, .int .u8 l, sl, .int .i8 s, .string q, .int .i16 e]] w (Ent w B b 0 (cs ++ [⟨n, f, l, ss, s, q, e⟩]) rs false) := by
  have b1 : Below w.heap.size w (w.alloc (.cells #[.string n, .string f, .int .u8 l, sl, .int .i8 s, .string q, .int .i16 e] 38)) := (Below.refl _ w).alloc (Nat.le_refl _) _
  have HR := Lib.hid h
  have B1 := Lib.hid b1
  have HS := Lib.hid hs
  have HML := Lib.hid hml
  have HTT := Lib.hid hT
  have HB := Lib.hid hB
  have CM := may_walk n f q l s e ss sl _ (hs.below b1) hok
  rw [hm] at CM
  have CM := Lib.hid CM
  have HT := Lib.hid ht
  have hz : (w.alloc (.cells #[.string n, .string f, .int .u8 l, sl, .int .i8 s, .string q, .int .i16 e] 38)).heap.size = w.heap.size + 1 := by simp
  have HZ := Lib.hid hz
  have hcn : cs.length ≤ 64 := by obtain ⟨C, m, h1, h2, h3, _⟩ := h; exact h3
  obtain ⟨C, m, h1, h2, h3, h4, h5, h6, h7, h8, h9, h10⟩ := h.below b1
  have c3 := reg_cell h1 1923 h8
  clear h b1 h1 h2 h3 h4 h5 h6 h7 h8 h9 h10 hs hm ht hml hz hB hT
  go_enter Try.func28, Try.ntmps28
  go_wp2_with fail
  refine CM.out.mono ?_
  rintro er w1 ⟨rfl, hb⟩
  rw [HZ.out] at hb
  have B2 := Lib.hid (B1.out.trans (hb.mono (by omega)))
  have K1 := Lib.hid (box_cells hb)
  have X1 := Lib.hid hb
  have R1 := Lib.hid (HR.out.below B2.out)
  clear hb c3
  have k0 := K1.out.1
  obtain ⟨C, m, h1, h2, h3, h4, h5, h6, h7, h8, h9, h10⟩ := R1.out
  have c0 := reg_cell h1 1920 h5
  clear h1 h2 h3 h4 h5 h6 h7 h8 h9 h10
  have CH := has_any (.slice (some ⟨b, 0, none⟩) cs.length 64) cs w.heap.size n w1.drew (R1.out.cards HML.out) k0
  rw [HT.out] at CH
  have CH := Lib.hid CH
  have hc1 : (0 : Int) ≤ (cs.length : Int) := by omega
  have hc2 : (cs.length : Int) ≤ 64 := by omega
  go_wp2_with fail
  refine wp_region_any (by kernel_rfl) ?_
  refine wpAny_take (i := 0) (v := ?_) rfl (by kernel_rfl) (by kernel_rfl) (by kernel_rfl) (fun _ _ _ h => h) (Or.inl ⟨by kernel_rfl, ?_⟩) ?_
  rotate_left
  · intro w
    go_simp
    try with_reducible rfl
  simp only [Act.put, List.getElem_toArray, List.getElem_cons_zero, List.getElem_cons_succ, List.setIfInBounds_toArray, List.set_cons_zero, List.set_cons_succ]
  refine wpAny_take (i := 1) (v := ?_) rfl (by kernel_rfl) (by kernel_rfl) (by kernel_rfl) (fun _ _ _ h => h) (Or.inl ⟨by kernel_rfl, ?_⟩) ?_
  rotate_left
  · intro w
    go_simp
    try with_reducible rfl
  simp only [Act.put, List.getElem_toArray, List.getElem_cons_zero, List.getElem_cons_succ, List.setIfInBounds_toArray, List.set_cons_zero, List.set_cons_succ]
  refine wpAny_take (i := 2) (v := ?_) rfl (by kernel_rfl) (by kernel_rfl) (by kernel_rfl) (fun _ _ _ h => h) (Or.inl ⟨by kernel_rfl, ?_⟩) ?_
  rotate_left
  · intro w
    go_simp
    try with_reducible rfl
  simp only [Act.put, List.getElem_toArray, List.getElem_cons_zero, List.getElem_cons_succ, List.setIfInBounds_toArray, List.set_cons_zero, List.set_cons_succ]
  refine wpAny_take (i := 3) (v := ?_) rfl (by kernel_rfl) (by kernel_rfl) (by kernel_rfl) (fun _ _ _ h => h) (Or.inl ⟨by kernel_rfl, ?_⟩) ?_
  rotate_left
  · intro w
    go_simp
    try with_reducible rfl
  simp only [Act.put, List.getElem_toArray, List.getElem_cons_zero, List.getElem_cons_succ, List.setIfInBounds_toArray, List.set_cons_zero, List.set_cons_succ]
  refine wpAny_take (i := 4) (v := ?_) rfl (by kernel_rfl) (by kernel_rfl) (by kernel_rfl) (fun _ _ _ h => h) (Or.inl ⟨by kernel_rfl, ?_⟩) ?_
  rotate_left
  · intro w
    go_simp
    try with_reducible rfl
  simp only [Act.put, List.getElem_toArray, List.getElem_cons_zero, List.getElem_cons_succ, List.setIfInBounds_toArray, List.set_cons_zero, List.set_cons_succ]
  refine wpAny_take (i := 5) (v := ?_) rfl (by kernel_rfl) (by kernel_rfl) (by kernel_rfl) (fun _ _ _ h => h) (Or.inl ⟨by kernel_rfl, ?_⟩) ?_
  rotate_left
  · intro w
    go_simp
    try with_reducible rfl
  simp only [Act.put, List.getElem_toArray, List.getElem_cons_zero, List.getElem_cons_succ, List.setIfInBounds_toArray, List.set_cons_zero, List.set_cons_succ]
  refine wpAny_take (i := 8) (v := ?_) rfl (by kernel_rfl) (by kernel_rfl) (by kernel_rfl) (fun _ _ _ h => h) (Or.inl ⟨by kernel_rfl, ?_⟩) ?_
  rotate_left
  · intro w
    go_simp
    try with_reducible rfl
  simp only [Act.put, List.getElem_toArray, List.getElem_cons_zero, List.getElem_cons_succ, List.setIfInBounds_toArray, List.set_cons_zero, List.set_cons_succ]
  refine wpAny_ready (rs := [6]) (by kernel_rfl) (by simp) (AllReady.cons rfl (fun K hK => ?_) AllReady.nil)
  go_simp
  refine hK _ _ ?_
  clear hK K
  try simp only [Act.put, List.setIfInBounds_toArray, List.set_cons_zero, List.set_cons_succ]
  refine wpAny_take (i := 7) (v := ?_) rfl (by kernel_rfl) (by kernel_rfl) (by kernel_rfl) (fun _ _ _ h => h) (Or.inl ⟨by kernel_rfl, ?_⟩) ?_
  rotate_left
  · intro w
    go_simp
    try with_reducible rfl
  simp only [Act.put, List.getElem_toArray, List.getElem_cons_zero, List.getElem_cons_succ, List.setIfInBounds_toArray, List.set_cons_zero, List.set_cons_succ]
  refine wpAny_ready (rs := [9]) (by kernel_rfl) (by simp) (AllReady.cons rfl (fun K hK => ?_) AllReady.nil)
  go_simp
  refine CH.out.mono ?_
  rintro er w2 ⟨rfl, hb⟩
  go_simp
  refine hK _ _ ?_
  clear hK K
  try simp only [Act.put, List.setIfInBounds_toArray, List.set_cons_zero, List.set_cons_succ]
  refine wpAny_done (by kernel_rfl) ?_ _
  have B3 := Lib.hid ((B2.out.drew).trans (hb.mono B2.out.size))
  have X2 := Lib.hid ((X1.out.drew).trans (hb.mono (by have := X1.out.size; rw [HZ.out] at this; exact this)))
  clear hb k0 c0 CH CM hc1 hc2
  obtain ⟨k0, k1, k2, k3, k4, k5, k6⟩ := box_cells X2.out
  have R2 := Lib.hid (HR.out.below B3.out)
  obtain ⟨C, m, h1, h2, h3, h4, h5, h6, h7, h8, h9, h10⟩ := R2.out
  have c1 := reg_cell h1 1920 h5
  clear h1 h2 h3 h4 h5 h6 h7 h8 h9 h10
  have HC := Lib.hid (copied_walk n f q l s e ss sl w2.drew (HS.out.below B3.out.drew) hn)
  have e64 : decide ((cs.length : Int) = 64) = false := decide_eq_false (by omega)
  have hrc1 : (0 : Int) ≤ (cs.length : Int) := by omega
  have hrc2 : (cs.length : Int) < 64 := by omega
  go_wp2_with fail
  refine wp_region_any (by kernel_rfl) ?_
  refine wpAny_take (i := 0) (v := ?_) rfl (by kernel_rfl) (by kernel_rfl) (by kernel_rfl) (fun _ _ _ h => h) (Or.inl ⟨by kernel_rfl, ?_⟩) ?_
  rotate_left
  · intro w
    go_simp
    try with_reducible rfl
  simp only [Act.put, List.getElem_toArray, List.getElem_cons_zero, List.getElem_cons_succ, List.setIfInBounds_toArray, List.set_cons_zero, List.set_cons_succ]
  refine wpAny_take (i := 1) (v := ?_) rfl (by kernel_rfl) (by kernel_rfl) (by kernel_rfl) (fun _ _ _ h => h) (Or.inl ⟨by kernel_rfl, ?_⟩) ?_
  rotate_left
  · intro w
    go_simp
    try with_reducible rfl
  simp only [Act.put, List.getElem_toArray, List.getElem_cons_zero, List.getElem_cons_succ, List.setIfInBounds_toArray, List.set_cons_zero, List.set_cons_succ]
  refine wpAny_take (i := 2) (v := ?_) rfl (by kernel_rfl) (by kernel_rfl) (by kernel_rfl) (fun _ _ _ h => h) (Or.inl ⟨by kernel_rfl, ?_⟩) ?_
  rotate_left
  · intro w
    go_simp
    try with_reducible rfl
  simp only [Act.put, List.getElem_toArray, List.getElem_cons_zero, List.getElem_cons_succ, List.setIfInBounds_toArray, List.set_cons_zero, List.set_cons_succ]
  refine wpAny_take (i := 3) (v := ?_) rfl (by kernel_rfl) (by kernel_rfl) (by kernel_rfl) (fun _ _ _ h => h) (Or.inl ⟨by kernel_rfl, ?_⟩) ?_
  rotate_left
  · intro w
    go_simp
    try with_reducible rfl
  simp only [Act.put, List.getElem_toArray, List.getElem_cons_zero, List.getElem_cons_succ, List.setIfInBounds_toArray, List.set_cons_zero, List.set_cons_succ]
  refine wpAny_take (i := 7) (v := ?_) rfl (by kernel_rfl) (by kernel_rfl) (by kernel_rfl) (fun _ _ _ h => h) (Or.inl ⟨by kernel_rfl, ?_⟩) ?_
  rotate_left
  · intro w
    go_simp
    try with_reducible rfl
  simp only [Act.put, List.getElem_toArray, List.getElem_cons_zero, List.getElem_cons_succ, List.setIfInBounds_toArray, List.set_cons_zero, List.set_cons_succ]
  refine wpAny_take (i := 8) (v := ?_) rfl (by kernel_rfl) (by kernel_rfl) (by kernel_rfl) (fun _ _ _ h => h) (Or.inl ⟨by kernel_rfl, ?_⟩) ?_
  rotate_left
  · intro w
    go_simp
    try with_reducible rfl
  simp only [Act.put, List.getElem_toArray, List.getElem_cons_zero, List.getElem_cons_succ, List.setIfInBounds_toArray, List.set_cons_zero, List.set_cons_succ]
  refine wpAny_ready (rs := [4, 5]) (by kernel_rfl) (by simp) (AllReady.cons rfl (fun K hK => ?_) (AllReady.cons rfl (fun K hK => ?_) AllReady.nil))
  · skip
    go_simp
    refine hK _ _ ?_
    clear hK K
    try simp only [Act.put, List.setIfInBounds_toArray, List.set_cons_zero, List.set_cons_succ]
    refine wpAny_ready (rs := [5]) (by kernel_rfl) (by simp) (AllReady.cons rfl (fun K hK => ?_) AllReady.nil)
    go_simp
    refine hK _ _ ?_
    clear hK K
    try simp only [Act.put, List.setIfInBounds_toArray, List.set_cons_zero, List.set_cons_succ]
    refine wpAny_ready (rs := [6]) (by kernel_rfl) (by simp) (AllReady.cons rfl (fun K hK => ?_) AllReady.nil)
    go_simp
    refine HC.out.mono ?_
    rintro er w3 ⟨ax, cx, rfl, hown, hb3⟩
    have B4 := Lib.hid ((B3.out.drew).trans (hb3.mono B3.out.size))
    have OW := Lib.hid (own_base hown (Nat.le_trans HB.out B3.out.size))
    have OT := Lib.hid (fun (g : Addr) (e : ax = some g) => HTT.out g.block (Nat.le_trans B3.out.size (hown.lt g.block (by rw [e]; rfl)).1))
    have R3 := Lib.hid (HR.out.below B4.out)
    clear hown hb3
    obtain ⟨C3, m3, h1, h2, h3, h4, h5, h6, h7, h8, h9, h10⟩ := R3.out
    have x1 := reg_cell h1 1920 h5
    obtain ⟨o0, d0⟩ : ∃ u, w3.cell? ⟨b, cs.length * 7 + 0, none⟩ = some u := ⟨_, reg_cell h1 (cs.length * 7 + 0) (Array.getElem?_eq_getElem (by omega))⟩
    have f0 := frozen_of_row w3 b (cs.length * 7 + 0) C3 _ h1
    obtain ⟨o1, d1⟩ : ∃ u, w3.cell? ⟨b, cs.length * 7 + 1, none⟩ = some u := ⟨_, reg_cell h1 (cs.length * 7 + 1) (Array.getElem?_eq_getElem (by omega))⟩
    have f1 := frozen_of_row w3 b (cs.length * 7 + 1) C3 _ h1
    obtain ⟨o2, d2⟩ : ∃ u, w3.cell? ⟨b, cs.length * 7 + 2, none⟩ = some u := ⟨_, reg_cell h1 (cs.length * 7 + 2) (Array.getElem?_eq_getElem (by omega))⟩
    have f2 := frozen_of_row w3 b (cs.length * 7 + 2) C3 _ h1
    obtain ⟨o3, d3⟩ : ∃ u, w3.cell? ⟨b, cs.length * 7 + 3, none⟩ = some u := ⟨_, reg_cell h1 (cs.length * 7 + 3) (Array.getElem?_eq_getElem (by omega))⟩
    have f3 := frozen_of_row w3 b (cs.length * 7 + 3) C3 _ h1
    obtain ⟨o4, d4⟩ : ∃ u, w3.cell? ⟨b, cs.length * 7 + 4, none⟩ = some u := ⟨_, reg_cell h1 (cs.length * 7 + 4) (Array.getElem?_eq_getElem (by omega))⟩
    have f4 := frozen_of_row w3 b (cs.length * 7 + 4) C3 _ h1
    obtain ⟨o5, d5⟩ : ∃ u, w3.cell? ⟨b, cs.length * 7 + 5, none⟩ = some u := ⟨_, reg_cell h1 (cs.length * 7 + 5) (Array.getElem?_eq_getElem (by omega))⟩
    have f5 := frozen_of_row w3 b (cs.length * 7 + 5) C3 _ h1
    obtain ⟨o6, d6⟩ : ∃ u, w3.cell? ⟨b, cs.length * 7 + 6, none⟩ = some u := ⟨_, reg_cell h1 (cs.length * 7 + 6) (Array.getElem?_eq_getElem (by omega))⟩
    have f6 := frozen_of_row w3 b (cs.length * 7 + 6) C3 _ h1
    simp only [Nat.add_zero] at d0 f0
    clear h1 h2 h3 h4 h5 h6 h7 h8 h9 h10
    go_simp
    refine hK _ _ ?_
    clear hK K
    try simp only [Act.put, List.setIfInBounds_toArray, List.set_cons_zero, List.set_cons_succ]
    refine wpAny_take (i := 9) (v := ?_) rfl (by kernel_rfl) (by kernel_rfl) (by kernel_rfl) (fun _ _ _ h => h) (Or.inl ⟨by kernel_rfl, ?_⟩) ?_
    rotate_left
    · intro w
      go_simp
      try with_reducible rfl
    simp only [Act.put, List.getElem_toArray, List.getElem_cons_zero, List.getElem_cons_succ, List.setIfInBounds_toArray, List.set_cons_zero, List.set_cons_succ]
    refine wpAny_ready (rs := [10]) (by kernel_rfl) (by simp) (AllReady.cons rfl (fun K hK => ?_) AllReady.nil)
    go_simp
    refine hK _ _ ?_
    clear hK K
    try simp only [Act.put, List.setIfInBounds_toArray, List.set_cons_zero, List.set_cons_succ]
    refine wpAny_done (by kernel_rfl) ?_ _
    obtain ⟨W4, hW4⟩ : ∃ W4, W4 = putAll w3 b (cs.length * 7) [.string n, .string f, .int .u8 l, .slice ax ss.length cx, .int .i8 s, .string q, .int .i16 e] := ⟨_, rfl⟩
    change Exit.then _ _ _ _ (putAll w3 b (cs.length * 7) [.string n, .string f, .int .u8 l, .slice ax ss.length cx, .int .i8 s, .string q, .int .i16 e])
    rw [← hW4]
    have HRF : Hid (Reg (W4.setCell ⟨b, 1920, none⟩ (.int .i64 (cs.length + 1))) B b (cs ++ [⟨n, f, l, ss, s, q, e⟩]) rs false) := Lib.hid (by rw [hW4]; exact R3.out.stand ⟨n, f, l, ss, s, q, e⟩ ax cx hr OW.out OT.out)
    have HGR : Hid (w.grownBy (W4.setCell ⟨b, 1920, none⟩ (.int .i64 (cs.length + 1))) (some b)) := Lib.hid (by rw [hW4]; exact ((grown_below B4.out).trans (putAll_grown _ _ _)).trans (grown_setCell _ _ _ _))
    have x4 : W4.cell? ⟨b, 1920, none⟩ = some (.int .i64 cs.length) := by
      obtain ⟨C3, m3, h1, h2, h3, h4, h5, h6, h7, h8, h9, h10⟩ := R3.out
      rw [hW4]
      exact (cell_of_row _ b 1920 _ _ _ (putAll_heap _ w3 C3 _ h1)).trans ((setAll_out _ _ _ _ (by simp; omega)).trans h5)
    have fz4 : W4.frozen? ⟨b, 1920, none⟩ = false := by
      obtain ⟨C3, m3, h1, h2, h3, h4, h5, h6, h7, h8, h9, h10⟩ := R3.out
      rw [hW4]
      exact frozen_of_row _ b 1920 _ _ (putAll_heap _ w3 C3 _ h1)
    clear hW4 x1
    go_wp2_with fail
    go_ret
    exact ⟨rfl, HRF.out, HGR.out⟩
  · skip
    go_simp
    refine hK _ _ ?_
    clear hK K
    try simp only [Act.put, List.setIfInBounds_toArray, List.set_cons_zero, List.set_cons_succ]
    refine wpAny_ready (rs := [4, 6]) (by kernel_rfl) (by simp) (AllReady.cons rfl (fun K hK => ?_) (AllReady.cons rfl (fun K hK => ?_) AllReady.nil))
    · skip
      go_simp
      refine hK _ _ ?_
      clear hK K
      try simp only [Act.put, List.setIfInBounds_toArray, List.set_cons_zero, List.set_cons_succ]
      refine wpAny_ready (rs := [6]) (by kernel_rfl) (by simp) (AllReady.cons rfl (fun K hK => ?_) AllReady.nil)
      go_simp
      refine HC.out.mono ?_
      rintro er w3 ⟨ax, cx, rfl, hown, hb3⟩
      have B4 := Lib.hid ((B3.out.drew).trans (hb3.mono B3.out.size))
      have OW := Lib.hid (own_base hown (Nat.le_trans HB.out B3.out.size))
      have OT := Lib.hid (fun (g : Addr) (e : ax = some g) => HTT.out g.block (Nat.le_trans B3.out.size (hown.lt g.block (by rw [e]; rfl)).1))
      have R3 := Lib.hid (HR.out.below B4.out)
      clear hown hb3
      obtain ⟨C3, m3, h1, h2, h3, h4, h5, h6, h7, h8, h9, h10⟩ := R3.out
      have x1 := reg_cell h1 1920 h5
      obtain ⟨o0, d0⟩ : ∃ u, w3.cell? ⟨b, cs.length * 7 + 0, none⟩ = some u := ⟨_, reg_cell h1 (cs.length * 7 + 0) (Array.getElem?_eq_getElem (by omega))⟩
      have f0 := frozen_of_row w3 b (cs.length * 7 + 0) C3 _ h1
      obtain ⟨o1, d1⟩ : ∃ u, w3.cell? ⟨b, cs.length * 7 + 1, none⟩ = some u := ⟨_, reg_cell h1 (cs.length * 7 + 1) (Array.getElem?_eq_getElem (by omega))⟩
      have f1 := frozen_of_row w3 b (cs.length * 7 + 1) C3 _ h1
      obtain ⟨o2, d2⟩ : ∃ u, w3.cell? ⟨b, cs.length * 7 + 2, none⟩ = some u := ⟨_, reg_cell h1 (cs.length * 7 + 2) (Array.getElem?_eq_getElem (by omega))⟩
      have f2 := frozen_of_row w3 b (cs.length * 7 + 2) C3 _ h1
      obtain ⟨o3, d3⟩ : ∃ u, w3.cell? ⟨b, cs.length * 7 + 3, none⟩ = some u := ⟨_, reg_cell h1 (cs.length * 7 + 3) (Array.getElem?_eq_getElem (by omega))⟩
      have f3 := frozen_of_row w3 b (cs.length * 7 + 3) C3 _ h1
      obtain ⟨o4, d4⟩ : ∃ u, w3.cell? ⟨b, cs.length * 7 + 4, none⟩ = some u := ⟨_, reg_cell h1 (cs.length * 7 + 4) (Array.getElem?_eq_getElem (by omega))⟩
      have f4 := frozen_of_row w3 b (cs.length * 7 + 4) C3 _ h1
      obtain ⟨o5, d5⟩ : ∃ u, w3.cell? ⟨b, cs.length * 7 + 5, none⟩ = some u := ⟨_, reg_cell h1 (cs.length * 7 + 5) (Array.getElem?_eq_getElem (by omega))⟩
      have f5 := frozen_of_row w3 b (cs.length * 7 + 5) C3 _ h1
      obtain ⟨o6, d6⟩ : ∃ u, w3.cell? ⟨b, cs.length * 7 + 6, none⟩ = some u := ⟨_, reg_cell h1 (cs.length * 7 + 6) (Array.getElem?_eq_getElem (by omega))⟩
      have f6 := frozen_of_row w3 b (cs.length * 7 + 6) C3 _ h1
      simp only [Nat.add_zero] at d0 f0
      clear h1 h2 h3 h4 h5 h6 h7 h8 h9 h10
      go_simp
      refine hK _ _ ?_
      clear hK K
      try simp only [Act.put, List.setIfInBounds_toArray, List.set_cons_zero, List.set_cons_succ]
      refine wpAny_take (i := 9) (v := ?_) rfl (by kernel_rfl) (by kernel_rfl) (by kernel_rfl) (fun _ _ _ h => h) (Or.inl ⟨by kernel_rfl, ?_⟩) ?_
      rotate_left
      · intro w
        go_simp
        try with_reducible rfl
      simp only [Act.put, List.getElem_toArray, List.getElem_cons_zero, List.getElem_cons_succ, List.setIfInBounds_toArray, List.set_cons_zero, List.set_cons_succ]
      refine wpAny_ready (rs := [10]) (by kernel_rfl) (by simp) (AllReady.cons rfl (fun K hK => ?_) AllReady.nil)
      go_simp
      refine hK _ _ ?_
      clear hK K
      try simp only [Act.put, List.setIfInBounds_toArray, List.set_cons_zero, List.set_cons_succ]
      refine wpAny_done (by kernel_rfl) ?_ _
      obtain ⟨W4, hW4⟩ : ∃ W4, W4 = putAll w3 b (cs.length * 7) [.string n, .string f, .int .u8 l, .slice ax ss.length cx, .int .i8 s, .string q, .int .i16 e] := ⟨_, rfl⟩
      change Exit.then _ _ _ _ (putAll w3 b (cs.length * 7) [.string n, .string f, .int .u8 l, .slice ax ss.length cx, .int .i8 s, .string q, .int .i16 e])
      rw [← hW4]
      have HRF : Hid (Reg (W4.setCell ⟨b, 1920, none⟩ (.int .i64 (cs.length + 1))) B b (cs ++ [⟨n, f, l, ss, s, q, e⟩]) rs false) := Lib.hid (by rw [hW4]; exact R3.out.stand ⟨n, f, l, ss, s, q, e⟩ ax cx hr OW.out OT.out)
      have HGR : Hid (w.grownBy (W4.setCell ⟨b, 1920, none⟩ (.int .i64 (cs.length + 1))) (some b)) := Lib.hid (by rw [hW4]; exact ((grown_below B4.out).trans (putAll_grown _ _ _)).trans (grown_setCell _ _ _ _))
      have x4 : W4.cell? ⟨b, 1920, none⟩ = some (.int .i64 cs.length) := by
        obtain ⟨C3, m3, h1, h2, h3, h4, h5, h6, h7, h8, h9, h10⟩ := R3.out
        rw [hW4]
        exact (cell_of_row _ b 1920 _ _ _ (putAll_heap _ w3 C3 _ h1)).trans ((setAll_out _ _ _ _ (by simp; omega)).trans h5)
      have fz4 : W4.frozen? ⟨b, 1920, none⟩ = false := by
        obtain ⟨C3, m3, h1, h2, h3, h4, h5, h6, h7, h8, h9, h10⟩ := R3.out
        rw [hW4]
        exact frozen_of_row _ b 1920 _ _ (putAll_heap _ w3 C3 _ h1)
      clear hW4 x1
      go_wp2_with fail
      go_ret
      exact ⟨rfl, HRF.out, HGR.out⟩
    · skip
      go_simp
      refine HC.out.mono ?_
      rintro er w3 ⟨ax, cx, rfl, hown, hb3⟩
      have B4 := Lib.hid ((B3.out.drew).trans (hb3.mono B3.out.size))
      have OW := Lib.hid (own_base hown (Nat.le_trans HB.out B3.out.size))
      have OT := Lib.hid (fun (g : Addr) (e : ax = some g) => HTT.out g.block (Nat.le_trans B3.out.size (hown.lt g.block (by rw [e]; rfl)).1))
      have R3 := Lib.hid (HR.out.below B4.out)
      clear hown hb3
      obtain ⟨C3, m3, h1, h2, h3, h4, h5, h6, h7, h8, h9, h10⟩ := R3.out
      have x1 := reg_cell h1 1920 h5
      obtain ⟨o0, d0⟩ : ∃ u, w3.cell? ⟨b, cs.length * 7 + 0, none⟩ = some u := ⟨_, reg_cell h1 (cs.length * 7 + 0) (Array.getElem?_eq_getElem (by omega))⟩
      have f0 := frozen_of_row w3 b (cs.length * 7 + 0) C3 _ h1
      obtain ⟨o1, d1⟩ : ∃ u, w3.cell? ⟨b, cs.length * 7 + 1, none⟩ = some u := ⟨_, reg_cell h1 (cs.length * 7 + 1) (Array.getElem?_eq_getElem (by omega))⟩
      have f1 := frozen_of_row w3 b (cs.length * 7 + 1) C3 _ h1
      obtain ⟨o2, d2⟩ : ∃ u, w3.cell? ⟨b, cs.length * 7 + 2, none⟩ = some u := ⟨_, reg_cell h1 (cs.length * 7 + 2) (Array.getElem?_eq_getElem (by omega))⟩
      have f2 := frozen_of_row w3 b (cs.length * 7 + 2) C3 _ h1
      obtain ⟨o3, d3⟩ : ∃ u, w3.cell? ⟨b, cs.length * 7 + 3, none⟩ = some u := ⟨_, reg_cell h1 (cs.length * 7 + 3) (Array.getElem?_eq_getElem (by omega))⟩
      have f3 := frozen_of_row w3 b (cs.length * 7 + 3) C3 _ h1
      obtain ⟨o4, d4⟩ : ∃ u, w3.cell? ⟨b, cs.length * 7 + 4, none⟩ = some u := ⟨_, reg_cell h1 (cs.length * 7 + 4) (Array.getElem?_eq_getElem (by omega))⟩
      have f4 := frozen_of_row w3 b (cs.length * 7 + 4) C3 _ h1
      obtain ⟨o5, d5⟩ : ∃ u, w3.cell? ⟨b, cs.length * 7 + 5, none⟩ = some u := ⟨_, reg_cell h1 (cs.length * 7 + 5) (Array.getElem?_eq_getElem (by omega))⟩
      have f5 := frozen_of_row w3 b (cs.length * 7 + 5) C3 _ h1
      obtain ⟨o6, d6⟩ : ∃ u, w3.cell? ⟨b, cs.length * 7 + 6, none⟩ = some u := ⟨_, reg_cell h1 (cs.length * 7 + 6) (Array.getElem?_eq_getElem (by omega))⟩
      have f6 := frozen_of_row w3 b (cs.length * 7 + 6) C3 _ h1
      simp only [Nat.add_zero] at d0 f0
      clear h1 h2 h3 h4 h5 h6 h7 h8 h9 h10
      go_simp
      refine hK _ _ ?_
      clear hK K
      try simp only [Act.put, List.setIfInBounds_toArray, List.set_cons_zero, List.set_cons_succ]
      refine wpAny_ready (rs := [4]) (by kernel_rfl) (by simp) (AllReady.cons rfl (fun K hK => ?_) AllReady.nil)
      go_simp
      refine hK _ _ ?_
      clear hK K
      try simp only [Act.put, List.setIfInBounds_toArray, List.set_cons_zero, List.set_cons_succ]
      refine wpAny_take (i := 9) (v := ?_) rfl (by kernel_rfl) (by kernel_rfl) (by kernel_rfl) (fun _ _ _ h => h) (Or.inl ⟨by kernel_rfl, ?_⟩) ?_
      rotate_left
      · intro w
        go_simp
        try with_reducible rfl
      simp only [Act.put, List.getElem_toArray, List.getElem_cons_zero, List.getElem_cons_succ, List.setIfInBounds_toArray, List.set_cons_zero, List.set_cons_succ]
      refine wpAny_ready (rs := [10]) (by kernel_rfl) (by simp) (AllReady.cons rfl (fun K hK => ?_) AllReady.nil)
      go_simp
      refine hK _ _ ?_
      clear hK K
      try simp only [Act.put, List.setIfInBounds_toArray, List.set_cons_zero, List.set_cons_succ]
      refine wpAny_done (by kernel_rfl) ?_ _
      obtain ⟨W4, hW4⟩ : ∃ W4, W4 = putAll w3 b (cs.length * 7) [.string n, .string f, .int .u8 l, .slice ax ss.length cx, .int .i8 s, .string q, .int .i16 e] := ⟨_, rfl⟩
      change Exit.then _ _ _ _ (putAll w3 b (cs.length * 7) [.string n, .string f, .int .u8 l, .slice ax ss.length cx, .int .i8 s, .string q, .int .i16 e])
      rw [← hW4]
      have HRF : Hid (Reg (W4.setCell ⟨b, 1920, none⟩ (.int .i64 (cs.length + 1))) B b (cs ++ [⟨n, f, l, ss, s, q, e⟩]) rs false) := Lib.hid (by rw [hW4]; exact R3.out.stand ⟨n, f, l, ss, s, q, e⟩ ax cx hr OW.out OT.out)
      have HGR : Hid (w.grownBy (W4.setCell ⟨b, 1920, none⟩ (.int .i64 (cs.length + 1))) (some b)) := Lib.hid (by rw [hW4]; exact ((grown_below B4.out).trans (putAll_grown _ _ _)).trans (grown_setCell _ _ _ _))
      have x4 : W4.cell? ⟨b, 1920, none⟩ = some (.int .i64 cs.length) := by
        obtain ⟨C3, m3, h1, h2, h3, h4, h5, h6, h7, h8, h9, h10⟩ := R3.out
        rw [hW4]
        exact (cell_of_row _ b 1920 _ _ _ (putAll_heap _ w3 C3 _ h1)).trans ((setAll_out _ _ _ _ (by simp; omega)).trans h5)
      have fz4 : W4.frozen? ⟨b, 1920, none⟩ = false := by
        obtain ⟨C3, m3, h1, h2, h3, h4, h5, h6, h7, h8, h9, h10⟩ := R3.out
        rw [hW4]
        exact frozen_of_row _ b 1920 _ _ (putAll_heap _ w3 C3 _ h1)
      clear hW4 x1
      go_wp2_with fail
      go_ret
      exact ⟨rfl, HRF.out, HGR.out⟩
end Go.Proofs.Ytpafbnmncioppaa
