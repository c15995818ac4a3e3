/- Fates that came in; the law's own copy of them. -/
import Derived.Test.YtnkababhgloclaaFateC
import Derived.Test.YtnkababhgloclaaFamL
import Derived.Test.YtnkababhgloclaaStD
import Derived.Deep.LoopGhost
import Derived.Deep.DeepCutAuto
import Derived.Deep.RegionHeld3
import Derived.OwnWalk
import Derived.Handy
import Derived.IntWalk
import Derived.Lib.Hide
import Derived.WalkSmall
import Derived.BigQuiet
import Derived.Deep.RegionWith
namespace Go.Proofs.Ytnkababhgloclaa
open Go.RowKit Go.ChangeShapes Go.WideShapes Go.Deep
def fcs : List Ft → List Value
  | [] => []
  | f :: l => f.cells ++ fcs l
theorem fcs_len : ∀ l : List Ft, (fcs l).length = l.length * 3
  | [] => rfl
  | t :: l => by simp [fcs, Ft.cells, fcs_len l]; omega
theorem fcs_append : ∀ l m : List Ft, fcs (l ++ m) = fcs l ++ fcs m
  | [], _ => rfl
  | t :: l, m => by simp [fcs, fcs_append l m]
theorem fcell_lt {t : Ft} {j : Nat} {u : Value} (h : t.cells[j]? = some u) : j < 3 := by
  have := (List.getElem?_eq_some_iff.1 h).1
  simpa [Ft.cells] using this
theorem fcs_at : ∀ (l : List Ft) (i : Nat) (h : i < l.length) (j : Nat) (u : Value), l[i].cells[j]? = some u → (fcs l)[i * 3 + j]? = some u
  | [], i, h, _, _, _ => by simp at h
  | t :: l, 0, _, j, u, hj => by
    have h3 := fcell_lt hj
    simp only [Nat.zero_mul, Nat.zero_add, fcs]
    rw [List.getElem?_append_left (by simp [Ft.cells]; omega)]
    exact hj
  | t :: l, i + 1, h, j, u, hj => by
    have h' : i < l.length := by simpa using h
    rw [fcs, List.getElem?_append_right (by simp [Ft.cells]; omega)]
    have e : (i + 1) * 3 + j - t.cells.length = i * 3 + j := by simp [Ft.cells]; omega
    rw [e]
    exact fcs_at l i h' j u (by simpa using hj)
theorem fcs_one (l : List Ft) : ∀ u ∈ fcs l, u.oneCell' = true := by
  induction l with
  | nil => intro u hu; cases hu
  | cons t l ih =>
    intro u hu
    rcases List.mem_append.1 hu with hu | hu
    · simp only [Ft.cells, List.mem_cons, List.not_mem_nil, or_false] at hu
      rcases hu with rfl | rfl | rfl <;> rfl
    · exact ih u hu
theorem fates_own {w : World} {B e : Nat} {v : Value} {fs : List Ft} (h : w.ownsRow B e 3 v fs.length (fcs fs)) : FatesAt w v fs := by
  have hcap : ∃ a c, v = .slice a fs.length c ∧ fs.length ≤ c := by
    rcases h.2 with ⟨rfl, hn⟩ | ⟨g, cap, cur, rfl, _⟩
    · exact ⟨none, 0, by rw [hn], by rw [hn]; exact Nat.le_refl _⟩
    · exact ⟨_, cap, rfl, own_cap h⟩
  obtain ⟨a, c, rfl, hle⟩ := hcap
  refine ⟨a, c, rfl, hle, fun i hi => ?_⟩
  obtain ⟨g, c', hform, _, _⟩ := h.form (by omega)
  injection hform with e1 _ _
  subst e1
  refine ⟨g, 0, rfl, fun j u hu => ?_⟩
  have h3 := fcell_lt hu
  rw [Nat.zero_add, h.cellAt (i * 3 + j) (by omega)]
  exact fcs_at fs i hi j u hu
theorem FatesAt.take {w : World} {a : Option Addr} {n cap : Nat} {fs : List Ft} (h : FatesAt w (.slice a n cap) fs) (m : Nat) (hm : m ≤ n) : FatesAt w (.slice a m cap) (fs.take m) := by
  obtain ⟨a', cap', he, g1, g3⟩ := h
  injection he with e1 e2 e3
  subst e1 e2 e3
  have hl : (fs.take m).length = m := by rw [List.length_take]; omega
  refine ⟨a, cap, by rw [hl], by omega, fun i hi => ?_⟩
  obtain ⟨b, off, h1, h2⟩ := g3 i (by omega)
  exact ⟨b, off, h1, fun j u hu => h2 j u (by rwa [List.getElem_take] at hu)⟩
theorem c22_u8 : Try.prog.cellsOf 5 = 1 := by kernel_rfl
theorem c22_fate : Try.prog.cellsOf 68 = 3 := by kernel_rfl
theorem b22_fate : Try.prog.bytesOf 68 = 16 := by kernel_rfl
theorem three22 {α : Type} (l : List α) (h : l.length = 3) : ∃ a0 a1 a2, l = [a0, a1, a2] := by
  match l, h with
  | [a0, a1, a2], _ => exact ⟨_, _, _, rfl⟩
section
variable {H : Type} {enc : TypeId × Value → H} {w : World} {base : Nat} {spare : Nat → Bool} {held : Bool}
set_option maxRecDepth 100000 in
/-- A fate that reads. -/
theorem ft_trod {fuel : Nat} {cs : List Value} {x : DataW H × List MemPlace} (h : DataW.trod enc Try.prog w base spare held fuel 68 cs = some x) :
    ∃ (t : Ft), cs = t.cells ∧ t.ok := by
  obtain ⟨xs, n, _, hx, hlen, hxl, hfs⟩ := DataW.trod_struct Try.underlying68 h
  rw [c22_fate] at hlen
  obtain ⟨a0, a1, a2, rfl⟩ := three22 cs hlen
  obtain ⟨x0, x1, x2, rfl⟩ : ∃ x0 x1 x2, xs = [x0, x1, x2] := three22 xs hxl
  have h0 : DataW.trod enc Try.prog w base spare held n 3 (([a0, a1, a2].drop 0).take (Try.prog.cellsOf 3)) = some x0 := hfs 0 _ rfl
  have h1 : DataW.trod enc Try.prog w base spare held n 5 (([a0, a1, a2].drop 1).take (Try.prog.cellsOf 5)) = some x1 := hfs 1 _ rfl
  have h2 : DataW.trod enc Try.prog w base spare held n 5 (([a0, a1, a2].drop 2).take (Try.prog.cellsOf 5)) = some x2 := hfs 2 _ rfl
  rw [c22_int] at h0
  rw [c22_u8] at h1 h2
  obtain ⟨z0, e0, _, _⟩ := DataW.trod_int Try.underlying3 h0
  obtain ⟨z1, e1, _, w1⟩ := DataW.trod_int Try.underlying5 h1
  obtain ⟨z2, e2, _, w2⟩ := DataW.trod_int Try.underlying5 h2
  simp at e0 e1 e2
  subst e0 e1 e2
  simp [Lit.wf] at w1 w2
  refine ⟨⟨z0, z1, z2⟩, rfl, ?_⟩
  have m1 : IntKind.u8.min = 0 ∧ IntKind.u8.max = 255 := ⟨rfl, rfl⟩
  unfold Ft.ok
  simp only
  omega
set_option maxRecDepth 100000 in
/-- A slice of fates that came in. -/
theorem fates_arg {r : Reach} {b0 : Nat} {v : Value} {d : DataW H} {ps : List MemPlace} (hv : Value.okWide Try.prog w r b0 51 v) (h : DataW.Trod enc Try.prog w base spare held 51 v d ps) (hw : ∀ n ∈ DataW.weights Try.prog 51 d, n ≤ reachBytes) :
    ∃ ts : List Ft, FatesAt w v ts ∧ ts.length * 16 ≤ reachBytes ∧ ∀ i (hi : i < ts.length), ts[i].ok := by
  obtain ⟨a, len, cap, rfl⟩ := okWide_slice Try.underlying51 hv
  have hsz := slice_size Try.underlying51 h hw
  rw [b22_fate] at hsz
  obtain ⟨fuel, h⟩ := h
  rcases open_slice Try.underlying51 h with ⟨hcs, _⟩ | ⟨x, l, c, m, n, D, Pl, hcs, _, hl, hm, hmm, hx, hi⟩
  · simp [Value.cells] at hcs
    obtain ⟨rfl, rfl, rfl⟩ := hcs
    exact ⟨[], ⟨none, 0, rfl, by simp, fun i hi => by simp at hi⟩, by simp, fun k hk => by simp at hk⟩
  · simp [Value.cells] at hcs
    obtain ⟨rfl, rfl, rfl⟩ := hcs
    have hlm : len ≤ m := by rw [hmm]; split <;> omega
    have key : ∀ k, k < len → ∃ t : Ft, (∀ j u, (t.cells)[j]? = some u → w.cell? (x.add (k * 3 + j)) = some u) ∧ t.ok := by
      intro k hk
      obtain ⟨cs, hcells, htr⟩ := hi k (by omega)
      rw [c22_fate] at hcells
      obtain ⟨_, hlen, hat⟩ := World.cells?_some hcells
      obtain ⟨t, rfl, h1⟩ := ft_trod htr
      refine ⟨t, fun j u hu => ?_, h1⟩
      have hj := fcell_lt hu
      rw [← add_add, hat j hj, hu]
    obtain ⟨ts, r1, r2⟩ := list_of _ len key
    subst r1
    refine ⟨ts, ⟨some x, cap, rfl, hl, fun k hk => ?_⟩, hsz, fun k hk => (r2 k hk).2⟩
    have h1 := (r2 k hk).1
    obtain ⟨b, off, spot⟩ := x
    have hsp : spot = none := by
      have h10 := (r2 0 (by omega)).1
      have := World.cell?_spot (h10 0 _ rfl)
      simpa [Addr.add] using this
    subst hsp
    exact ⟨b, off, rfl, fun j u hu => by have := h1 j u hu; rwa [addr_add, ← Nat.add_assoc] at this⟩
end
theorem infoFt : (Try.prog.info? 67).map (fun i => (i.zero, i.size, i.bytes)) = some (some (.agg #[.int .i64 0, .int .u8 0, .int .u8 0]), 3, 16) := by kernel_rfl
set_option maxHeartbeats 8000000 in
set_option maxRecDepth 100000 in
theorem given_any (v : Value) (fs : List Ft) (w : World) (hv : FatesAt w v fs) (hl : fs.length * 16 ≤ 140737488355328) : Calls Try.prog 17 #[v] w fun e w' => ∃ vo, e = .returned vo ∧ w'.ownsRow w.heap.size 67 3 vo fs.length (fcs fs) ∧ Below w.heap.size w w' := by
  obtain ⟨a, cap, rfl, _, hc⟩ := hv
  have HC := Lib.hid hc
  obtain ⟨ir, hi, hz0, hz1, hz2⟩ := info_parts infoFt
  obtain ⟨n, hn⟩ : ∃ n, fs.length = n := ⟨_, rfl⟩
  have HN := Lib.hid hn
  rw [hn] at hl ⊢
  clear hc hn
  go_enter Try.func17, Try.ntmps17
  go_wp2_with fail
  go_loopg [3, 4] n (fun r m vi wr => ∃ k : Nat, k ≤ n ∧ r = n - k ∧ vi = .int .i64 k ∧ Hid (wr.ownsRow w.heap.size 67 3 m k (fcs (fs.take k)) ∧ Below w.heap.size w wr))
  case atStart => exact ⟨0, by omega, by omega, rfl, Lib.hid ⟨by simpa [fcs] using World.ownsRow_nil _ _ _ _, Below.refl _ _⟩⟩
  case round =>
    obtain ⟨k, hk, hr, rfl, hq⟩ := hrel
    have Q1 := Lib.hid hq.out.1
    have Q3 := Lib.hid hq.out.2
    have HR := Lib.hid hr
    clear hr hq
    by_cases hlt : k < n
    · obtain ⟨b, off, hp, g0⟩ := HC.out k (by rw [HN.out]; exact hlt)
      subst hp
      obtain ⟨⟨st, how, back⟩, hft⟩ : ∃ f, fs[k]'(by rw [HN.out]; exact hlt) = f := ⟨_, rfl⟩
      simp only [hft] at g0
      have hbz : b < w.heap.size := World.block_lt_of_cell? w _ (g0 0 _ rfl)
      have d0 : wr.cell? ⟨b, off + k * 3, none⟩ = some (.int .i64 st) := (Q3.out.cell (p := ⟨b, off + k * 3, none⟩) hbz).trans (g0 0 _ rfl)
      have d1 : wr.cell? ⟨b, off + k * 3 + 1, none⟩ = some (.int .u8 how) := (Q3.out.cell (p := ⟨b, off + k * 3 + 1, none⟩) hbz).trans (g0 1 _ rfl)
      have d2 : wr.cell? ⟨b, off + k * 3 + 2, none⟩ = some (.int .u8 back) := (Q3.out.cell (p := ⟨b, off + k * 3 + 2, none⟩) hbz).trans (g0 2 _ rfl)
      have hz : w.heap.size ≤ wr.heap.size := Q3.out.size
      have hkm : k + 1 ≤ maxLen := by unfold maxLen; omega
      have hkb : (k + 1) * 16 ≤ 140737488355328 := by omega
      have HF := Lib.hid (own_far Q1.out hbz)
      have hbr : b < wr.heap.size := World.block_lt_of_cell? wr _ d0
      have HFT := Lib.hid hft
      clear g0 hft
      go_wp2_with fail
      go_region_held3 (fun w' => w'.cell? ⟨b, off + k * 3, none⟩ = some (.int .i64 st) ∧ w'.cell? ⟨b, off + k * 3 + 1, none⟩ = some (.int .u8 how) ∧ w'.cell? ⟨b, off + k * 3 + 2, none⟩ = some (.int .u8 back))
        (first | go_keep | exact k1)
        ((refine step_append_lies _ (by rfl) (.tmp 11) (.tmp 28) 52 (by rfl) w.heap.size 67 ir _ 3 16 Try.underlying52 hi hz0 hz1 hz2 rfl (by omega) u3 k (fcs (fs.take k)) (by rfl) ((Q1.out.drew).alloc _) ⟨wr.heap.size, 0, none⟩ 1 1 [.int .i64 st, .int .u8 how, .int .u8 back] (by rfl) (by rfl) (World.news_of_block (cs := #[.int .i64 st, .int .u8 how, .int .u8 back]) (t := 67) (fr := (0, 0)) (heap_alloc_new wr.drew _)) (by simp [Value.oneCell']) (by omega) hkm hkb (by simp; omega) (wr.heap.size + 1) (by simp) ?_; intro g2 cap2 w2 hown2 hgrow2 hat2 hlt2; have k1 : w2.cell? ⟨b, off + k * 3, none⟩ = some (.int .i64 st) ∧ w2.cell? ⟨b, off + k * 3 + 1, none⟩ = some (.int .u8 how) ∧ w2.cell? ⟨b, off + k * 3 + 2, none⟩ = some (.int .u8 back) := ⟨(hgrow2.cell_far ⟨b, off + k * 3, none⟩ (by simp; omega) HF.out).trans (by go_keep), (hgrow2.cell_far ⟨b, off + k * 3 + 1, none⟩ (by simp; omega) HF.out).trans (by go_keep), (hgrow2.cell_far ⟨b, off + k * 3 + 2, none⟩ (by simp; omega) HF.out).trans (by go_keep)⟩))
      have HO : Hid (w2.ownsRow w.heap.size 67 3 (.slice (some ⟨g2, 0, none⟩) (k + 1) cap2) (k + 1) (fcs (fs.take (k + 1)))) := Lib.hid (by
        rw [List.take_succ_eq_append_getElem (by rw [HN.out]; exact hlt), fcs_append, HFT.out]
        exact hown2)
      have HB : Hid (Below w.heap.size w w2) := Lib.hid (((Q3.out.drew).alloc hz (.cells #[.int .i64 st, .int .u8 how, .int .u8 back] 67 (0, 0))).grown hgrow2 (by simp; omega) (fun kk hk' => (Q1.out.lt kk hk').1))
      clear hown2 hgrow2 hat2 hlt2 k1
      go_wp2_with fail
      go_roundg (n - (k + 1))
      case measure => rw [HR.out]; omega
      case rel => exact ⟨k + 1, by omega, rfl, by first | rfl | simp, Lib.hid ⟨HO.out, HB.out⟩⟩
    · obtain rfl : k = n := by omega
      have FIN : Hid (fs.take k = fs) := Lib.hid (List.take_of_length_le (by rw [HN.out]; exact Nat.le_refl _))
      go_wp2_with fail
      go_ret
      exact ⟨_, rfl, by rw [← FIN.out]; exact Q1.out, Q3.out⟩
end Go.Proofs.Ytnkababhgloclaa
