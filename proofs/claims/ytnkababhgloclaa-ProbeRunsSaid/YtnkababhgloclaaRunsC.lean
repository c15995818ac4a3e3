/- The document's probe: the first fate of a step; the probe, whatever the card and the fates. (Printed by tools/genruns.py out of RunsC.src.) -/
import Derived.Test.YtnkababhgloclaaRunsD
import Derived.Test.YtnkababhgloclaaGivesV
import Derived.Test.YtnkababhgloclaaRMayC
import Derived.Deep.CutRange
namespace Go.Proofs.Ytnkababhgloclaa
open Go.RowKit Go.ChangeShapes Tx Nm
theorem FatesAt.at' {w : World} {a : Option Addr} {n c : Nat} {fs : List Ft} (h : FatesAt w (.slice a n c) fs) (i : Nat) (hi : i < fs.length) : ∃ b off, a = some ⟨b, off, none⟩ ∧ ∀ j u, (fs[i].cells)[j]? = some u → w.cell? ⟨b, off + i * 3 + j, none⟩ = some u := by
  obtain ⟨a', cap', he, _, g⟩ := h
  injection he with e1 _ _
  subst e1
  exact g i hi
theorem rmeas {r n k : Nat} (h : r = n - k) (h2 : k < n) : n - (k + 1) < r := by omega
set_option maxHeartbeats 4000000 in
set_option maxRecDepth 100000 in
theorem rof_any (v : Value) (fs : List Ft) (st : Int) (w : World) (hv : FatesAt w v fs) (hl : fs.length ≤ 9223372036854775806) :
    Calls Try.prog 59 #[v, .int .i64 st] w fun e w' => e = .returned (.agg (ofT fs st).cells.toArray) ∧ Below w.heap.size w w' := by
  have HV := Lib.hid hv
  obtain ⟨a, cap, rfl, hz⟩ := hv
  clear hz
  obtain ⟨n, hn⟩ : ∃ n, fs.length = n := ⟨_, rfl⟩
  rw [hn] at hl HV ⊢
  have HN := Lib.hid hn
  have HL := Lib.hid hl
  have B0 := Lib.hid ((Below.refl w.heap.size w).alloc (Nat.le_refl _) (.cells #[.int .i64 0, .int .u8 0, .int .u8 0] 68))
  have P0 := Lib.hid (heap_alloc_new w (.cells #[.int .i64 0, .int .u8 0, .int .u8 0] 68))
  clear hn hl
  go_enter Try.func59, Try.ntmps59
  go_wp2_with fail
  obtain ⟨p4, hp4⟩ : ∃ p, p = w.heap.size := ⟨_, rfl⟩
  obtain ⟨w1, hw1⟩ : ∃ x, x = w.alloc (.cells #[.int .i64 0, .int .u8 0, .int .u8 0] 68) := ⟨_, rfl⟩
  rw [← hp4] at P0
  rw [← hw1] at P0 B0 ⊢
  have PB : Hid (w.heap.size ≤ p4) := Lib.hid (by omega)
  rw [← hp4]
  clear hp4 hw1
  go_loopg [5] n (fun r vi wr => ∃ i : Nat, i ≤ n ∧ r = n - i ∧ vi = .int .i64 i ∧ w1 = wr ∧ Hid (∀ j (hj : j < fs.length), j < i → fs[j].step ≠ st))
  case atStart => exact ⟨0, by omega, by omega, rfl, rfl, Lib.hid (fun j hj h => by omega)⟩
  case round =>
    obtain ⟨i, hi, hr, rfl, rfl, hq⟩ := hrel
    have HR := Lib.hid hr
    clear hr
    have TH : Hid (w1.there p4 0 3) := Lib.hid (fun j hj => ⟨by
      rw [cell_of_row _ _ _ _ _ _ P0.out]
      exact Option.isSome_iff_exists.2 ⟨_, Array.getElem?_eq_getElem (by simp; omega)⟩, frozen_of_row _ _ _ _ _ P0.out⟩)
    by_cases hlt : i < n
    · have hiF : i < fs.length := by rw [HN.out]; exact hlt
      obtain ⟨bF, oF, rfl, g0⟩ := (HV.out.below B0.out).at' i hiF
      obtain ⟨⟨fst, how, back⟩, hft⟩ : ∃ x, fs[i]? = some x := ⟨_, List.getElem?_eq_getElem hiF⟩
      have hft' : fs[i] = ⟨fst, how, back⟩ := by rw [List.getElem?_eq_getElem hiF] at hft; simpa using hft
      rw [hft'] at g0
      have d0 : w1.cell? ⟨bF, oF + i * 3, none⟩ = some (.int .i64 fst) := g0 0 _ rfl
      have d1 : w1.cell? ⟨bF, oF + i * 3 + 1, none⟩ = some (.int .u8 how) := g0 1 _ rfl
      have d2 : w1.cell? ⟨bF, oF + i * 3 + 2, none⟩ = some (.int .u8 back) := g0 2 _ rfl
      have hix : (0 : Int) ≤ (i : Int) ∧ (i : Int) < (n : Int) := by omega
      have wi : wrap64 ((i : Int) + 1) = ((i + 1 : Nat) : Int) := by rw [IntWalk.wrap64_in _ (by have := HL.out; omega)]; omega
      have HLT := Lib.hid hlt
      have HFT := Lib.hid hft'
      have HQ := Lib.hid hq.out
      have HIF := Lib.hid hiF
      clear g0 hft hft' hlt hi hq
      by_cases hs : fst = st
      · subst hs
        have HOF : Hid (ofT fs fst = ⟨fst, how, back⟩) := Lib.hid (by
          rw [of_hit HIF.out (by rw [HFT.out]) (fun j hj => HQ.out j (Nat.lt_trans hj HIF.out) hj), HFT.out])
        go_wp2_with (refine wpList_store_all (by rfl) 68 (.tmp 4) (.tmp 22) (by rfl) p4 0 [.int .i64 fst, .int .u8 how, .int .u8 back] (by kernel_rfl) (by kernel_rfl) TH.out (by kernel_rfl) (by simp [Value.oneCell']) ?_)
        intro W4 HW4
        have hh4 := heap_setCells_same [.int .i64 fst, .int .u8 how, .int .u8 back] w1 0 _ P0.out
        have hb4 : Below w.heap.size w W4 := by
          rw [HW4.out]
          exact B0.out.trans (below_lay PB.out _ _ _)
        rw [← HW4.out] at hh4
        have v0 := (cell_of_row W4 _ 0 _ _ _ hh4).trans (show ([Value.int .i64 fst, .int .u8 how, .int .u8 back].toArray)[0]? = some (.int .i64 fst) from rfl)
        have v1 := (cell_of_row W4 _ 1 _ _ _ hh4).trans (show ([Value.int .i64 fst, .int .u8 how, .int .u8 back].toArray)[1]? = some (.int .u8 how) from rfl)
        have v2 := (cell_of_row W4 _ 2 _ _ _ hh4).trans (show ([Value.int .i64 fst, .int .u8 how, .int .u8 back].toArray)[2]? = some (.int .u8 back) from rfl)
        have HB4 := Lib.hid hb4
        clear hh4 HW4 hb4
        go_wp2_with fail
        refine bodyPost_ret (v := .agg #[.int .i64 fst, .int .u8 how, .int .u8 back]) (by simp [results, Try.results59, go_sem, v0, v1, v2]) rfl ?_
        exact ⟨by rw [HOF.out]; rfl, HB4.out⟩
      · go_wp2_with fail
        go_roundg (n - (i + 1))
        case measure => exact rmeas HR.out HLT.out
        case rel => exact ⟨i + 1, HLT.out, rfl, by first | rfl | rw [wi], rfl, Lib.hid (fun j hj h => by
          by_cases e : j = i
          · subst e
            rw [HFT.out]
            exact hs
          · exact HQ.out j hj (by omega))⟩
    · have hik : i = n := by omega
      subst hik
      have HOF : Hid (ofT fs st = ⟨0, 0, 0⟩) := Lib.hid (of_none (fun j hj => hq.out j hj (by rw [HN.out] at hj; exact hj)))
      clear hq hlt hi
      have hx : ¬ (i : Int) < (i : Int) := by omega
      go_wp2_with (refine wpList_store_all (by rfl) 68 (.tmp 4) (.tmp 23) (by rfl) p4 0 [.int .i64 0, .int .u8 0, .int .u8 0] (by kernel_rfl) (by kernel_rfl) TH.out (by kernel_rfl) (by simp [Value.oneCell']) ?_)
      intro W4 HW4
      have hh4 := heap_setCells_same [.int .i64 0, .int .u8 0, .int .u8 0] w1 0 _ P0.out
      have hb4 : Below w.heap.size w W4 := by
        rw [HW4.out]
        exact B0.out.trans (below_lay PB.out _ _ _)
      rw [← HW4.out] at hh4
      have v0 := (cell_of_row W4 _ 0 _ _ _ hh4).trans (show ([Value.int .i64 0, .int .u8 0, .int .u8 0].toArray)[0]? = some (.int .i64 0) from rfl)
      have v1 := (cell_of_row W4 _ 1 _ _ _ hh4).trans (show ([Value.int .i64 0, .int .u8 0, .int .u8 0].toArray)[1]? = some (.int .u8 0) from rfl)
      have v2 := (cell_of_row W4 _ 2 _ _ _ hh4).trans (show ([Value.int .i64 0, .int .u8 0, .int .u8 0].toArray)[2]? = some (.int .u8 0) from rfl)
      have HB4 := Lib.hid hb4
      clear hh4 HW4 hb4
      go_wp2_with fail
      refine bodyPost_ret (v := .agg #[.int .i64 0, .int .u8 0, .int .u8 0]) (by simp [results, Try.results59, go_sem, v0, v1, v2]) rfl ?_
      exact ⟨by rw [HOF.out]; rfl, HB4.out⟩
theorem RS.congr {w : World} {N p4 p7 : Nat} {vN : Value} {names : List ByteArray} {g : Bool} {at_ how : Int} {v v' : Nat → Value} {D D' : Nat → List ByteArray} {wr : World} (h : RS w N p4 p7 vN names g at_ how v D wr) (hv : ∀ s, s < 3 → v s = v' s) (hD : ∀ s, s < 3 → D s = D' s) : RS w N p4 p7 vN names g at_ how v' D' wr :=
  ⟨by rw [← hv 0 (by omega), ← hv 1 (by omega), ← hv 2 (by omega)]; exact h.out, fun s hs => by rw [← hv s hs, ← hD s hs]; exact h.row s hs, fun s t b hs ht hne => by rw [← hv s hs, ← hv t ht]; exact h.ne s t b hs ht hne, h.zer, h.nam, h.nlt, h.bel, h.nn, h.pol⟩
def vOne (vd : Value) (s : Nat) : Value := if s = 0 then vd else .slice none 0 0
def dOne (l : List ByteArray) (s : Nat) : List ByteArray := if s = 0 then l else []
theorem sc_cell {w : World} {B t n c : Nat} {a : Option Addr} {zs : List ByteArray} (h : w.ownsRow B t 1 (.slice a n c) n (sc zs)) (hl : zs.length = n) (k : Nat) (hk : k < n) : ∃ g, a = some ⟨g, 0, none⟩ ∧ w.cell? ⟨g, k, none⟩ = some (.string (nthS zs k)) := by
  obtain ⟨g, c', hform, _, _⟩ := h.form (by omega)
  injection hform with e1 _ e3
  subst e1 e3
  exact ⟨g, rfl, sc_at h hl k hk⟩
theorem any_bad_yes {fs : List Ft} {i : Nat} (h : i < fs.length) (hb : badT fs[i] = true) : fs.any badT = true := List.any_eq_true.2 ⟨_, List.getElem_mem h, hb⟩
theorem any_bad_no {fs : List Ft} (h : ∀ j (hj : j < fs.length), badT fs[j] = false) : fs.any badT = false := by
  rw [List.any_eq_false]
  intro x hx
  obtain ⟨j, hj, rfl⟩ := List.getElem_of_mem hx
  rw [h j hj]
  simp
theorem wrap_k4 {k : Nat} (h : k ≤ 4) : wrap64 ((k : Int) + 1) = ((k + 1 : Nat) : Int) := by rw [IntWalk.wrap64_in _ (by omega)]; omega
theorem take_nth {names : List ByteArray} {nn k : Nat} {x : ByteArray} (hn : names.length = nn) (hk : k < nn) (hx : nthS names k = x) : names.take (k + 1) = names.take k ++ [x] := by
  have h : k < names.length := by omega
  rw [List.take_succ_eq_append_getElem h, ← nthS_eq h, hx]
def dThree (a b c : List ByteArray) (s : Nat) : List ByteArray := if s = 0 then a else if s = 1 then b else c
theorem fld2 (a b c : Int) (w : World) : (Instr.field 68 (.agg #[.int .i64 a, .int .u8 b, .int .u8 c]) 2).run Try.prog w = .ok (.int .u8 c) w := by kernel_rfl
theorem resT_at (fs : List Ft) : ∀ (i : Nat) (ns : List ByteArray) (k : Nat) (h : k < ns.length), (resT fs i ns)[k]? = some ⟨((i + k : Nat) : Int) + 1, ns[k], endB (ofT fs ((i + k : Nat) : Int)).back⟩
  | _, [], _, h => by simp at h
  | i, n :: ns, 0, _ => by simp [resT]
  | i, n :: ns, k + 1, h => by
    have := resT_at fs (i + 1) ns k (by simpa using h)
    rw [show i + 1 + k = i + (k + 1) by omega] at this
    simpa [resT] using this
theorem back_at {fs : List Ft} {names : List ByteArray} {m nn j kn : Nat} (hn : names.length = nn) (hm : m ≤ nn) (hk : kn + j + 1 = m) : (backR fs names m)[j]? = some ⟨(kn : Int) + 1, nthS names kn, endB (ofT fs kn).back⟩ := by
  have hl : (names.take m).length = m := by rw [List.length_take]; omega
  have hkl : kn < (names.take m).length := by omega
  unfold backR
  rw [List.getElem?_reverse (by rw [resT_len]; omega), resT_len, hl, show m - 1 - j = kn by omega, resT_at fs 0 _ kn hkl, Nat.zero_add, List.getElem_take, nthS_eq (by omega)]
theorem rkey {fs : List Ft} {names : List ByteArray} {m nn M : Nat} {g : Bool} {at_ how : Int} {R : List Rs} (h : Far fs nn m g at_ how) (hn : names.length = nn) (h4 : nn ≤ 4) (hR : (if g then [] else backR fs names m) = R) (hM : R.length = M) :
    M ≤ 4 ∧ (∀ j, j < M → ∃ kn : Nat, at_ - 1 - (j : Int) = (kn : Int) ∧ kn + j + 1 = M ∧ kn < nn ∧ R[j]? = some ⟨(kn : Int) + 1, nthS names kn, endB (ofT fs kn).back⟩) ∧ (-9223372036854775808 ≤ at_ - 1 ∧ at_ - 1 ≤ 9223372036854775807 ∧ at_ ≤ M ∧ -1 ≤ at_) := by
  cases g with
  | true =>
    obtain ⟨_, e2, _⟩ := h.yes rfl
    have hR0 : R = [] := hR.symm
    subst hR0
    have : M = 0 := hM.symm
    subst this
    exact ⟨by omega, fun j hj => by omega, by omega⟩
  | false =>
    obtain ⟨e1, e2, _, _⟩ := h.no rfl
    have hR0 : R = backR fs names m := hR.symm
    have hl : R.length = m := by
      rw [hR0]
      unfold backR
      rw [List.length_reverse, resT_len, List.length_take]
      omega
    have hMm : M = m := by omega
    subst hMm
    refine ⟨by omega, fun j hj => ⟨M - 1 - j, by omega, by omega, by omega, ?_⟩, by omega⟩
    rw [hR0]
    exact back_at hn (by omega) (by omega)
theorem dThree_next {a : List ByteArray} {R : List Rs} {j : Nat} (h : j < R.length) (sb : Bool) (st : Nat) (h0 : st = if sb then 2 else 1) (hs : stuckR R[j] = sb) {x : ByteArray} (hx : R[j].name = x) (t : Nat) (ht : t < 3) : (if t = st then dThree a (namesR false (R.take j)) (namesR true (R.take j)) st ++ [x] else dThree a (namesR false (R.take j)) (namesR true (R.take j)) t) = dThree a (namesR false (R.take (j + 1))) (namesR true (R.take (j + 1))) t := by
  rw [namesR_take false R j h, namesR_take true R j h, hs, hx]
  cases sb with
  | false =>
    subst h0
    simp only [Bool.false_eq_true, if_false, if_true]
    unfold dThree
    by_cases e : t = 1
    · subst e; rfl
    · by_cases e0 : t = 0
      · subst e0; rfl
      · simp [e, e0]
  | true =>
    subst h0
    simp only [Bool.true_eq_false, if_false, if_true]
    unfold dThree
    by_cases e : t = 2
    · subst e; rfl
    · by_cases e0 : t = 0
      · subst e0; rfl
      · by_cases e1 : t = 1
        · subst e1; rfl
        · omega
set_option maxHeartbeats 16000000 in
set_option maxRecDepth 100000 in
theorem rprobe_any {W : World} (hsh : W.ShapedOpen Try.prog) (n f q : ByteArray) (l s e : Int) (ss : List ByteArray) (sl : Value) (vf : Value) (fs : List Ft) (w : World) (hW : Below W.heap.size W w) (hs : Strs w sl ss) (hok : Cd.ok ⟨n, f, l, ss, s, q, e⟩) (hvf : FatesAt w vf fs) (hfo : ∀ f ∈ fs, f.ok) (hlen : fs.length ≤ 140737488355328) :
    Calls Try.prog 20 #[.agg #[.string n, .string f, .int .u8 l, sl, .int .i8 s, .string q, .int .i16 e], vf] w fun er w' => ∃ v, er = .returned (.tuple #[v, .int .i64 (probeE ⟨n, f, l, ss, s, q, e⟩ fs)]) ∧ OutAt w' w.heap.size v (probeO ⟨n, f, l, ss, s, q, e⟩ fs) ∧ Below w.heap.size w w' := by
  obtain ⟨irs, his, hs0, hs1, hs2⟩ := info_parts infoS
  have HF := Lib.hid hvf
  obtain ⟨fa, fc, rfl, hz⟩ := hvf
  clear hz
  obtain ⟨nf, hnf⟩ : ∃ n, fs.length = n := ⟨_, rfl⟩
  rw [hnf] at HF ⊢
  have HNF := Lib.hid hnf
  have HLEN : Hid (nf ≤ 140737488355328) := Lib.hid (by rw [← hnf]; exact hlen)
  have b1 := (Below.refl w.heap.size w).alloc (Nat.le_refl _) (.cells #[.string n, .string f, .int .u8 l, sl, .int .i8 s, .string q, .int .i16 e] 50)
  have b2 := b1.alloc (by simp) (.cells #[.bool false, .int .i64 0, .int .u8 0, .slice none 0 0, .slice none 0 0, .slice none 0 0] 59)
  have hpc := (heap_alloc_old' _ (.cells #[.bool false, .int .i64 0, .int .u8 0, .slice none 0 0, .slice none 0 0, .slice none 0 0] 59) (by simp)).trans (heap_alloc_new w (.cells #[.string n, .string f, .int .u8 l, sl, .int .i8 s, .string q, .int .i16 e] 50))
  have hp4 := heap_alloc2_new w (.cells #[.string n, .string f, .int .u8 l, sl, .int .i8 s, .string q, .int .i16 e] 50) (.cells #[.bool false, .int .i64 0, .int .u8 0, .slice none 0 0, .slice none 0 0, .slice none 0 0] 59)
  have B2 := Lib.hid b2
  have PC2 := Lib.hid hpc
  have P42 := Lib.hid hp4
  have HS := Lib.hid hs
  have HOK := Lib.hid hok
  have HFO := Lib.hid hfo
  have HSH := Lib.hid hsh
  have HW := Lib.hid hW
  clear hnf hlen b1 b2 hpc hp4 hs hok hfo hsh hW
  go_enter Try.func20, Try.ntmps20
  go_upto_region 1 with fail
  obtain ⟨w2, hw2⟩ : ∃ x, x = (w.alloc (.cells #[.string n, .string f, .int .u8 l, sl, .int .i8 s, .string q, .int .i16 e] 50)).alloc (.cells #[.bool false, .int .i64 0, .int .u8 0, .slice none 0 0, .slice none 0 0, .slice none 0 0] 59) := ⟨_, rfl⟩
  rw [← hw2] at B2 PC2 P42 ⊢
  obtain ⟨pc, hpc⟩ : ∃ p, p = w.heap.size := ⟨_, rfl⟩
  obtain ⟨p4, hp4⟩ : ∃ p, p = w.heap.size + 1 := ⟨_, rfl⟩
  have PB : Hid (w.heap.size ≤ p4 ∧ w.heap.size ≤ pc ∧ p4 ≠ pc) := Lib.hid (by omega)
  rw [← hp4] at P42 ⊢
  rw [← hpc] at PC2 ⊢
  clear hw2 hpc hp4
  have e0 := (cell_of_row w2 pc 0 _ _ _ PC2.out).trans (show (#[Value.string n, .string f, .int .u8 l, sl, .int .i8 s, .string q, .int .i16 e] : Array Value)[0]? = some (.string n) from rfl)
  have e1 := (cell_of_row w2 pc 1 _ _ _ PC2.out).trans (show (#[Value.string n, .string f, .int .u8 l, sl, .int .i8 s, .string q, .int .i16 e] : Array Value)[1]? = some (.string f) from rfl)
  have e2 := (cell_of_row w2 pc 2 _ _ _ PC2.out).trans (show (#[Value.string n, .string f, .int .u8 l, sl, .int .i8 s, .string q, .int .i16 e] : Array Value)[2]? = some (.int .u8 l) from rfl)
  have e3 := (cell_of_row w2 pc 3 _ _ _ PC2.out).trans (show (#[Value.string n, .string f, .int .u8 l, sl, .int .i8 s, .string q, .int .i16 e] : Array Value)[3]? = some (sl) from rfl)
  have e4 := (cell_of_row w2 pc 4 _ _ _ PC2.out).trans (show (#[Value.string n, .string f, .int .u8 l, sl, .int .i8 s, .string q, .int .i16 e] : Array Value)[4]? = some (.int .i8 s) from rfl)
  have e5 := (cell_of_row w2 pc 5 _ _ _ PC2.out).trans (show (#[Value.string n, .string f, .int .u8 l, sl, .int .i8 s, .string q, .int .i16 e] : Array Value)[5]? = some (.string q) from rfl)
  have e6 := (cell_of_row w2 pc 6 _ _ _ PC2.out).trans (show (#[Value.string n, .string f, .int .u8 l, sl, .int .i8 s, .string q, .int .i16 e] : Array Value)[6]? = some (.int .i16 e) from rfl)
  have RM := Lib.hid (rmay_walk n f q l s e ss sl w2 (HS.out.below B2.out) HOK.out)
  go_wp2_with fail
  refine RM.out.mono ?_
  rintro er w3 ⟨rfl, hb⟩
  have BX := Lib.hid (B2.out.trans (hb.mono B2.out.size))
  have PC3 := Lib.hid ((hb.block _ (Array.getElem?_eq_some_iff.1 PC2.out).1).trans PC2.out)
  have P4 := Lib.hid ((hb.block _ (Array.getElem?_eq_some_iff.1 P42.out).1).trans P42.out)
  clear hb RM e0 e1 e2 e3 e4 e5 e6 B2 PC2 P42
  cases hm : mayB ⟨n, f, l, ss, s, q, e⟩ with
  | false => as_aux_lemma => --ok
    have PE : Hid (probeE ⟨n, f, l, ss, s, q, e⟩ fs = 70) := Lib.hid (by rw [probeE, hm]; rfl)
    have PO : Hid (probeO ⟨n, f, l, ss, s, q, e⟩ fs = zeroO) := Lib.hid (by rw [probeO, if_neg (fun h => by rw [hm] at h; cases h.1)])
    clear hm
    have TH : Hid (w3.there p4 0 6) := Lib.hid (fun j hj => ⟨by
      rw [cell_of_row _ _ _ _ _ _ P4.out]
      exact Option.isSome_iff_exists.2 ⟨_, Array.getElem?_eq_getElem (by simp; omega)⟩, frozen_of_row _ _ _ _ _ P4.out⟩)
    go_wp2_with (refine wpList_store_all (by rfl) 59 (.tmp 4) (.tmp 15) (by rfl) p4 0 zo6 (by kernel_rfl) (by kernel_rfl) TH.out (by kernel_rfl) (by simp [zo6, Value.oneCell']) ?_)
    intro W4 HW4
    have hh4 := heap_setCells_same zo6 w3 0 _ P4.out
    rw [← HW4.out] at hh4
    have B4 : Hid (Below w.heap.size w W4) := Lib.hid (by
      rw [HW4.out]
      exact BX.out.trans (below_lay PB.out.1 _ _ _))
    have v0 := (cell_of_row W4 _ 0 _ _ _ hh4).trans (show zo6.toArray[0]? = some (.bool false) from rfl)
    have v1 := (cell_of_row W4 _ 1 _ _ _ hh4).trans (show zo6.toArray[1]? = some (.int .i64 0) from rfl)
    have v2 := (cell_of_row W4 _ 2 _ _ _ hh4).trans (show zo6.toArray[2]? = some (.int .u8 0) from rfl)
    have v3 := (cell_of_row W4 _ 3 _ _ _ hh4).trans (show zo6.toArray[3]? = some (.slice none 0 0) from rfl)
    have v4 := (cell_of_row W4 _ 4 _ _ _ hh4).trans (show zo6.toArray[4]? = some (.slice none 0 0) from rfl)
    have v5 := (cell_of_row W4 _ 5 _ _ _ hh4).trans (show zo6.toArray[5]? = some (.slice none 0 0) from rfl)
    clear HW4 hh4
    go_wp2_with fail
    refine bodyPost_ret (v := .tuple #[.agg zo6.toArray, .int .i64 70]) (by simp [results, Try.results20, go_sem, v0, v1, v2, v3, v4, v5, zo6]) rfl ?_
    refine ⟨.agg zo6.toArray, ?_, ?_, B4.out⟩
    · rw [PE.out]
    · rw [PO.out]
      exact OutAt.zero _ _
  | true =>
    have HM := Lib.hid hm
    clear hm
    by_cases h64 : 64 < nf
    · as_aux_lemma => --ok
        have PE : Hid (probeE ⟨n, f, l, ss, s, q, e⟩ fs = 1) := Lib.hid (by rw [probeE, if_pos HM.out, if_pos (.inl (by rw [HNF.out]; exact h64))])
        have PO : Hid (probeO ⟨n, f, l, ss, s, q, e⟩ fs = zeroO) := Lib.hid (by rw [probeO, if_neg (fun h => h.2 (.inl (by rw [HNF.out]; exact h64)))])
        have hgt : (nf : Int) > 64 := by omega
        clear h64
        have TH : Hid (w3.there p4 0 6) := Lib.hid (fun j hj => ⟨by
          rw [cell_of_row _ _ _ _ _ _ P4.out]
          exact Option.isSome_iff_exists.2 ⟨_, Array.getElem?_eq_getElem (by simp; omega)⟩, frozen_of_row _ _ _ _ _ P4.out⟩)
        go_wp2_with (refine wpList_store_all (by rfl) 59 (.tmp 4) (.tmp 19) (by rfl) p4 0 zo6 (by kernel_rfl) (by kernel_rfl) TH.out (by kernel_rfl) (by simp [zo6, Value.oneCell']) ?_)
        intro W4 HW4
        have hh4 := heap_setCells_same zo6 w3 0 _ P4.out
        rw [← HW4.out] at hh4
        have B4 : Hid (Below w.heap.size w W4) := Lib.hid (by
          rw [HW4.out]
          exact BX.out.trans (below_lay PB.out.1 _ _ _))
        have v0 := (cell_of_row W4 _ 0 _ _ _ hh4).trans (show zo6.toArray[0]? = some (.bool false) from rfl)
        have v1 := (cell_of_row W4 _ 1 _ _ _ hh4).trans (show zo6.toArray[1]? = some (.int .i64 0) from rfl)
        have v2 := (cell_of_row W4 _ 2 _ _ _ hh4).trans (show zo6.toArray[2]? = some (.int .u8 0) from rfl)
        have v3 := (cell_of_row W4 _ 3 _ _ _ hh4).trans (show zo6.toArray[3]? = some (.slice none 0 0) from rfl)
        have v4 := (cell_of_row W4 _ 4 _ _ _ hh4).trans (show zo6.toArray[4]? = some (.slice none 0 0) from rfl)
        have v5 := (cell_of_row W4 _ 5 _ _ _ hh4).trans (show zo6.toArray[5]? = some (.slice none 0 0) from rfl)
        clear HW4 hh4
        go_wp2_with fail
        refine bodyPost_ret (v := .tuple #[.agg zo6.toArray, .int .i64 1]) (by simp [results, Try.results20, go_sem, v0, v1, v2, v3, v4, v5, zo6]) rfl ?_
        refine ⟨.agg zo6.toArray, ?_, ?_, B4.out⟩
        · rw [PE.out]
        · rw [PO.out]
          exact OutAt.zero _ _
    · have H64 := Lib.hid h64
      have hgt : ¬ ((nf : Int) > 64) := by omega
      clear h64
      go_upto_region 5 with fail
      clear hgt
      go_wp2_with fail
      go_loopg [6] nf (fun r vi wr => ∃ i : Nat, i ≤ nf ∧ r = nf - i ∧ vi = .int .i64 i ∧ w3 = wr ∧ Hid (∀ j (hj : j < fs.length), j < i → badT fs[j] = false))
      case atStart => exact ⟨0, by omega, by omega, rfl, rfl, Lib.hid (fun j hj h => by omega)⟩
      case round =>
        obtain ⟨i, hi, hr, rfl, rfl, hq⟩ := hrel
        have HR := Lib.hid hr
        have HQ := Lib.hid hq.out
        clear hr hq
        by_cases hlt : i < nf
        · as_aux_lemma => --ok
            have hiF : i < fs.length := by rw [HNF.out]; exact hlt
            obtain ⟨bF, oF, rfl, g0⟩ := (HF.out.below BX.out).at' i hiF
            obtain ⟨⟨fst, how, back⟩, hft⟩ : ∃ x, fs[i]? = some x := ⟨_, List.getElem?_eq_getElem hiF⟩
            have hft' : fs[i] = ⟨fst, how, back⟩ := by rw [List.getElem?_eq_getElem hiF] at hft; simpa using hft
            rw [hft'] at g0
            have d1 : w3.cell? ⟨bF, oF + i * 3 + 1, none⟩ = some (.int .u8 how) := g0 1 _ rfl
            have d2 : w3.cell? ⟨bF, oF + i * 3 + 2, none⟩ = some (.int .u8 back) := g0 2 _ rfl
            have hix : (0 : Int) ≤ (i : Int) ∧ (i : Int) < (nf : Int) := by omega
            have wi : wrap64 ((i : Int) + 1) = ((i + 1 : Nat) : Int) := by rw [IntWalk.wrap64_in _ (by have := HLEN.out; omega)]; omega
            have HLT := Lib.hid hlt
            have HIF := Lib.hid hiF
            have HFT := Lib.hid hft'
            clear g0 hft hft' hlt hi
            by_cases h1 : how > 2
            · have hbad : fs.any badT = true := any_bad_yes HIF.out (by rw [HFT.out]; simp [badT, show (2 : Int) < how from h1])
              have PE : Hid (probeE ⟨n, f, l, ss, s, q, e⟩ fs = 1) := Lib.hid (by rw [probeE, if_pos HM.out, if_pos (.inr hbad)])
              have PO : Hid (probeO ⟨n, f, l, ss, s, q, e⟩ fs = zeroO) := Lib.hid (by rw [probeO, if_neg (fun h => h.2 (.inr hbad))])
              have dd : decide (how > 2) = true := decide_eq_true h1
              clear hbad
              have TH : Hid (w3.there p4 0 6) := Lib.hid (fun j hj => ⟨by
                rw [cell_of_row _ _ _ _ _ _ P4.out]
                exact Option.isSome_iff_exists.2 ⟨_, Array.getElem?_eq_getElem (by simp; omega)⟩, frozen_of_row _ _ _ _ _ P4.out⟩)
              go_wp2_with (refine wpList_store_all (by rfl) 59 (.tmp 4) (.tmp 40) (by rfl) p4 0 zo6 (by kernel_rfl) (by kernel_rfl) TH.out (by kernel_rfl) (by simp [zo6, Value.oneCell']) ?_)
              intro W4 HW4
              have hh4 := heap_setCells_same zo6 w3 0 _ P4.out
              rw [← HW4.out] at hh4
              have B4 : Hid (Below w.heap.size w W4) := Lib.hid (by
                rw [HW4.out]
                exact BX.out.trans (below_lay PB.out.1 _ _ _))
              have v0 := (cell_of_row W4 _ 0 _ _ _ hh4).trans (show zo6.toArray[0]? = some (.bool false) from rfl)
              have v1 := (cell_of_row W4 _ 1 _ _ _ hh4).trans (show zo6.toArray[1]? = some (.int .i64 0) from rfl)
              have v2 := (cell_of_row W4 _ 2 _ _ _ hh4).trans (show zo6.toArray[2]? = some (.int .u8 0) from rfl)
              have v3 := (cell_of_row W4 _ 3 _ _ _ hh4).trans (show zo6.toArray[3]? = some (.slice none 0 0) from rfl)
              have v4 := (cell_of_row W4 _ 4 _ _ _ hh4).trans (show zo6.toArray[4]? = some (.slice none 0 0) from rfl)
              have v5 := (cell_of_row W4 _ 5 _ _ _ hh4).trans (show zo6.toArray[5]? = some (.slice none 0 0) from rfl)
              clear HW4 hh4
              go_wp2_with fail
              refine bodyPost_ret (v := .tuple #[.agg zo6.toArray, .int .i64 1]) (by simp [results, Try.results20, go_sem, v0, v1, v2, v3, v4, v5, zo6]) rfl ?_
              refine ⟨.agg zo6.toArray, ?_, ?_, B4.out⟩
              · rw [PE.out]
              · rw [PO.out]
                exact OutAt.zero _ _
            · by_cases h2 : back > 2
              · have hbad : fs.any badT = true := any_bad_yes HIF.out (by rw [HFT.out]; simp [badT, show (2 : Int) < back from h2])
                have PE : Hid (probeE ⟨n, f, l, ss, s, q, e⟩ fs = 1) := Lib.hid (by rw [probeE, if_pos HM.out, if_pos (.inr hbad)])
                have PO : Hid (probeO ⟨n, f, l, ss, s, q, e⟩ fs = zeroO) := Lib.hid (by rw [probeO, if_neg (fun h => h.2 (.inr hbad))])
                have dd : decide (how > 2) = false := decide_eq_false h1
                have dd2 : decide (back > 2) = true := decide_eq_true h2
                clear hbad
                have TH : Hid (w3.there p4 0 6) := Lib.hid (fun j hj => ⟨by
                  rw [cell_of_row _ _ _ _ _ _ P4.out]
                  exact Option.isSome_iff_exists.2 ⟨_, Array.getElem?_eq_getElem (by simp; omega)⟩, frozen_of_row _ _ _ _ _ P4.out⟩)
                go_wp2_with (refine wpList_store_all (by rfl) 59 (.tmp 4) (.tmp 40) (by rfl) p4 0 zo6 (by kernel_rfl) (by kernel_rfl) TH.out (by kernel_rfl) (by simp [zo6, Value.oneCell']) ?_)
                intro W4 HW4
                have hh4 := heap_setCells_same zo6 w3 0 _ P4.out
                rw [← HW4.out] at hh4
                have B4 : Hid (Below w.heap.size w W4) := Lib.hid (by
                  rw [HW4.out]
                  exact BX.out.trans (below_lay PB.out.1 _ _ _))
                have v0 := (cell_of_row W4 _ 0 _ _ _ hh4).trans (show zo6.toArray[0]? = some (.bool false) from rfl)
                have v1 := (cell_of_row W4 _ 1 _ _ _ hh4).trans (show zo6.toArray[1]? = some (.int .i64 0) from rfl)
                have v2 := (cell_of_row W4 _ 2 _ _ _ hh4).trans (show zo6.toArray[2]? = some (.int .u8 0) from rfl)
                have v3 := (cell_of_row W4 _ 3 _ _ _ hh4).trans (show zo6.toArray[3]? = some (.slice none 0 0) from rfl)
                have v4 := (cell_of_row W4 _ 4 _ _ _ hh4).trans (show zo6.toArray[4]? = some (.slice none 0 0) from rfl)
                have v5 := (cell_of_row W4 _ 5 _ _ _ hh4).trans (show zo6.toArray[5]? = some (.slice none 0 0) from rfl)
                clear HW4 hh4
                go_wp2_with fail
                refine bodyPost_ret (v := .tuple #[.agg zo6.toArray, .int .i64 1]) (by simp [results, Try.results20, go_sem, v0, v1, v2, v3, v4, v5, zo6]) rfl ?_
                refine ⟨.agg zo6.toArray, ?_, ?_, B4.out⟩
                · rw [PE.out]
                · rw [PO.out]
                  exact OutAt.zero _ _
              · have dd : decide (how > 2) = false := decide_eq_false h1
                have dd2 : decide (back > 2) = false := decide_eq_false h2
                have NB : Hid (badT (fs[i]'HIF.out) = false) := Lib.hid (by rw [HFT.out]; simp only [badT, Bool.or_eq_false_iff, decide_eq_false_iff_not]; omega)
                go_wp2_with fail
                go_roundg (nf - (i + 1))
                case measure => exact rmeas HR.out HLT.out
                case rel => exact ⟨i + 1, HLT.out, rfl, by first | rfl | rw [wi], rfl, Lib.hid (fun j hj h => by
                  by_cases e : j = i
                  · subst e
                    exact NB.out
                  · exact HQ.out j hj (by omega))⟩
        · have hik : nf = i := by omega
          subst hik
          have hbad : fs.any badT = false := any_bad_no (fun j hj => HQ.out j hj (by rw [HNF.out] at hj; exact hj))
          have HBAD := Lib.hid hbad
          have hx : ¬ (nf : Int) < (nf : Int) := by omega
          clear hbad hlt hi HQ
          have CPC := PC3
          have TZa : Hid ((w3.alloc (.cells #[.bool false, .int .i64 0, .int .u8 0, .slice none 0 0, .slice none 0 0, .slice none 0 0] 59)).there w3.heap.size 0 6) := Lib.hid (fun j hj => ⟨by
            rw [cell_of_row _ _ _ _ _ _ (heap_alloc_new w3 (.cells #[.bool false, .int .i64 0, .int .u8 0, .slice none 0 0, .slice none 0 0, .slice none 0 0] 59))]
            exact Option.isSome_iff_exists.2 ⟨_, Array.getElem?_eq_getElem (by simp; omega)⟩, frozen_of_row _ _ _ _ _ (heap_alloc_new w3 (.cells #[.bool false, .int .i64 0, .int .u8 0, .slice none 0 0, .slice none 0 0, .slice none 0 0] 59))⟩)
          go_wp2_with (refine wpList_store_all (by rfl) 59 (.tmp 7) (.tmp 41) (by rfl) w3.heap.size 0 [.bool true, .int .i64 (-1), .int .u8 0, .slice none 0 0, .slice none 0 0, .slice none 0 0] (by kernel_rfl) (by kernel_rfl) TZa.out (by kernel_rfl) (by simp [Value.oneCell']) ?_)
          intro W5 HW5
          have hhW5 := heap_setCells_same [.bool true, .int .i64 (-1), .int .u8 0, .slice none 0 0, .slice none 0 0, .slice none 0 0] _ 0 _ (heap_alloc_new w3 (.cells #[.bool false, .int .i64 0, .int .u8 0, .slice none 0 0, .slice none 0 0, .slice none 0 0] 59))
          rw [← HW5.out] at hhW5
          have hbW5 : Below w3.heap.size w3 W5 := by
            rw [HW5.out]
            exact ((Below.refl w3.heap.size w3).alloc (Nat.le_refl _) _).trans (below_lay (Nat.le_refl _) _ _ _)
          have BX5 := Lib.hid (BX.out.trans (hbW5.mono BX.out.size))
          have PC5 := Lib.hid ((hbW5.block _ (Array.getElem?_eq_some_iff.1 PC3.out).1).trans PC3.out)
          have P45 := Lib.hid ((hbW5.block _ (Array.getElem?_eq_some_iff.1 P4.out).1).trans P4.out)
          have h47 : p4 < w3.heap.size := (Array.getElem?_eq_some_iff.1 P4.out).1
          have hz3 : w.heap.size ≤ w3.heap.size := BX.out.size
          obtain ⟨p7, hp7⟩ : ∃ p, p = w3.heap.size := ⟨_, rfl⟩
          rw [← hp7] at hhW5 h47 hz3 ⊢
          have P75 := Lib.hid hhW5
          have POL : Hid (w.heap.size ≤ p4 ∧ w.heap.size ≤ p7 ∧ p4 ≠ p7) := Lib.hid ⟨PB.out.1, hz3, by omega⟩
          obtain ⟨names, hnm⟩ : ∃ x, stepsRun.stepsF f = x := ⟨_, rfl⟩
          have few := steps_few f
          rw [hnm] at few
          obtain ⟨nn, hnn⟩ : ∃ x, names.length = x := ⟨_, rfl⟩
          rw [hnn] at few
          have cst := stepsRun.rsteps_any HSH.out f W5 (HW.out.trans (BX5.out.mono HW.out.size))
          rw [hnm, hnn] at cst
          have CST := Lib.hid cst
          clear cst
          have FEW := Lib.hid few
          have HNN := Lib.hid hnn
          have HNM := Lib.hid hnm
          have e1 := (cell_of_row W5 pc 1 _ _ _ PC5.out).trans (show (#[Value.string n, .string f, .int .u8 l, sl, .int .i8 s, .string q, .int .i16 e] : Array Value)[1]? = some (.string f) from rfl)
          clear hbW5 hhW5 HW5 TZa h47 hz3 hp7 few hnn hnm CPC BX PC3 P4 hx PC5
          go_upto_region 11 with fail
          go_cut [8] from 12 to 102 (fun v8 wx => ∃ (aS : Option Addr) (cS : Nat), v8 = .slice aS nn cS ∧ Hid (RS w wx.heap.size p4 p7 (.slice aS nn cS) names true (-1) 0 (vOne (.slice none 0 0)) (dOne []) wx))
          case first => as_aux_lemma => --ok
            go_wp2_with fail
            refine CST.out.mono ?_
            rintro er w6 ⟨vS, rfl, hown, hb⟩
            obtain ⟨aS, cS, rfl⟩ := own_slice hown
            have hv0 : ∀ t, vOne (.slice none 0 0) t = .slice none 0 0 := fun t => by unfold vOne; split <;> rfl
            have hd0 : ∀ t, dOne [] t = [] := fun t => by unfold dOne; split <;> rfl
            have FIN : Hid (RS w w6.heap.size p4 p7 (.slice aS nn cS) names true (-1) 0 (vOne (.slice none 0 0)) (dOne []) w6) := by
              refine Lib.hid ⟨(hb.block _ (Array.getElem?_eq_some_iff.1 P75.out).1).trans P75.out, ?_, ?_, (hb.block _ (Array.getElem?_eq_some_iff.1 P45.out).1).trans P45.out, ?_, fun b hbb => (hown.lt b hbb).2, BX5.out.trans (hb.mono BX5.out.size), ⟨(BX5.out.trans (hb.mono BX5.out.size)).size, Nat.le_refl _⟩, POL.out⟩
              · intro t ht
                rw [hv0, hd0]
                exact ⟨rfl, .inl ⟨rfl, rfl⟩⟩
              · intro a t b _ _ _ hbb
                rw [hv0] at hbb
                cases hbb
              · rw [HNN.out]
                exact own_base hown BX5.out.size
            clear hv0 hd0
            clear hb hown e1 CST
            go_wp2_with fail
            go_meet
            exact ⟨aS, cS, rfl, FIN⟩
          case rest =>
          obtain ⟨aS, cS, rfl, hcut⟩ := hcut
          obtain ⟨N1, hN1⟩ : ∃ p, p = wc.heap.size := ⟨_, rfl⟩
          rw [← hN1] at hcut
          have RS0 := hcut
          clear hN1 e1 CST BX5 P45 P75
          obtain ⟨w5, rfl⟩ : ∃ x : World, x = wc := ⟨_, rfl⟩
          go_upto_block 2 with fail
          go_cut [] (fun wx => ∃ (m : Nat) (g : Bool) (at_ how : Int) (vd : Value), Hid (Far fs nn m g at_ how ∧ RS w N1 p4 p7 (.slice aS nn cS) names g at_ how (vOne vd) (dOne (names.take m)) wx))
          case first => as_aux_lemma => --ok
            go_wp2_with fail
            go_loopg [9] nn (fun r v9 wr => ∃ (k : Nat) (vd : Value), k ≤ nn ∧ r = nn - k ∧ v9 = .int .i64 k ∧ Hid (RS w N1 p4 p7 (.slice aS nn cS) names true (-1) 0 (vOne vd) (dOne (names.take k)) wr ∧ ∀ j : Nat, j < k → (ofT fs j).how = 0))
            case atStart => exact ⟨0, .slice none 0 0, by omega, by omega, rfl, Lib.hid ⟨RS0.out, fun j hj => by omega⟩⟩
            case round =>
              clear RS0
              obtain ⟨k, vd, hk, hr2, rfl, hq⟩ := hrel
              have HR2 := Lib.hid hr2
              have RSk := Lib.hid hq.out.1
              have FK := Lib.hid hq.out.2
              clear hr2 hq
              by_cases hlt : k < nn
              · have HLT := Lib.hid hlt
                have RF := Lib.hid (rof_any (.slice fa nf fc) fs k wr (HF.out.below RSk.out.bel) (by rw [HNF.out]; have := HLEN.out; omega))
                have hki : (0 : Int) ≤ (k : Int) ∧ (k : Int) < (nn : Int) := by omega
                have wk : wrap64 ((k : Int) + 1) = ((k + 1 : Nat) : Int) := wrap_k4 (Nat.le_of_lt (Nat.lt_of_lt_of_le hlt FEW.out.2.1))
                obtain ⟨lk, hlk⟩ : ∃ x, (names.take k).length = x := ⟨_, rfl⟩
                have hk4 : Hid (lk ≤ 4) := Lib.hid (by rw [← hlk, List.length_take]; have := FEW.out.2.1; omega)
                have HLK := Lib.hid hlk
                clear hlk
                clear hlt hk
                go_wp2_with fail
                refine RF.out.mono ?_
                rintro er w4 ⟨rfl, hb⟩
                have RS4 := Lib.hid (RSk.out.below hb)
                clear hb RF RSk
                obtain ⟨⟨fst, how2, back⟩, hof⟩ : ∃ x, ofT fs k = x := ⟨_, rfl⟩
                rw [hof]
                simp only [Ft.cells]
                have HOF := Lib.hid hof
                clear hof
                have TZb : Hid ((w4.alloc (.cells #[.int .i64 0, .int .u8 0, .int .u8 0] 68)).there w4.heap.size 0 3) := Lib.hid (fun j hj => ⟨by
                  rw [cell_of_row _ _ _ _ _ _ (heap_alloc_new w4 (.cells #[.int .i64 0, .int .u8 0, .int .u8 0] 68))]
                  exact Option.isSome_iff_exists.2 ⟨_, Array.getElem?_eq_getElem (by simp; omega)⟩, frozen_of_row _ _ _ _ _ (heap_alloc_new w4 (.cells #[.int .i64 0, .int .u8 0, .int .u8 0] 68))⟩)
                go_wp2_with (refine wpList_store_all (by rfl) 68 (.tmp 10) (.tmp 53) (by rfl) w4.heap.size 0 [.int .i64 fst, .int .u8 how2, .int .u8 back] (by kernel_rfl) (by kernel_rfl) TZb.out (by kernel_rfl) (by simp [Value.oneCell']) ?_)
                intro W6 HW6
                have hhW6 := heap_setCells_same [.int .i64 fst, .int .u8 how2, .int .u8 back] _ 0 _ (heap_alloc_new w4 (.cells #[.int .i64 0, .int .u8 0, .int .u8 0] 68))
                rw [← HW6.out] at hhW6
                have hbW6 : Below w4.heap.size w4 W6 := by
                  rw [HW6.out]
                  exact ((Below.refl w4.heap.size w4).alloc (Nat.le_refl _) _).trans (below_lay (Nat.le_refl _) _ _ _)
                have RS6 := Lib.hid (RS4.out.below hbW6)
                have v1 := (cell_of_row W6 _ 1 _ _ _ hhW6).trans (show ([Value.int .i64 fst, .int .u8 how2, .int .u8 back].toArray)[1]? = some (.int .u8 how2) from rfl)
                have h107 : w4.heap.size ≠ p7 := fun e => by
                  have := (Array.getElem?_eq_some_iff.1 RS4.out.out).1
                  omega
                obtain ⟨p10, hp10⟩ : ∃ p, p = w4.heap.size := ⟨_, rfl⟩
                rw [← hp10] at v1 h107 ⊢
                clear hbW6 hhW6 HW6 TZb hp10 RS4
                by_cases h0 : how2 = 0
                · subst h0
                  have FK2 : Hid (∀ j : Nat, j < k + 1 → (ofT fs j).how = 0) := Lib.hid (fun j hj => by
                    by_cases e : j < k
                    · exact FK.out j e
                    · obtain rfl : j = k := by omega
                      rw [HOF.out])
                  obtain ⟨nmk, hnmk⟩ : ∃ x, nthS names k = x := ⟨_, rfl⟩
                  have HNMK := Lib.hid hnmk
                  clear hnmk
                  go_upto_region 20 with fail
                  clear v1 h107
                  refine wp_region_any (by kernel_rfl) ?_
                  obtain ⟨wd, hwd⟩ : ∃ x, x = W6.drew := ⟨_, rfl⟩
                  change wpAny _ _ _ _ _ _ _ W6.drew
                  rw [← hwd]
                  have bd : Below W6.heap.size W6 wd := by rw [hwd]; exact (Below.refl _ _).drew
                  have RD := Lib.hid (RS6.out.below bd)
                  clear hwd bd
                  obtain ⟨gS, hgS, d5⟩ := sc_cell (by have h := RD.out.nam; rw [HNN.out] at h; exact h) HNN.out k HLT.out
                  subst hgS
                  rw [HNMK.out] at d5
                  have d1 : wd.cell? ⟨p7, 3, none⟩ = some (vd) := (cell_of_row wd p7 3 _ _ _ RD.out.out).trans rfl
                  have BA : Hid (Below wd.heap.size wd (wd.alloc (.cells #[.string nmk] 9))) := Lib.hid ((Below.refl _ wd).alloc (Nat.le_refl _) _)
                  have e1 : (wd.alloc (.cells #[.string nmk] 9)).cell? ⟨p7, 3, none⟩ = some (vd) := (BA.out.cell (p := ⟨p7, 3, none⟩) (World.block_lt_of_cell? wd _ d1)).trans d1
                  have OD : Hid (wd.ownsRow N1 9 1 (vd) lk (sc (names.take k))) := Lib.hid (by have h := RD.out.row 0 (by omega); rw [show (dOne (names.take k) 0).length = lk from HLK.out] at h; exact h)
                  have HZ : Hid (N1 ≤ wd.heap.size) := Lib.hid RD.out.nn.2
                  refine wpAny_take (i := 0) (v := ?_) rfl (by kernel_rfl) (by kernel_rfl) (by kernel_rfl) (fun _ _ _ h => h) (Or.inl ⟨by kernel_rfl, ?_⟩) ?_
                  rotate_left
                  · intro w
                    go_simp
                    try with_reducible rfl
                  simp only [Act.put, List.getElem_toArray, List.getElem_cons_zero, List.getElem_cons_succ, List.setIfInBounds_toArray, List.set_cons_zero, List.set_cons_succ]
                  refine wpAny_take (i := 2) (v := ?_) rfl (by kernel_rfl) (by kernel_rfl) (by kernel_rfl) (fun _ _ _ h => h) (Or.inl ⟨by kernel_rfl, ?_⟩) ?_
                  rotate_left
                  · intro w
                    go_simp
                    try with_reducible rfl
                  simp only [Act.put, List.getElem_toArray, List.getElem_cons_zero, List.getElem_cons_succ, List.setIfInBounds_toArray, List.set_cons_zero, List.set_cons_succ]
                  refine wpAny_take (i := 3) (v := ?_) rfl (by kernel_rfl) (by kernel_rfl) (by kernel_rfl) (fun _ _ _ h => h) (Or.inl ⟨by kernel_rfl, ?_⟩) ?_
                  rotate_left
                  · intro w
                    go_simp
                    try with_reducible rfl
                  simp only [Act.put, List.getElem_toArray, List.getElem_cons_zero, List.getElem_cons_succ, List.setIfInBounds_toArray, List.set_cons_zero, List.set_cons_succ]
                  refine wpAny_take (i := 4) (v := ?_) rfl (by kernel_rfl) (by kernel_rfl) (by kernel_rfl) (fun _ _ _ h => h) (Or.inl ⟨by kernel_rfl, ?_⟩) ?_
                  rotate_left
                  · intro w
                    go_simp
                    try with_reducible rfl
                  simp only [Act.put, List.getElem_toArray, List.getElem_cons_zero, List.getElem_cons_succ, List.setIfInBounds_toArray, List.set_cons_zero, List.set_cons_succ]
                  refine wpAny_ready (rs := [1, 5]) (by kernel_rfl) (by simp) (AllReady.cons rfl (fun K hK => ?_) (AllReady.cons rfl (fun K hK => ?_) AllReady.nil))
                  · skip
                    go_simp
                    refine hK _ _ ?_
                    clear hK K
                    try simp only [Act.put, List.setIfInBounds_toArray, List.set_cons_zero, List.set_cons_succ]
                    refine wpAny_ready (rs := [5]) (by kernel_rfl) (by simp) (AllReady.cons rfl (fun K hK => ?_) AllReady.nil)
                    go_simp
                    refine hK _ _ ?_
                    clear hK K
                    try simp only [Act.put, List.setIfInBounds_toArray, List.set_cons_zero, List.set_cons_succ]
                    refine wpAny_ready (rs := [6]) (by kernel_rfl) (by simp) (AllReady.cons rfl (fun K hK => ?_) AllReady.nil)
                    go_simp
                    refine hK _ _ ?_
                    clear hK K
                    try simp only [Act.put, List.setIfInBounds_toArray, List.set_cons_zero, List.set_cons_succ]
                    refine wpAny_ready (rs := [7]) (by kernel_rfl) (by simp) (AllReady.cons rfl (fun K hK => ?_) AllReady.nil)
                    refine step_append_lies _ (by rfl) (.tmp 64) (.tmp 69) 37 (by rfl) N1 9 irs _ 1 16 Try.underlying37 his hs0 hs1 hs2 rfl (by omega) (vd) lk (sc (names.take k)) (by kernel_rfl) (own_below OD.out BA.out) ⟨wd.heap.size, 0, none⟩ 1 1 [.string nmk] (by kernel_rfl) (by rfl) (World.news_of_block (cs := #[.string nmk]) (t := 9) (fr := (0, 0)) (heap_alloc_new wd _)) (by simp [Value.oneCell']) (by omega) (by have := hk4.out; unfold maxLen; omega) (by have := hk4.out; omega) (by have := HZ.out; simp; omega) (wd.heap.size + 1) (by simp) ?_
                    intro g2 cap2 w5 hown2 hgrow2 hat2 hlt2
                    have NX := Lib.hid (RD.out.next BA.out (st := 0) (x := nmk) (by omega) (n := lk) HLK.out hown2 hgrow2 (hat2.imp id (fun e => by rw [e]; simp)))
                    have n3 := NX.out.2.1
                    have nf3 := NX.out.2.2
                    simp only [Nat.reduceAdd] at n3 nf3
                    clear hown2 hgrow2 hat2 hlt2

                    refine hK _ _ ?_
                    clear hK K
                    try simp only [Act.put, List.setIfInBounds_toArray, List.set_cons_zero, List.set_cons_succ]
                    refine wpAny_take (i := 8) (v := ?_) rfl (by kernel_rfl) (by kernel_rfl) (by kernel_rfl) (fun _ _ _ h => h) (Or.inl ⟨by kernel_rfl, ?_⟩) ?_
                    rotate_left
                    · intro w
                      go_simp
                      try with_reducible rfl
                    simp only [Act.put, List.getElem_toArray, List.getElem_cons_zero, List.getElem_cons_succ, List.setIfInBounds_toArray, List.set_cons_zero, List.set_cons_succ]
                    refine wpAny_ready (rs := [9]) (by kernel_rfl) (by simp) (AllReady.cons rfl (fun K hK => ?_) AllReady.nil)
                    go_simp
                    refine hK _ _ ?_
                    clear hK K
                    try simp only [Act.put, List.setIfInBounds_toArray, List.set_cons_zero, List.set_cons_succ]
                    refine wpAny_done (by kernel_rfl) ?_ _
                    go_wp2_with fail
                    go_roundg (nn - (k + 1))
                    case measure => exact rmeas HR2.out HLT.out
                    case rel => exact ⟨k + 1, _, HLT.out, rfl, by first | rfl | rw [wk], Lib.hid ⟨NX.out.1.congr (v' := vOne (.slice (some ⟨g2, 0, none⟩) (lk + 1) cap2)) (D' := dOne (names.take (k + 1))) (fun t ht => by
                      unfold vOne
                      by_cases e : t = 0
                      · simp [e, dOne]
                      · simp [e]) (fun t ht => by
                      unfold dOne
                      by_cases e : t = 0
                      · subst e
                        simp only [if_true]
                        exact (take_nth HNN.out HLT.out HNMK.out).symm
                      · simp [e]), FK2.out⟩⟩

                  · skip
                    go_simp
                    refine hK _ _ ?_
                    clear hK K
                    try simp only [Act.put, List.setIfInBounds_toArray, List.set_cons_zero, List.set_cons_succ]
                    refine wpAny_ready (rs := [1, 6]) (by kernel_rfl) (by simp) (AllReady.cons rfl (fun K hK => ?_) (AllReady.cons rfl (fun K hK => ?_) AllReady.nil))
                    · skip
                      go_simp
                      refine hK _ _ ?_
                      clear hK K
                      try simp only [Act.put, List.setIfInBounds_toArray, List.set_cons_zero, List.set_cons_succ]
                      refine wpAny_ready (rs := [6]) (by kernel_rfl) (by simp) (AllReady.cons rfl (fun K hK => ?_) AllReady.nil)
                      go_simp
                      refine hK _ _ ?_
                      clear hK K
                      try simp only [Act.put, List.setIfInBounds_toArray, List.set_cons_zero, List.set_cons_succ]
                      refine wpAny_ready (rs := [7]) (by kernel_rfl) (by simp) (AllReady.cons rfl (fun K hK => ?_) AllReady.nil)
                      refine step_append_lies _ (by rfl) (.tmp 64) (.tmp 69) 37 (by rfl) N1 9 irs _ 1 16 Try.underlying37 his hs0 hs1 hs2 rfl (by omega) (vd) lk (sc (names.take k)) (by kernel_rfl) (own_below OD.out BA.out) ⟨wd.heap.size, 0, none⟩ 1 1 [.string nmk] (by kernel_rfl) (by rfl) (World.news_of_block (cs := #[.string nmk]) (t := 9) (fr := (0, 0)) (heap_alloc_new wd _)) (by simp [Value.oneCell']) (by omega) (by have := hk4.out; unfold maxLen; omega) (by have := hk4.out; omega) (by have := HZ.out; simp; omega) (wd.heap.size + 1) (by simp) ?_
                      intro g2 cap2 w5 hown2 hgrow2 hat2 hlt2
                      have NX := Lib.hid (RD.out.next BA.out (st := 0) (x := nmk) (by omega) (n := lk) HLK.out hown2 hgrow2 (hat2.imp id (fun e => by rw [e]; simp)))
                      have n3 := NX.out.2.1
                      have nf3 := NX.out.2.2
                      simp only [Nat.reduceAdd] at n3 nf3
                      clear hown2 hgrow2 hat2 hlt2

                      refine hK _ _ ?_
                      clear hK K
                      try simp only [Act.put, List.setIfInBounds_toArray, List.set_cons_zero, List.set_cons_succ]
                      refine wpAny_take (i := 8) (v := ?_) rfl (by kernel_rfl) (by kernel_rfl) (by kernel_rfl) (fun _ _ _ h => h) (Or.inl ⟨by kernel_rfl, ?_⟩) ?_
                      rotate_left
                      · intro w
                        go_simp
                        try with_reducible rfl
                      simp only [Act.put, List.getElem_toArray, List.getElem_cons_zero, List.getElem_cons_succ, List.setIfInBounds_toArray, List.set_cons_zero, List.set_cons_succ]
                      refine wpAny_ready (rs := [9]) (by kernel_rfl) (by simp) (AllReady.cons rfl (fun K hK => ?_) AllReady.nil)
                      go_simp
                      refine hK _ _ ?_
                      clear hK K
                      try simp only [Act.put, List.setIfInBounds_toArray, List.set_cons_zero, List.set_cons_succ]
                      refine wpAny_done (by kernel_rfl) ?_ _
                      go_wp2_with fail
                      go_roundg (nn - (k + 1))
                      case measure => exact rmeas HR2.out HLT.out
                      case rel => exact ⟨k + 1, _, HLT.out, rfl, by first | rfl | rw [wk], Lib.hid ⟨NX.out.1.congr (v' := vOne (.slice (some ⟨g2, 0, none⟩) (lk + 1) cap2)) (D' := dOne (names.take (k + 1))) (fun t ht => by
                        unfold vOne
                        by_cases e : t = 0
                        · simp [e, dOne]
                        · simp [e]) (fun t ht => by
                        unfold dOne
                        by_cases e : t = 0
                        · subst e
                          simp only [if_true]
                          exact (take_nth HNN.out HLT.out HNMK.out).symm
                        · simp [e]), FK2.out⟩⟩

                    · skip
                      go_simp
                      refine hK _ _ ?_
                      clear hK K
                      try simp only [Act.put, List.setIfInBounds_toArray, List.set_cons_zero, List.set_cons_succ]
                      refine wpAny_ready (rs := [1]) (by kernel_rfl) (by simp) (AllReady.cons rfl (fun K hK => ?_) AllReady.nil)
                      go_simp
                      refine hK _ _ ?_
                      clear hK K
                      try simp only [Act.put, List.setIfInBounds_toArray, List.set_cons_zero, List.set_cons_succ]
                      refine wpAny_ready (rs := [7]) (by kernel_rfl) (by simp) (AllReady.cons rfl (fun K hK => ?_) AllReady.nil)
                      refine step_append_lies _ (by rfl) (.tmp 64) (.tmp 69) 37 (by rfl) N1 9 irs _ 1 16 Try.underlying37 his hs0 hs1 hs2 rfl (by omega) (vd) lk (sc (names.take k)) (by kernel_rfl) (own_below OD.out BA.out) ⟨wd.heap.size, 0, none⟩ 1 1 [.string nmk] (by kernel_rfl) (by rfl) (World.news_of_block (cs := #[.string nmk]) (t := 9) (fr := (0, 0)) (heap_alloc_new wd _)) (by simp [Value.oneCell']) (by omega) (by have := hk4.out; unfold maxLen; omega) (by have := hk4.out; omega) (by have := HZ.out; simp; omega) (wd.heap.size + 1) (by simp) ?_
                      intro g2 cap2 w5 hown2 hgrow2 hat2 hlt2
                      have NX := Lib.hid (RD.out.next BA.out (st := 0) (x := nmk) (by omega) (n := lk) HLK.out hown2 hgrow2 (hat2.imp id (fun e => by rw [e]; simp)))
                      have n3 := NX.out.2.1
                      have nf3 := NX.out.2.2
                      simp only [Nat.reduceAdd] at n3 nf3
                      clear hown2 hgrow2 hat2 hlt2

                      refine hK _ _ ?_
                      clear hK K
                      try simp only [Act.put, List.setIfInBounds_toArray, List.set_cons_zero, List.set_cons_succ]
                      refine wpAny_take (i := 8) (v := ?_) rfl (by kernel_rfl) (by kernel_rfl) (by kernel_rfl) (fun _ _ _ h => h) (Or.inl ⟨by kernel_rfl, ?_⟩) ?_
                      rotate_left
                      · intro w
                        go_simp
                        try with_reducible rfl
                      simp only [Act.put, List.getElem_toArray, List.getElem_cons_zero, List.getElem_cons_succ, List.setIfInBounds_toArray, List.set_cons_zero, List.set_cons_succ]
                      refine wpAny_ready (rs := [9]) (by kernel_rfl) (by simp) (AllReady.cons rfl (fun K hK => ?_) AllReady.nil)
                      go_simp
                      refine hK _ _ ?_
                      clear hK K
                      try simp only [Act.put, List.setIfInBounds_toArray, List.set_cons_zero, List.set_cons_succ]
                      refine wpAny_done (by kernel_rfl) ?_ _
                      go_wp2_with fail
                      go_roundg (nn - (k + 1))
                      case measure => exact rmeas HR2.out HLT.out
                      case rel => exact ⟨k + 1, _, HLT.out, rfl, by first | rfl | rw [wk], Lib.hid ⟨NX.out.1.congr (v' := vOne (.slice (some ⟨g2, 0, none⟩) (lk + 1) cap2)) (D' := dOne (names.take (k + 1))) (fun t ht => by
                        unfold vOne
                        by_cases e : t = 0
                        · simp [e, dOne]
                        · simp [e]) (fun t ht => by
                        unfold dOne
                        by_cases e : t = 0
                        · subst e
                          simp only [if_true]
                          exact (take_nth HNN.out HLT.out HNMK.out).symm
                        · simp [e]), FK2.out⟩⟩

                · have o0 := (cell_of_row W6 p7 0 _ _ _ RS6.out.out).trans (show (#[Value.bool true, .int .i64 (-1), .int .u8 0, vOne vd 0, vOne vd 1, vOne vd 2] : Array Value)[0]? = some (.bool true) from rfl)
                  have o1 := (cell_of_row W6 p7 1 _ _ _ RS6.out.out).trans (show (#[Value.bool true, .int .i64 (-1), .int .u8 0, vOne vd 0, vOne vd 1, vOne vd 2] : Array Value)[1]? = some (.int .i64 (-1)) from rfl)
                  have o2 := (cell_of_row W6 p7 2 _ _ _ RS6.out.out).trans (show (#[Value.bool true, .int .i64 (-1), .int .u8 0, vOne vd 0, vOne vd 1, vOne vd 2] : Array Value)[2]? = some (.int .u8 0) from rfl)
                  have f0 := frozen_of_row W6 p7 0 _ _ RS6.out.out
                  have f1 := frozen_of_row W6 p7 1 _ _ RS6.out.out
                  have f2 := frozen_of_row W6 p7 2 _ _ RS6.out.out
                  have FAR : Hid (Far fs nn k false k how2) := Lib.hid ⟨FK.out, Nat.le_of_lt HLT.out, fun h => (by cases h), fun _ => ⟨HLT.out, rfl, by rw [HOF.out], h0⟩⟩
                  have FIN : Hid (RS w N1 p4 p7 (.slice aS nn cS) names false k how2 (vOne vd) (dOne (names.take k)) (((W6.setCell ⟨p7, 0, none⟩ (.bool false)).setCell ⟨p7, 1, none⟩ (.int .i64 k)).setCell ⟨p7, 2, none⟩ (.int .u8 how2))) := Lib.hid (((RS6.out.set (g' := false) (at' := -1) (how' := 0) 0 (.bool false) rfl).set (g' := false) (at' := k) (how' := 0) 1 (.int .i64 k) rfl).set (g' := false) (at' := k) (how' := how2) 2 (.int .u8 how2) rfl)
                  go_wp2_with fail
                  go_meet
                  exact ⟨k, false, k, how2, vd, Lib.hid ⟨FAR.out, FIN.out⟩⟩
              · have hkn : k = nn := by omega
                subst hkn
                have hx : ¬ (k : Int) < (k : Int) := by omega
                clear hlt hk
                go_wp2_with fail
                go_meet
                exact ⟨k, true, -1, 0, vd, Lib.hid ⟨⟨FK.out, Nat.le_refl _, fun _ => ⟨rfl, rfl, rfl⟩, fun h => by cases h⟩, RSk.out⟩⟩
          case rest =>
          obtain ⟨m, g, at_, how, vd, HC⟩ := hcut
          have FAR := Lib.hid HC.out.1
          have RSm := Lib.hid HC.out.2
          clear HC RS0
          obtain ⟨w6, rfl⟩ : ∃ x : World, x = wc := ⟨_, rfl⟩
          obtain ⟨R, hR⟩ : ∃ x, (if g then [] else backR fs names m) = x := ⟨_, rfl⟩
          obtain ⟨M, hM⟩ : ∃ x, R.length = x := ⟨_, rfl⟩
          have KEY := Lib.hid (rkey FAR.out HNN.out FEW.out.2.1 hR hM)
          have HRR := Lib.hid hR
          have HMM := Lib.hid hM
          have wat : wrap64 (at_ - 1) = at_ - 1 := IntWalk.wrap64_in _ ⟨KEY.out.2.2.1, KEY.out.2.2.2.1⟩
          have q1 := (cell_of_row w6 p7 1 _ _ _ RSm.out.out).trans (show (#[Value.bool g, .int .i64 at_, .int .u8 how, vOne vd 0, vOne vd 1, vOne vd 2] : Array Value)[1]? = some (.int .i64 at_) from rfl)
          clear hR hM
          go_wp2_with fail
          go_loopg [11] M (fun r v11 wr => ∃ (j : Nat) (v : Nat → Value), j ≤ M ∧ r = M - j ∧ v11 = .int .i64 (at_ - 1 - j) ∧ Hid (RS w N1 p4 p7 (.slice aS nn cS) names g at_ how v (dThree (names.take m) (namesR false (R.take j)) (namesR true (R.take j))) wr))
          case atStart => exact ⟨0, vOne vd, by omega, by omega, by first | (rw [wat]; simp) | simp, Lib.hid (RSm.out.congr (fun _ _ => rfl) (fun t ht => by
            unfold dOne dThree
            simp [namesR]))⟩
          case round =>
            clear RSm wat q1
            obtain ⟨j, v, hj, hr3, rfl, hq⟩ := hrel
            have HR3 := Lib.hid hr3
            have RSj := Lib.hid hq.out
            clear hr3 hq
            by_cases hlt : j < M
            · obtain ⟨kn, hkn, hkj, hknn, hRj⟩ := KEY.out.2.1 j hlt
              have HLT := Lib.hid hlt
              have HKN := Lib.hid hknn
              have HPREV : Hid (wrap64 ((kn : Int) - 1) = at_ - 1 - ((j + 1 : Nat) : Int)) := Lib.hid (by
                have := KEY.out.2.2
                rw [IntWalk.wrap64_in _ (by have := FEW.out.2.1; omega)]
                omega)
              have hfld := fld2
              have RF := Lib.hid (rof_any (.slice fa nf fc) fs kn wr (HF.out.below RSj.out.bel) (by rw [HNF.out]; have := HLEN.out; omega))
              have hki : (0 : Int) ≤ (kn : Int) ∧ (kn : Int) < (nn : Int) := by omega
              have hJR : j < R.length := by rw [HMM.out]; exact hlt
              have HJR := Lib.hid hJR
              obtain ⟨⟨fst, how2, back⟩, hof⟩ : ∃ x, ofT fs kn = x := ⟨_, rfl⟩
              have hbk := ofT_ok HFO.out HBAD.out kn
              rw [hof] at hbk hRj
              obtain ⟨nmk, hnmk⟩ : ∃ x, nthS names kn = x := ⟨_, rfl⟩
              rw [hnmk] at hRj
              rw [List.getElem?_eq_getElem hJR] at hRj
              have HNMK := Lib.hid hnmk
              have HRJ : Hid (R[j]'hJR = ⟨(kn : Int) + 1, nmk, endB back⟩) := Lib.hid (by simpa using hRj)
              have HNMR : Hid ((R[j]'HJR.out).name = nmk) := Lib.hid (by rw [HRJ.out])
              have HSTK : Hid (stuckR (R[j]'HJR.out) = decide (back ≠ 0)) := Lib.hid (by rw [HRJ.out]; exact stuck_end back hbk.2.2.1 hbk.2.2.2 _ _)
              rw [hkn]
              clear hlt hj hkn hkj hknn hRj hnmk hbk
              go_wp2_with fail
              refine RF.out.mono ?_
              rintro er w4 ⟨rfl, hb⟩
              rw [hof]
              simp only [Ft.cells]
              have RS4 := Lib.hid (RSj.out.below hb)
              clear hb RF RSj hof
              by_cases h0 : back = 0
              · subst h0
                have hst : Hid (stuckR (R[j]'HJR.out) = false) := Lib.hid (by rw [HSTK.out]; rfl)
                go_upto_region 25 with fail
                refine wp_region_any (by kernel_rfl) ?_
                obtain ⟨wd, hwd⟩ : ∃ x, x = w4.drew := ⟨_, rfl⟩
                change wpAny _ _ _ _ _ _ _ w4.drew
                rw [← hwd]
                have bd : Below w4.heap.size w4 wd := by rw [hwd]; exact (Below.refl _ _).drew
                have RD := Lib.hid (RS4.out.below bd)
                clear hwd bd
                obtain ⟨gS, hgS, d5⟩ := sc_cell (by have h := RD.out.nam; rw [HNN.out] at h; exact h) HNN.out kn HKN.out
                subst hgS
                rw [HNMK.out] at d5
                obtain ⟨vx, hvx⟩ : ∃ x, v 1 = x := ⟨_, rfl⟩
                have d1 : wd.cell? ⟨p7, 4, none⟩ = some vx := (cell_of_row wd p7 4 _ _ _ RD.out.out).trans (by rw [← hvx]; rfl)
                have BA : Hid (Below wd.heap.size wd (wd.alloc (.cells #[.string nmk] 9))) := Lib.hid ((Below.refl _ wd).alloc (Nat.le_refl _) _)
                have e1 : (wd.alloc (.cells #[.string nmk] 9)).cell? ⟨p7, 4, none⟩ = some vx := (BA.out.cell (p := ⟨p7, 4, none⟩) (World.block_lt_of_cell? wd _ d1)).trans d1
                obtain ⟨lk, hlk⟩ : ∃ x, (namesR false (R.take j)).length = x := ⟨_, rfl⟩
                have hk4 : Hid (lk ≤ 4) := Lib.hid (by
                  rw [← hlk]
                  exact Nat.le_trans (namesR_le false _) (Nat.le_trans (List.length_take_le _ _) (Nat.le_trans (Nat.le_of_lt HLT.out) KEY.out.1)))
                have HLK := Lib.hid hlk
                have OD : Hid (wd.ownsRow N1 9 1 vx lk (sc (namesR false (R.take j)))) := Lib.hid (by
                  have h := RD.out.row 1 (by omega)
                  rw [hvx, show (dThree (names.take m) (namesR false (R.take j)) (namesR true (R.take j)) 1) = namesR false (R.take j) from rfl, hlk] at h
                  exact h)
                have HVX := Lib.hid hvx
                clear hlk hvx
                have HZ : Hid (N1 ≤ wd.heap.size) := Lib.hid RD.out.nn.2
                refine wpAny_take (i := 0) (v := ?_) rfl (by kernel_rfl) (by kernel_rfl) (by kernel_rfl) (fun _ _ _ h => h) (Or.inl ⟨by kernel_rfl, ?_⟩) ?_
                rotate_left
                · intro w
                  go_simp
                  try with_reducible rfl
                simp only [Act.put, List.getElem_toArray, List.getElem_cons_zero, List.getElem_cons_succ, List.setIfInBounds_toArray, List.set_cons_zero, List.set_cons_succ]
                refine wpAny_take (i := 2) (v := ?_) rfl (by kernel_rfl) (by kernel_rfl) (by kernel_rfl) (fun _ _ _ h => h) (Or.inl ⟨by kernel_rfl, ?_⟩) ?_
                rotate_left
                · intro w
                  go_simp
                  try with_reducible rfl
                simp only [Act.put, List.getElem_toArray, List.getElem_cons_zero, List.getElem_cons_succ, List.setIfInBounds_toArray, List.set_cons_zero, List.set_cons_succ]
                refine wpAny_take (i := 3) (v := ?_) rfl (by kernel_rfl) (by kernel_rfl) (by kernel_rfl) (fun _ _ _ h => h) (Or.inl ⟨by kernel_rfl, ?_⟩) ?_
                rotate_left
                · intro w
                  go_simp
                  try with_reducible rfl
                simp only [Act.put, List.getElem_toArray, List.getElem_cons_zero, List.getElem_cons_succ, List.setIfInBounds_toArray, List.set_cons_zero, List.set_cons_succ]
                refine wpAny_take (i := 4) (v := ?_) rfl (by kernel_rfl) (by kernel_rfl) (by kernel_rfl) (fun _ _ _ h => h) (Or.inl ⟨by kernel_rfl, ?_⟩) ?_
                rotate_left
                · intro w
                  go_simp
                  try with_reducible rfl
                simp only [Act.put, List.getElem_toArray, List.getElem_cons_zero, List.getElem_cons_succ, List.setIfInBounds_toArray, List.set_cons_zero, List.set_cons_succ]
                refine wpAny_ready (rs := [1, 5]) (by kernel_rfl) (by simp) (AllReady.cons rfl (fun K hK => ?_) (AllReady.cons rfl (fun K hK => ?_) AllReady.nil))
                · skip
                  go_simp
                  refine hK _ _ ?_
                  clear hK K
                  try simp only [Act.put, List.setIfInBounds_toArray, List.set_cons_zero, List.set_cons_succ]
                  refine wpAny_ready (rs := [5]) (by kernel_rfl) (by simp) (AllReady.cons rfl (fun K hK => ?_) AllReady.nil)
                  go_simp
                  refine hK _ _ ?_
                  clear hK K
                  try simp only [Act.put, List.setIfInBounds_toArray, List.set_cons_zero, List.set_cons_succ]
                  refine wpAny_ready (rs := [6]) (by kernel_rfl) (by simp) (AllReady.cons rfl (fun K hK => ?_) AllReady.nil)
                  go_simp
                  refine hK _ _ ?_
                  clear hK K
                  try simp only [Act.put, List.setIfInBounds_toArray, List.set_cons_zero, List.set_cons_succ]
                  refine wpAny_ready (rs := [7]) (by kernel_rfl) (by simp) (AllReady.cons rfl (fun K hK => ?_) AllReady.nil)
                  refine step_append_lies _ (by rfl) (.tmp 85) (.tmp 90) 37 (by rfl) N1 9 irs _ 1 16 Try.underlying37 his hs0 hs1 hs2 rfl (by omega) (vx) lk (sc (namesR false (R.take j))) (by kernel_rfl) (own_below OD.out BA.out) ⟨wd.heap.size, 0, none⟩ 1 1 [.string nmk] (by kernel_rfl) (by rfl) (World.news_of_block (cs := #[.string nmk]) (t := 9) (fr := (0, 0)) (heap_alloc_new wd _)) (by simp [Value.oneCell']) (by omega) (by have := hk4.out; unfold maxLen; omega) (by have := hk4.out; omega) (by have := HZ.out; simp; omega) (wd.heap.size + 1) (by simp) ?_
                  intro g2 cap2 w5 hown2 hgrow2 hat2 hlt2
                  have NX := Lib.hid (RD.out.next BA.out (st := 1) (x := nmk) (by omega) (n := lk) HLK.out hown2 (by rw [HVX.out]; exact hgrow2) (by rw [HVX.out]; exact hat2.imp id (fun e => by rw [e]; simp)))
                  have n3 := NX.out.2.1
                  have nf3 := NX.out.2.2
                  rw [HVX.out] at n3
                  simp only [Nat.reduceAdd] at n3 nf3
                  clear hown2 hgrow2 hat2 hlt2

                  refine hK _ _ ?_
                  clear hK K
                  try simp only [Act.put, List.setIfInBounds_toArray, List.set_cons_zero, List.set_cons_succ]
                  refine wpAny_take (i := 8) (v := ?_) rfl (by kernel_rfl) (by kernel_rfl) (by kernel_rfl) (fun _ _ _ h => h) (Or.inl ⟨by kernel_rfl, ?_⟩) ?_
                  rotate_left
                  · intro w
                    go_simp
                    try with_reducible rfl
                  simp only [Act.put, List.getElem_toArray, List.getElem_cons_zero, List.getElem_cons_succ, List.setIfInBounds_toArray, List.set_cons_zero, List.set_cons_succ]
                  refine wpAny_ready (rs := [9]) (by kernel_rfl) (by simp) (AllReady.cons rfl (fun K hK => ?_) AllReady.nil)
                  go_simp
                  refine hK _ _ ?_
                  clear hK K
                  try simp only [Act.put, List.setIfInBounds_toArray, List.set_cons_zero, List.set_cons_succ]
                  refine wpAny_done (by kernel_rfl) ?_ _
                  go_wp2_with fail
                  go_roundg (M - (j + 1))
                  case measure => exact rmeas HR3.out HLT.out
                  case rel => exact ⟨j + 1, _, HLT.out, rfl, by rw [HPREV.out], Lib.hid (NX.out.1.congr (fun t ht => rfl) (fun t ht => dThree_next HJR.out false 1 rfl hst.out HNMR.out t ht))⟩

                · skip
                  go_simp
                  refine hK _ _ ?_
                  clear hK K
                  try simp only [Act.put, List.setIfInBounds_toArray, List.set_cons_zero, List.set_cons_succ]
                  refine wpAny_ready (rs := [1, 6]) (by kernel_rfl) (by simp) (AllReady.cons rfl (fun K hK => ?_) (AllReady.cons rfl (fun K hK => ?_) AllReady.nil))
                  · skip
                    go_simp
                    refine hK _ _ ?_
                    clear hK K
                    try simp only [Act.put, List.setIfInBounds_toArray, List.set_cons_zero, List.set_cons_succ]
                    refine wpAny_ready (rs := [6]) (by kernel_rfl) (by simp) (AllReady.cons rfl (fun K hK => ?_) AllReady.nil)
                    go_simp
                    refine hK _ _ ?_
                    clear hK K
                    try simp only [Act.put, List.setIfInBounds_toArray, List.set_cons_zero, List.set_cons_succ]
                    refine wpAny_ready (rs := [7]) (by kernel_rfl) (by simp) (AllReady.cons rfl (fun K hK => ?_) AllReady.nil)
                    refine step_append_lies _ (by rfl) (.tmp 85) (.tmp 90) 37 (by rfl) N1 9 irs _ 1 16 Try.underlying37 his hs0 hs1 hs2 rfl (by omega) (vx) lk (sc (namesR false (R.take j))) (by kernel_rfl) (own_below OD.out BA.out) ⟨wd.heap.size, 0, none⟩ 1 1 [.string nmk] (by kernel_rfl) (by rfl) (World.news_of_block (cs := #[.string nmk]) (t := 9) (fr := (0, 0)) (heap_alloc_new wd _)) (by simp [Value.oneCell']) (by omega) (by have := hk4.out; unfold maxLen; omega) (by have := hk4.out; omega) (by have := HZ.out; simp; omega) (wd.heap.size + 1) (by simp) ?_
                    intro g2 cap2 w5 hown2 hgrow2 hat2 hlt2
                    have NX := Lib.hid (RD.out.next BA.out (st := 1) (x := nmk) (by omega) (n := lk) HLK.out hown2 (by rw [HVX.out]; exact hgrow2) (by rw [HVX.out]; exact hat2.imp id (fun e => by rw [e]; simp)))
                    have n3 := NX.out.2.1
                    have nf3 := NX.out.2.2
                    rw [HVX.out] at n3
                    simp only [Nat.reduceAdd] at n3 nf3
                    clear hown2 hgrow2 hat2 hlt2

                    refine hK _ _ ?_
                    clear hK K
                    try simp only [Act.put, List.setIfInBounds_toArray, List.set_cons_zero, List.set_cons_succ]
                    refine wpAny_take (i := 8) (v := ?_) rfl (by kernel_rfl) (by kernel_rfl) (by kernel_rfl) (fun _ _ _ h => h) (Or.inl ⟨by kernel_rfl, ?_⟩) ?_
                    rotate_left
                    · intro w
                      go_simp
                      try with_reducible rfl
                    simp only [Act.put, List.getElem_toArray, List.getElem_cons_zero, List.getElem_cons_succ, List.setIfInBounds_toArray, List.set_cons_zero, List.set_cons_succ]
                    refine wpAny_ready (rs := [9]) (by kernel_rfl) (by simp) (AllReady.cons rfl (fun K hK => ?_) AllReady.nil)
                    go_simp
                    refine hK _ _ ?_
                    clear hK K
                    try simp only [Act.put, List.setIfInBounds_toArray, List.set_cons_zero, List.set_cons_succ]
                    refine wpAny_done (by kernel_rfl) ?_ _
                    go_wp2_with fail
                    go_roundg (M - (j + 1))
                    case measure => exact rmeas HR3.out HLT.out
                    case rel => exact ⟨j + 1, _, HLT.out, rfl, by rw [HPREV.out], Lib.hid (NX.out.1.congr (fun t ht => rfl) (fun t ht => dThree_next HJR.out false 1 rfl hst.out HNMR.out t ht))⟩

                  · skip
                    go_simp
                    refine hK _ _ ?_
                    clear hK K
                    try simp only [Act.put, List.setIfInBounds_toArray, List.set_cons_zero, List.set_cons_succ]
                    refine wpAny_ready (rs := [1]) (by kernel_rfl) (by simp) (AllReady.cons rfl (fun K hK => ?_) AllReady.nil)
                    go_simp
                    refine hK _ _ ?_
                    clear hK K
                    try simp only [Act.put, List.setIfInBounds_toArray, List.set_cons_zero, List.set_cons_succ]
                    refine wpAny_ready (rs := [7]) (by kernel_rfl) (by simp) (AllReady.cons rfl (fun K hK => ?_) AllReady.nil)
                    refine step_append_lies _ (by rfl) (.tmp 85) (.tmp 90) 37 (by rfl) N1 9 irs _ 1 16 Try.underlying37 his hs0 hs1 hs2 rfl (by omega) (vx) lk (sc (namesR false (R.take j))) (by kernel_rfl) (own_below OD.out BA.out) ⟨wd.heap.size, 0, none⟩ 1 1 [.string nmk] (by kernel_rfl) (by rfl) (World.news_of_block (cs := #[.string nmk]) (t := 9) (fr := (0, 0)) (heap_alloc_new wd _)) (by simp [Value.oneCell']) (by omega) (by have := hk4.out; unfold maxLen; omega) (by have := hk4.out; omega) (by have := HZ.out; simp; omega) (wd.heap.size + 1) (by simp) ?_
                    intro g2 cap2 w5 hown2 hgrow2 hat2 hlt2
                    have NX := Lib.hid (RD.out.next BA.out (st := 1) (x := nmk) (by omega) (n := lk) HLK.out hown2 (by rw [HVX.out]; exact hgrow2) (by rw [HVX.out]; exact hat2.imp id (fun e => by rw [e]; simp)))
                    have n3 := NX.out.2.1
                    have nf3 := NX.out.2.2
                    rw [HVX.out] at n3
                    simp only [Nat.reduceAdd] at n3 nf3
                    clear hown2 hgrow2 hat2 hlt2

                    refine hK _ _ ?_
                    clear hK K
                    try simp only [Act.put, List.setIfInBounds_toArray, List.set_cons_zero, List.set_cons_succ]
                    refine wpAny_take (i := 8) (v := ?_) rfl (by kernel_rfl) (by kernel_rfl) (by kernel_rfl) (fun _ _ _ h => h) (Or.inl ⟨by kernel_rfl, ?_⟩) ?_
                    rotate_left
                    · intro w
                      go_simp
                      try with_reducible rfl
                    simp only [Act.put, List.getElem_toArray, List.getElem_cons_zero, List.getElem_cons_succ, List.setIfInBounds_toArray, List.set_cons_zero, List.set_cons_succ]
                    refine wpAny_ready (rs := [9]) (by kernel_rfl) (by simp) (AllReady.cons rfl (fun K hK => ?_) AllReady.nil)
                    go_simp
                    refine hK _ _ ?_
                    clear hK K
                    try simp only [Act.put, List.setIfInBounds_toArray, List.set_cons_zero, List.set_cons_succ]
                    refine wpAny_done (by kernel_rfl) ?_ _
                    go_wp2_with fail
                    go_roundg (M - (j + 1))
                    case measure => exact rmeas HR3.out HLT.out
                    case rel => exact ⟨j + 1, _, HLT.out, rfl, by rw [HPREV.out], Lib.hid (NX.out.1.congr (fun t ht => rfl) (fun t ht => dThree_next HJR.out false 1 rfl hst.out HNMR.out t ht))⟩

              · have hst : Hid (stuckR (R[j]'HJR.out) = true) := Lib.hid (by rw [HSTK.out]; exact decide_eq_true h0)
                go_upto_region 26 with fail
                clear h0
                refine wp_region_any (by kernel_rfl) ?_
                obtain ⟨wd, hwd⟩ : ∃ x, x = w4.drew := ⟨_, rfl⟩
                change wpAny _ _ _ _ _ _ _ w4.drew
                rw [← hwd]
                have bd : Below w4.heap.size w4 wd := by rw [hwd]; exact (Below.refl _ _).drew
                have RD := Lib.hid (RS4.out.below bd)
                clear hwd bd
                obtain ⟨gS, hgS, d5⟩ := sc_cell (by have h := RD.out.nam; rw [HNN.out] at h; exact h) HNN.out kn HKN.out
                subst hgS
                rw [HNMK.out] at d5
                obtain ⟨vx, hvx⟩ : ∃ x, v 2 = x := ⟨_, rfl⟩
                have d1 : wd.cell? ⟨p7, 5, none⟩ = some vx := (cell_of_row wd p7 5 _ _ _ RD.out.out).trans (by rw [← hvx]; rfl)
                have BA : Hid (Below wd.heap.size wd (wd.alloc (.cells #[.string nmk] 9))) := Lib.hid ((Below.refl _ wd).alloc (Nat.le_refl _) _)
                have e1 : (wd.alloc (.cells #[.string nmk] 9)).cell? ⟨p7, 5, none⟩ = some vx := (BA.out.cell (p := ⟨p7, 5, none⟩) (World.block_lt_of_cell? wd _ d1)).trans d1
                obtain ⟨lk, hlk⟩ : ∃ x, (namesR true (R.take j)).length = x := ⟨_, rfl⟩
                have hk4 : Hid (lk ≤ 4) := Lib.hid (by
                  rw [← hlk]
                  exact Nat.le_trans (namesR_le true _) (Nat.le_trans (List.length_take_le _ _) (Nat.le_trans (Nat.le_of_lt HLT.out) KEY.out.1)))
                have HLK := Lib.hid hlk
                have OD : Hid (wd.ownsRow N1 9 1 vx lk (sc (namesR true (R.take j)))) := Lib.hid (by
                  have h := RD.out.row 2 (by omega)
                  rw [hvx, show (dThree (names.take m) (namesR false (R.take j)) (namesR true (R.take j)) 2) = namesR true (R.take j) from rfl, hlk] at h
                  exact h)
                have HVX := Lib.hid hvx
                clear hlk hvx
                have HZ : Hid (N1 ≤ wd.heap.size) := Lib.hid RD.out.nn.2
                refine wpAny_take (i := 0) (v := ?_) rfl (by kernel_rfl) (by kernel_rfl) (by kernel_rfl) (fun _ _ _ h => h) (Or.inl ⟨by kernel_rfl, ?_⟩) ?_
                rotate_left
                · intro w
                  go_simp
                  try with_reducible rfl
                simp only [Act.put, List.getElem_toArray, List.getElem_cons_zero, List.getElem_cons_succ, List.setIfInBounds_toArray, List.set_cons_zero, List.set_cons_succ]
                refine wpAny_take (i := 2) (v := ?_) rfl (by kernel_rfl) (by kernel_rfl) (by kernel_rfl) (fun _ _ _ h => h) (Or.inl ⟨by kernel_rfl, ?_⟩) ?_
                rotate_left
                · intro w
                  go_simp
                  try with_reducible rfl
                simp only [Act.put, List.getElem_toArray, List.getElem_cons_zero, List.getElem_cons_succ, List.setIfInBounds_toArray, List.set_cons_zero, List.set_cons_succ]
                refine wpAny_take (i := 3) (v := ?_) rfl (by kernel_rfl) (by kernel_rfl) (by kernel_rfl) (fun _ _ _ h => h) (Or.inl ⟨by kernel_rfl, ?_⟩) ?_
                rotate_left
                · intro w
                  go_simp
                  try with_reducible rfl
                simp only [Act.put, List.getElem_toArray, List.getElem_cons_zero, List.getElem_cons_succ, List.setIfInBounds_toArray, List.set_cons_zero, List.set_cons_succ]
                refine wpAny_take (i := 4) (v := ?_) rfl (by kernel_rfl) (by kernel_rfl) (by kernel_rfl) (fun _ _ _ h => h) (Or.inl ⟨by kernel_rfl, ?_⟩) ?_
                rotate_left
                · intro w
                  go_simp
                  try with_reducible rfl
                simp only [Act.put, List.getElem_toArray, List.getElem_cons_zero, List.getElem_cons_succ, List.setIfInBounds_toArray, List.set_cons_zero, List.set_cons_succ]
                refine wpAny_ready (rs := [1, 5]) (by kernel_rfl) (by simp) (AllReady.cons rfl (fun K hK => ?_) (AllReady.cons rfl (fun K hK => ?_) AllReady.nil))
                · skip
                  go_simp
                  refine hK _ _ ?_
                  clear hK K
                  try simp only [Act.put, List.setIfInBounds_toArray, List.set_cons_zero, List.set_cons_succ]
                  refine wpAny_ready (rs := [5]) (by kernel_rfl) (by simp) (AllReady.cons rfl (fun K hK => ?_) AllReady.nil)
                  go_simp
                  refine hK _ _ ?_
                  clear hK K
                  try simp only [Act.put, List.setIfInBounds_toArray, List.set_cons_zero, List.set_cons_succ]
                  refine wpAny_ready (rs := [6]) (by kernel_rfl) (by simp) (AllReady.cons rfl (fun K hK => ?_) AllReady.nil)
                  go_simp
                  refine hK _ _ ?_
                  clear hK K
                  try simp only [Act.put, List.setIfInBounds_toArray, List.set_cons_zero, List.set_cons_succ]
                  refine wpAny_ready (rs := [7]) (by kernel_rfl) (by simp) (AllReady.cons rfl (fun K hK => ?_) AllReady.nil)
                  refine step_append_lies _ (by rfl) (.tmp 94) (.tmp 99) 37 (by rfl) N1 9 irs _ 1 16 Try.underlying37 his hs0 hs1 hs2 rfl (by omega) (vx) lk (sc (namesR true (R.take j))) (by kernel_rfl) (own_below OD.out BA.out) ⟨wd.heap.size, 0, none⟩ 1 1 [.string nmk] (by kernel_rfl) (by rfl) (World.news_of_block (cs := #[.string nmk]) (t := 9) (fr := (0, 0)) (heap_alloc_new wd _)) (by simp [Value.oneCell']) (by omega) (by have := hk4.out; unfold maxLen; omega) (by have := hk4.out; omega) (by have := HZ.out; simp; omega) (wd.heap.size + 1) (by simp) ?_
                  intro g2 cap2 w5 hown2 hgrow2 hat2 hlt2
                  have NX := Lib.hid (RD.out.next BA.out (st := 2) (x := nmk) (by omega) (n := lk) HLK.out hown2 (by rw [HVX.out]; exact hgrow2) (by rw [HVX.out]; exact hat2.imp id (fun e => by rw [e]; simp)))
                  have n3 := NX.out.2.1
                  have nf3 := NX.out.2.2
                  rw [HVX.out] at n3
                  simp only [Nat.reduceAdd] at n3 nf3
                  clear hown2 hgrow2 hat2 hlt2

                  refine hK _ _ ?_
                  clear hK K
                  try simp only [Act.put, List.setIfInBounds_toArray, List.set_cons_zero, List.set_cons_succ]
                  refine wpAny_take (i := 8) (v := ?_) rfl (by kernel_rfl) (by kernel_rfl) (by kernel_rfl) (fun _ _ _ h => h) (Or.inl ⟨by kernel_rfl, ?_⟩) ?_
                  rotate_left
                  · intro w
                    go_simp
                    try with_reducible rfl
                  simp only [Act.put, List.getElem_toArray, List.getElem_cons_zero, List.getElem_cons_succ, List.setIfInBounds_toArray, List.set_cons_zero, List.set_cons_succ]
                  refine wpAny_ready (rs := [9]) (by kernel_rfl) (by simp) (AllReady.cons rfl (fun K hK => ?_) AllReady.nil)
                  go_simp
                  refine hK _ _ ?_
                  clear hK K
                  try simp only [Act.put, List.setIfInBounds_toArray, List.set_cons_zero, List.set_cons_succ]
                  refine wpAny_done (by kernel_rfl) ?_ _
                  go_wp2_with fail
                  go_roundg (M - (j + 1))
                  case measure => exact rmeas HR3.out HLT.out
                  case rel => exact ⟨j + 1, _, HLT.out, rfl, by rw [HPREV.out], Lib.hid (NX.out.1.congr (fun t ht => rfl) (fun t ht => dThree_next HJR.out true 2 rfl hst.out HNMR.out t ht))⟩

                · skip
                  go_simp
                  refine hK _ _ ?_
                  clear hK K
                  try simp only [Act.put, List.setIfInBounds_toArray, List.set_cons_zero, List.set_cons_succ]
                  refine wpAny_ready (rs := [1, 6]) (by kernel_rfl) (by simp) (AllReady.cons rfl (fun K hK => ?_) (AllReady.cons rfl (fun K hK => ?_) AllReady.nil))
                  · skip
                    go_simp
                    refine hK _ _ ?_
                    clear hK K
                    try simp only [Act.put, List.setIfInBounds_toArray, List.set_cons_zero, List.set_cons_succ]
                    refine wpAny_ready (rs := [6]) (by kernel_rfl) (by simp) (AllReady.cons rfl (fun K hK => ?_) AllReady.nil)
                    go_simp
                    refine hK _ _ ?_
                    clear hK K
                    try simp only [Act.put, List.setIfInBounds_toArray, List.set_cons_zero, List.set_cons_succ]
                    refine wpAny_ready (rs := [7]) (by kernel_rfl) (by simp) (AllReady.cons rfl (fun K hK => ?_) AllReady.nil)
                    refine step_append_lies _ (by rfl) (.tmp 94) (.tmp 99) 37 (by rfl) N1 9 irs _ 1 16 Try.underlying37 his hs0 hs1 hs2 rfl (by omega) (vx) lk (sc (namesR true (R.take j))) (by kernel_rfl) (own_below OD.out BA.out) ⟨wd.heap.size, 0, none⟩ 1 1 [.string nmk] (by kernel_rfl) (by rfl) (World.news_of_block (cs := #[.string nmk]) (t := 9) (fr := (0, 0)) (heap_alloc_new wd _)) (by simp [Value.oneCell']) (by omega) (by have := hk4.out; unfold maxLen; omega) (by have := hk4.out; omega) (by have := HZ.out; simp; omega) (wd.heap.size + 1) (by simp) ?_
                    intro g2 cap2 w5 hown2 hgrow2 hat2 hlt2
                    have NX := Lib.hid (RD.out.next BA.out (st := 2) (x := nmk) (by omega) (n := lk) HLK.out hown2 (by rw [HVX.out]; exact hgrow2) (by rw [HVX.out]; exact hat2.imp id (fun e => by rw [e]; simp)))
                    have n3 := NX.out.2.1
                    have nf3 := NX.out.2.2
                    rw [HVX.out] at n3
                    simp only [Nat.reduceAdd] at n3 nf3
                    clear hown2 hgrow2 hat2 hlt2

                    refine hK _ _ ?_
                    clear hK K
                    try simp only [Act.put, List.setIfInBounds_toArray, List.set_cons_zero, List.set_cons_succ]
                    refine wpAny_take (i := 8) (v := ?_) rfl (by kernel_rfl) (by kernel_rfl) (by kernel_rfl) (fun _ _ _ h => h) (Or.inl ⟨by kernel_rfl, ?_⟩) ?_
                    rotate_left
                    · intro w
                      go_simp
                      try with_reducible rfl
                    simp only [Act.put, List.getElem_toArray, List.getElem_cons_zero, List.getElem_cons_succ, List.setIfInBounds_toArray, List.set_cons_zero, List.set_cons_succ]
                    refine wpAny_ready (rs := [9]) (by kernel_rfl) (by simp) (AllReady.cons rfl (fun K hK => ?_) AllReady.nil)
                    go_simp
                    refine hK _ _ ?_
                    clear hK K
                    try simp only [Act.put, List.setIfInBounds_toArray, List.set_cons_zero, List.set_cons_succ]
                    refine wpAny_done (by kernel_rfl) ?_ _
                    go_wp2_with fail
                    go_roundg (M - (j + 1))
                    case measure => exact rmeas HR3.out HLT.out
                    case rel => exact ⟨j + 1, _, HLT.out, rfl, by rw [HPREV.out], Lib.hid (NX.out.1.congr (fun t ht => rfl) (fun t ht => dThree_next HJR.out true 2 rfl hst.out HNMR.out t ht))⟩

                  · skip
                    go_simp
                    refine hK _ _ ?_
                    clear hK K
                    try simp only [Act.put, List.setIfInBounds_toArray, List.set_cons_zero, List.set_cons_succ]
                    refine wpAny_ready (rs := [1]) (by kernel_rfl) (by simp) (AllReady.cons rfl (fun K hK => ?_) AllReady.nil)
                    go_simp
                    refine hK _ _ ?_
                    clear hK K
                    try simp only [Act.put, List.setIfInBounds_toArray, List.set_cons_zero, List.set_cons_succ]
                    refine wpAny_ready (rs := [7]) (by kernel_rfl) (by simp) (AllReady.cons rfl (fun K hK => ?_) AllReady.nil)
                    refine step_append_lies _ (by rfl) (.tmp 94) (.tmp 99) 37 (by rfl) N1 9 irs _ 1 16 Try.underlying37 his hs0 hs1 hs2 rfl (by omega) (vx) lk (sc (namesR true (R.take j))) (by kernel_rfl) (own_below OD.out BA.out) ⟨wd.heap.size, 0, none⟩ 1 1 [.string nmk] (by kernel_rfl) (by rfl) (World.news_of_block (cs := #[.string nmk]) (t := 9) (fr := (0, 0)) (heap_alloc_new wd _)) (by simp [Value.oneCell']) (by omega) (by have := hk4.out; unfold maxLen; omega) (by have := hk4.out; omega) (by have := HZ.out; simp; omega) (wd.heap.size + 1) (by simp) ?_
                    intro g2 cap2 w5 hown2 hgrow2 hat2 hlt2
                    have NX := Lib.hid (RD.out.next BA.out (st := 2) (x := nmk) (by omega) (n := lk) HLK.out hown2 (by rw [HVX.out]; exact hgrow2) (by rw [HVX.out]; exact hat2.imp id (fun e => by rw [e]; simp)))
                    have n3 := NX.out.2.1
                    have nf3 := NX.out.2.2
                    rw [HVX.out] at n3
                    simp only [Nat.reduceAdd] at n3 nf3
                    clear hown2 hgrow2 hat2 hlt2

                    refine hK _ _ ?_
                    clear hK K
                    try simp only [Act.put, List.setIfInBounds_toArray, List.set_cons_zero, List.set_cons_succ]
                    refine wpAny_take (i := 8) (v := ?_) rfl (by kernel_rfl) (by kernel_rfl) (by kernel_rfl) (fun _ _ _ h => h) (Or.inl ⟨by kernel_rfl, ?_⟩) ?_
                    rotate_left
                    · intro w
                      go_simp
                      try with_reducible rfl
                    simp only [Act.put, List.getElem_toArray, List.getElem_cons_zero, List.getElem_cons_succ, List.setIfInBounds_toArray, List.set_cons_zero, List.set_cons_succ]
                    refine wpAny_ready (rs := [9]) (by kernel_rfl) (by simp) (AllReady.cons rfl (fun K hK => ?_) AllReady.nil)
                    go_simp
                    refine hK _ _ ?_
                    clear hK K
                    try simp only [Act.put, List.setIfInBounds_toArray, List.set_cons_zero, List.set_cons_succ]
                    refine wpAny_done (by kernel_rfl) ?_ _
                    go_wp2_with fail
                    go_roundg (M - (j + 1))
                    case measure => exact rmeas HR3.out HLT.out
                    case rel => exact ⟨j + 1, _, HLT.out, rfl, by rw [HPREV.out], Lib.hid (NX.out.1.congr (fun t ht => rfl) (fun t ht => dThree_next HJR.out true 2 rfl hst.out HNMR.out t ht))⟩

            · have hjm : M = j := by omega
              subst hjm
              have hx : ¬ (at_ - 1 - (M : Int) ≥ 0) := by have := KEY.out.2.2; omega
              obtain ⟨a0, c0, h0⟩ := own_slice (RSj.out.row 0 (by omega))
              obtain ⟨a1, c1, h1⟩ := own_slice (RSj.out.row 1 (by omega))
              obtain ⟨a2, c2, h2⟩ := own_slice (RSj.out.row 2 (by omega))
              obtain ⟨n0, hn0⟩ : ∃ x, (dThree (names.take m) (namesR false (R.take M)) (namesR true (R.take M)) 0).length = x := ⟨_, rfl⟩
              obtain ⟨n1, hn1⟩ : ∃ x, (dThree (names.take m) (namesR false (R.take M)) (namesR true (R.take M)) 1).length = x := ⟨_, rfl⟩
              obtain ⟨n2, hn2⟩ : ∃ x, (dThree (names.take m) (namesR false (R.take M)) (namesR true (R.take M)) 2).length = x := ⟨_, rfl⟩
              rw [hn0] at h0
              rw [hn1] at h1
              rw [hn2] at h2
              have ho := RSj.out.out
              rw [h0, h1, h2] at ho
              have r0 := RSj.out.row 0 (by omega)
              have r1 := RSj.out.row 1 (by omega)
              have r2 := RSj.out.row 2 (by omega)
              rw [h0] at r0
              rw [h1] at r1
              rw [h2] at r2
              have hRM : R.take M = R := List.take_of_length_le (by rw [HMM.out]; exact Nat.le_refl _)
              rw [show dThree (names.take m) (namesR false (R.take M)) (namesR true (R.take M)) 0 = names.take m from rfl] at r0
              rw [show dThree (names.take m) (namesR false (R.take M)) (namesR true (R.take M)) 1 = namesR false (R.take M) from rfl, hRM] at r1
              rw [show dThree (names.take m) (namesR false (R.take M)) (namesR true (R.take M)) 2 = namesR true (R.take M) from rfl, hRM] at r2
              have R0 := Lib.hid r0
              have R1 := Lib.hid r1
              have R2 := Lib.hid r2
              have ZR := Lib.hid RSj.out.zer
              have BL := Lib.hid RSj.out.bel
              have NNN := Lib.hid RSj.out.nn
              have o0 := (cell_of_row wr p7 0 _ _ _ ho).trans (show (#[Value.bool g, .int .i64 at_, .int .u8 how, .slice a0 n0 c0, .slice a1 n1 c1, .slice a2 n2 c2] : Array Value)[0]? = some (.bool g) from rfl)
              have o1 := (cell_of_row wr p7 1 _ _ _ ho).trans (show (#[Value.bool g, .int .i64 at_, .int .u8 how, .slice a0 n0 c0, .slice a1 n1 c1, .slice a2 n2 c2] : Array Value)[1]? = some (.int .i64 at_) from rfl)
              have o2 := (cell_of_row wr p7 2 _ _ _ ho).trans (show (#[Value.bool g, .int .i64 at_, .int .u8 how, .slice a0 n0 c0, .slice a1 n1 c1, .slice a2 n2 c2] : Array Value)[2]? = some (.int .u8 how) from rfl)
              have o3 := (cell_of_row wr p7 3 _ _ _ ho).trans (show (#[Value.bool g, .int .i64 at_, .int .u8 how, .slice a0 n0 c0, .slice a1 n1 c1, .slice a2 n2 c2] : Array Value)[3]? = some (.slice a0 n0 c0) from rfl)
              have o4 := (cell_of_row wr p7 4 _ _ _ ho).trans (show (#[Value.bool g, .int .i64 at_, .int .u8 how, .slice a0 n0 c0, .slice a1 n1 c1, .slice a2 n2 c2] : Array Value)[4]? = some (.slice a1 n1 c1) from rfl)
              have o5 := (cell_of_row wr p7 5 _ _ _ ho).trans (show (#[Value.bool g, .int .i64 at_, .int .u8 how, .slice a0 n0 c0, .slice a1 n1 c1, .slice a2 n2 c2] : Array Value)[5]? = some (.slice a2 n2 c2) from rfl)
              have TH : Hid (wr.there p4 0 6) := Lib.hid (fun j hj => ⟨by
                rw [cell_of_row _ _ _ _ _ _ ZR.out]
                exact Option.isSome_iff_exists.2 ⟨_, Array.getElem?_eq_getElem (by simp [zo6]; omega)⟩, frozen_of_row _ _ _ _ _ ZR.out⟩)
              clear h0 h1 h2 hn0 hn1 hn2 ho r0 r1 r2 hRM hlt hj RSj
              go_wp2_with (refine wpList_store_all (by rfl) 59 (.tmp 4) (.tmp 102) (by rfl) p4 0 [.bool g, .int .i64 at_, .int .u8 how, .slice a0 n0 c0, .slice a1 n1 c1, .slice a2 n2 c2] (by kernel_rfl) (by kernel_rfl) TH.out (by kernel_rfl) (by simp [Value.oneCell']) ?_)
              intro W9 HW9
              have hh9 : W9.heap[p4]? = some (.cells #[Value.bool g, .int .i64 at_, .int .u8 how, .slice a0 n0 c0, .slice a1 n1 c1, .slice a2 n2 c2] 59 (0, 0)) := by
                rw [HW9.out]
                exact heap_setCells_same [.bool g, .int .i64 at_, .int .u8 how, .slice a0 n0 c0, .slice a1 n1 c1, .slice a2 n2 c2] wr 0 _ ZR.out
              have rr : Rel w.heap.size (fun j o => ∃ C z, o = .cells C 59 z) wr W9 := by
                rw [HW9.out]
                exact rel_lay PB.out.1 (fun C => ⟨C, _, rfl⟩) _ _ _ _ ZR.out
              have nos : ∀ (k : Nat) (C : Array Value), ¬ ∃ C' z, Obj.cells C 9 (0, 0) = .cells C' 59 z := fun k C ⟨C', z', h⟩ => by cases h
              have OA : Hid (OutAt W9 w.heap.size (.agg #[Value.bool g, .int .i64 at_, .int .u8 how, .slice a0 n0 c0, .slice a1 n1 c1, .slice a2 n2 c2]) ⟨g, at_, how, names.take m, namesR false R, namesR true R⟩ ∧ Below w.heap.size w W9) := Lib.hid ⟨⟨_, _, _, rfl, own_base (own_rel R0.out rr (fun k C _ _ => nos k C)) NNN.out.1, own_base (own_rel R1.out rr (fun k C _ _ => nos k C)) NNN.out.1, own_base (own_rel R2.out rr (fun k C _ _ => nos k C)) NNN.out.1⟩, rr.out BL.out BL.out.size⟩
              have v0 := (cell_of_row W9 p4 0 _ _ _ hh9).trans (show (#[Value.bool g, .int .i64 at_, .int .u8 how, .slice a0 n0 c0, .slice a1 n1 c1, .slice a2 n2 c2] : Array Value)[0]? = some (.bool g) from rfl)
              have v1 := (cell_of_row W9 p4 1 _ _ _ hh9).trans (show (#[Value.bool g, .int .i64 at_, .int .u8 how, .slice a0 n0 c0, .slice a1 n1 c1, .slice a2 n2 c2] : Array Value)[1]? = some (.int .i64 at_) from rfl)
              have v2 := (cell_of_row W9 p4 2 _ _ _ hh9).trans (show (#[Value.bool g, .int .i64 at_, .int .u8 how, .slice a0 n0 c0, .slice a1 n1 c1, .slice a2 n2 c2] : Array Value)[2]? = some (.int .u8 how) from rfl)
              have v3 := (cell_of_row W9 p4 3 _ _ _ hh9).trans (show (#[Value.bool g, .int .i64 at_, .int .u8 how, .slice a0 n0 c0, .slice a1 n1 c1, .slice a2 n2 c2] : Array Value)[3]? = some (.slice a0 n0 c0) from rfl)
              have v4 := (cell_of_row W9 p4 4 _ _ _ hh9).trans (show (#[Value.bool g, .int .i64 at_, .int .u8 how, .slice a0 n0 c0, .slice a1 n1 c1, .slice a2 n2 c2] : Array Value)[4]? = some (.slice a1 n1 c1) from rfl)
              have v5 := (cell_of_row W9 p4 5 _ _ _ hh9).trans (show (#[Value.bool g, .int .i64 at_, .int .u8 how, .slice a0 n0 c0, .slice a1 n1 c1, .slice a2 n2 c2] : Array Value)[5]? = some (.slice a2 n2 c2) from rfl)
              clear HW9 hh9 rr o0 o1 o2 o3 o4 o5 nos
              go_wp2_with fail
              refine bodyPost_ret (v := .tuple #[.agg #[Value.bool g, .int .i64 at_, .int .u8 how, .slice a0 n0 c0, .slice a1 n1 c1, .slice a2 n2 c2], .int .i64 0]) (by simp [results, Try.results20, go_sem, v0, v1, v2, v3, v4, v5]) rfl ?_
              have hno : ¬ (64 < fs.length ∨ fs.any badT = true) := fun h => by
                rcases h with h | h
                · exact H64.out (by rw [HNF.out] at h; exact h)
                · rw [HBAD.out] at h
                  cases h
              refine ⟨.agg #[Value.bool g, .int .i64 at_, .int .u8 how, .slice a0 n0 c0, .slice a1 n1 c1, .slice a2 n2 c2], ?_, ?_, OA.out.2⟩
              · rw [probeE, if_pos HM.out, if_neg hno]
              · rw [probeO, if_pos ⟨HM.out, hno⟩]
                simp only [HNM.out]
                rw [far_out (by rw [HNN.out]; exact FAR.out), HRR.out]
                exact OA.out.1
end Go.Proofs.Ytnkababhgloclaa
