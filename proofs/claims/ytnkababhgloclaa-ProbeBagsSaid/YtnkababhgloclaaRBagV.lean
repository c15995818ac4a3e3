/- The document's bag walked: Undo of something that is there. (Printed by tools/genrundo.py.) -/
import Derived.Test.YtnkababhgloclaaRBagU
namespace Go.Proofs.Ytnkababhgloclaa
open Go.RowKit Go.ChangeShapes
theorem step_append_ownD {P : Program} {w : World} {ops : Array Oper} {o : Oper} {a : Act} {K : Act → World → Prop} {Q : Exit → Act → World → Prop} {E : Prop} (hgd : o.guard = none) (s x : Operand) (t : TypeId)
    (ho : o.op = .call { callee := .builtin .append, args := #[s, x], argTypes := #[t, t] })
    (base : Nat) (e : TypeId) (i : TypeInfo) (z : Value) (size bytes : Nat) (ht : P.underlying t = some (.slice e)) (hi : P.info? e = some i) (hz : i.zero = some z)
    (hsize : i.size = size) (hby : i.bytes = bytes) (hzs : z.cells.size = size) (hsz : 0 < size)
    (v : Value) (n : Nat) (xs : List Value) (hs : a.eval s = v) (hown : w.ownsRow base e size v n xs)
    (ad : Addr) (m c : Nat) (news : List Value) (hx : a.eval x = .slice (some ad) m c) (hl : news.length = m * size) (hnews : ∀ j u, news[j]? = some u → w.cell? (ad.add j) = some u) (h1 : ∀ u ∈ news, u.oneCell' = true)
    (h63 : n + m ≤ maxLen) (hbytes : (n + m) * bytes ≤ 140737488355328) (hbase : base ≤ w.heap.size)
    (h : ∀ v' w', w'.ownsRow base e size v' (n + m) (xs ++ news) → w.grownBy w' v.ownBlock → (v' = .slice none 0 0 ↔ v = .slice none 0 0 ∧ m = 0) → K (a.put o.dst v') w') :
    if Region.wanted o (yielded ops a.tmps) = true then Oper.wp P o a w K Q else E := by
  have hw : Region.wanted o (yielded ops a.tmps) = true := by simp [Region.wanted, hgd]
  rw [if_pos hw]
  exact wp_append_own w s x t ho base e i z size bytes ht hi hz hsize hby hzs hsz v n xs hs hown ad m c news hx hl hnews h1 h63 hbytes hbase h
theorem roomU {i n : Nat} (h : i < n) (hn : n ≤ 256) : 0 + i ≤ maxLen ∧ (0 + i) * 64 ≤ 140737488355328 ∧ i + (n - (i + 1)) ≤ maxLen ∧ (i + (n - (i + 1))) * 64 ≤ 140737488355328 := by unfold maxLen; omega
theorem idxU {i n : Nat} (h : i < n) (hn : n ≤ 256) : (0 : Int) ≤ (i : Int) + 1 ∧ (i : Int) + 1 ≤ (n : Int) ∧ wrap64 ((i : Int) + 1) = (i : Int) + 1 ∧ ((i : Int) + 1).toNat = i + 1 ∧ i + 1 ≤ n ∧ IntKind.i64.wrap ((i : Int) + 1) = (i : Int) + 1 := ⟨by omega, by omega, IntWalk.wrap64_in _ (by omega), by omega, by omega, by rw [IntKind.wrap_i64]; omega⟩
theorem news_none {w : World} {ad : Addr} {L : List RT} {k : Nat} (h : k = 0) : ∀ j u, (rc6 (L.take k))[j]? = some u → w.cell? (ad.add j) = some u := fun j u hu => by
  subst h
  simp [rc6] at hu
/-- Of what stood there the bag's block alone. -/
def SM (m : Nat) (k : Nat) (o : Obj) : Prop := k = m ∧ ∃ C z, o = .cells C 29 z
theorem SM_SD {m k : Nat} {o : Obj} (h : SM m k o) : SD m k o := .inl h
/-- The bag's row is new. -/
def RNew (w : World) (m : Nat) (w' : World) : Prop := ∀ v l c, w'.heap[m]? = some (.cells #[v, l, c] 29 (0, 0)) → ∀ g, v.ownBlock = some g → w.heap.size ≤ g
theorem rel_SM {w W9 wx : World} {B m : Nat} {C : Array Value} {z : Nat × Nat} (hB : B ≤ m) (hm : wx.heap[m]? = some (.cells C 29 z)) (hr : Rel B (SD m) w W9) (hk : ∀ k, k < w.heap.size → k ≠ m → W9.heap[k]? = w.heap[k]?) (hmw : ∃ C z, w.heap[m]? = some (.cells C 29 z)) : Rel B (SM m) w W9 :=
  ⟨Kept.os hr, Kept.tape hr, Kept.output hr, hr.size, fun k hk1 hx => hk k hk1 (fun e => hx (by
    obtain ⟨C', z', h'⟩ := hmw
    subst e
    exact ⟨hB, _, h', rfl, C', z', rfl⟩))⟩
theorem undo_mid {wd w5 : World} {B m g c i n : Nat} {L : List RT} {last : Int} {v5 : Value} (AB : Below wd.heap.size wd (wd.alloc (.cells #[] 92 (0, 0)))) (hrow : w5.ownsRow wd.heap.size 92 6 v5 (0 + i) ([] ++ rc6 (L.take i))) (hg : (wd.alloc (.cells #[] 92 (0, 0))).grownBy w5 (Value.ownBlock (.slice (some ⟨wd.heap.size, 0, none⟩) 0 0))) (LD : RBagAt wd B m L last false) (D0 : wd.cell? ⟨m, 0, none⟩ = some (.slice (some ⟨g, 0, none⟩) n c)) :
    ∃ a5 c5, Hid (w5.ownsRow wd.heap.size 92 6 (.slice a5 i c5) i (rc6 (L.take i))) ∧ Hid (Below wd.heap.size wd w5) ∧ w5.cell? ⟨m, 0, none⟩ = some (.slice (some ⟨g, 0, none⟩) n c) ∧ v5 = .slice a5 i c5 := by
  rw [Nat.zero_add, List.nil_append] at hrow
  obtain ⟨a5, c5, rfl⟩ := own_slice hrow
  have b5 : Below wd.heap.size wd w5 := AB.grown hg (by simp) (fun j hj => by
    simp only [Value.ownBlock, Option.some.injEq] at hj
    omega)
  exact ⟨a5, c5, Lib.hid hrow, Lib.hid b5, (b5.cell (p := ⟨m, 0, none⟩) LD.lt).trans D0, rfl⟩
theorem undo_end {wd w5 w6 : World} {B m g c i n c5 : Nat} {a5 : Option Addr} {L : List RT} {last : Int} {v6 : Value} (b5 : Below wd.heap.size wd w5) (r5 : w5.ownsRow wd.heap.size 92 6 (.slice a5 i c5) i (rc6 (L.take i))) (hrow : w6.ownsRow wd.heap.size 92 6 v6 (i + (n - (i + 1))) (rc6 (L.take i) ++ rc6 ((L.drop (i + 1)).take (n - (i + 1))))) (hg : w5.grownBy w6 (Value.ownBlock (.slice a5 i c5))) (LD : RBagAt wd B m L last false) (hB : B ≤ wd.heap.size) (hn : L.length = n) (hi : i < n) (D0 : wd.cell? ⟨m, 0, none⟩ = some (.slice (some ⟨g, 0, none⟩) n c)) :
    ∃ a6 c6, Hid ((B ≤ m ∧ (w6.setCell ⟨m, 0, none⟩ (.slice a6 (i + (n - (i + 1))) c6)).heap[m]? = some (.cells #[.slice a6 (i + (n - (i + 1))) c6, .int .i64 last, .bool false] 29 (0, 0)) ∧ (w6.setCell ⟨m, 0, none⟩ (.slice a6 (i + (n - (i + 1))) c6)).ownsRow wd.heap.size 92 6 (.slice a6 (i + (n - (i + 1))) c6) (L.eraseIdx i).length (rc6 (L.eraseIdx i))) ∧ Rel B (SD m) wd (w6.setCell ⟨m, 0, none⟩ (.slice a6 (i + (n - (i + 1))) c6)) ∧ ∀ p o, wd.heap[p]? = some o → p ≠ m → (w6.setCell ⟨m, 0, none⟩ (.slice a6 (i + (n - (i + 1))) c6)).heap[p]? = some o) ∧ w6.cell? ⟨m, 0, none⟩ = some (.slice (some ⟨g, 0, none⟩) n c) ∧ w6.frozen? ⟨m, 0, none⟩ = false ∧ v6 = .slice a6 (i + (n - (i + 1))) c6 := by
  obtain ⟨a6, c6, rfl⟩ := own_slice hrow
  have b6 : Below wd.heap.size wd w6 := b5.grown hg b5.size (fun j hj => (r5.lt j hj).1)
  have h6 := LD.below b6
  have e : rc6 (L.take i) ++ rc6 ((L.drop (i + 1)).take (n - (i + 1))) = rc6 (L.eraseIdx i) := by
    rw [List.take_of_length_le (l := L.drop (i + 1)) (by rw [List.length_drop]; omega), ← rc6_append, List.eraseIdx_eq_take_drop_succ]
  have el : i + (n - (i + 1)) = (L.eraseIdx i).length := by
    rw [List.length_eraseIdx, if_pos (by omega)]
    omega
  obtain ⟨q1, q2⟩ := h6.row (L' := L.eraseIdx i) (v := .slice a6 (i + (n - (i + 1))) c6) (by rw [← e, ← el]; exact own_base hrow hB)
  obtain ⟨hBm, v0, hm6, _⟩ := h6
  have hset := heap_setCell_same w6 m 0 _ _ (.slice a6 (i + (n - (i + 1))) c6) hm6
  have hrow2 : w6.ownsRow wd.heap.size 92 6 (.slice a6 (i + (n - (i + 1))) c6) (L.eraseIdx i).length (rc6 (L.eraseIdx i)) := by rw [← e, ← el]; exact hrow
  exact ⟨a6, c6, Lib.hid ⟨⟨hBm, hset, own_setD hrow2 (by decide) hm6 _⟩, (Rel.below b6).trans q2, fun p o hp hne => (Below.heap_setCell w6 ⟨m, 0, none⟩ _ p (by simpa using hne)).trans ((b6.block p (Array.getElem?_eq_some_iff.1 hp).1).trans hp)⟩, (b6.cell (p := ⟨m, 0, none⟩) LD.lt).trans D0, frozen_of_row w6 m 0 _ _ hm6, rfl⟩
set_option maxHeartbeats 16000000 in
set_option maxRecDepth 100000 in
theorem rundo_some1 {w : World} {B m : Nat} {L : List RT} {last : Int} (h : RBagAt w B m L last false) (hl : L.length ≤ 256) (hB : B ≤ w.heap.size) (id : Int) (i : Nat) (hp : posR L id false = some i) {g n c : Nat} (hg0 : w.cell? ⟨m, 0, none⟩ = some (.slice (some ⟨g, 0, none⟩) n c)) (hn : L.length = n) (tid : Int) (tm : Bool) (tn : ByteArray) (tc : Int) (tp : Bool) (tw : ByteArray) (ht : L[i]? = some ⟨tid, tm, tn, tc, tp, tw⟩) (hcc : ¬ c = i + 1) :
    Calls Try.prog 38 #[.pointer (some ⟨m, 0, none⟩), .int .i64 id] w fun e w' => e = .returned (.tuple #[.agg #[.int .i64 tid, .bool tm, .string tn, .int .i64 tc, .bool tp, .string tw], .int .i64 0]) ∧ RBagAt w' B m (L.eraseIdx i) last false ∧ Rel B (SM m) w w' ∧ RNew w m w' := by
  obtain ⟨ir, hi', hz0, hz1, hz2⟩ := info_parts infoRT
  obtain ⟨hi, hmt⟩ := posR_lt hp
  clear hmt
  have HMW : Hid (∃ C z, w.heap[m]? = some (.cells C 29 z)) := Lib.hid (by
    obtain ⟨_, v, hb, _⟩ := h
    exact ⟨_, _, hb⟩)
  obtain ⟨wa, hwa⟩ : ∃ x, x = w.alloc (.cells #[.int .i64 0, .bool false, .string ⟨#[]⟩, .int .i64 0, .bool false, .string ⟨#[]⟩] 92) := ⟨_, rfl⟩
  have ba := (Below.refl w.heap.size w).alloc (Nat.le_refl _) (.cells #[.int .i64 0, .bool false, .string ⟨#[]⟩, .int .i64 0, .bool false, .string ⟨#[]⟩] 92)
  have z4 := heap_alloc_new w (.cells #[.int .i64 0, .bool false, .string ⟨#[]⟩, .int .i64 0, .bool false, .string ⟨#[]⟩] 92)
  obtain ⟨p4, hp4⟩ : ∃ p, p = w.heap.size := ⟨_, rfl⟩
  rw [← hwa] at ba z4
  rw [← hp4] at z4
  have ha := h.below ba
  have CF0 := rfind_any ha hl id false
  rw [hp, show placeR (some i) = (i : Int) from rfl] at CF0
  have CF := Lib.hid CF0
  obtain ⟨a, c', c0, c1, c2, ho⟩ := ha.cells
  have hgc : some (Value.slice a L.length c') = some (.slice (some ⟨g, 0, none⟩) n c) := by
    rw [← c0, ba.cell (p := ⟨m, 0, none⟩) h.lt, hg0]
  simp only [Option.some.injEq, Value.slice.injEq] at hgc
  obtain ⟨ea, en, ec⟩ := hgc
  subst ea
  have ec := ec.symm
  subst ec
  have hcap0 := own_cap ho
  obtain ⟨g', eg, gx⟩ := rt_at ho i hi
  cases eg
  rw [List.getElem?_eq_getElem hi] at ht
  have ht2 : L[i] = ⟨tid, tm, tn, tc, tp, tw⟩ := by simpa using ht
  rw [ht2] at gx
  have d0 : wa.cell? ⟨g, i * 6, none⟩ = some (.int .i64 tid) := gx 0 _ rfl
  have d1 : wa.cell? ⟨g, i * 6 + 1, none⟩ = some (.bool tm) := gx 1 _ rfl
  have d2 : wa.cell? ⟨g, i * 6 + 2, none⟩ = some (.string tn) := gx 2 _ rfl
  have d3 : wa.cell? ⟨g, i * 6 + 3, none⟩ = some (.int .i64 tc) := gx 3 _ rfl
  have d4 : wa.cell? ⟨g, i * 6 + 4, none⟩ = some (.bool tp) := gx 4 _ rfl
  have d5 : wa.cell? ⟨g, i * 6 + 5, none⟩ = some (.string tw) := gx 5 _ rfl
  have HA := Lib.hid ha
  have BA := Lib.hid ba
  have Z4 := Lib.hid z4
  have HWA := Lib.hid hwa
  have HP4 := Lib.hid hp4
  have HN := Lib.hid hn
  have HB := Lib.hid (Nat.le_trans hB ba.size)
  have HB4 : Hid (B ≤ p4) := Lib.hid (by rw [hp4]; exact hB)
  have HM := Lib.hid h.lt
  rw [hn] at c0 hi hcap0
  have HI := Lib.hid hi
  have HL : Hid (n ≤ 256) := Lib.hid (by rw [← hn]; exact hl)
  have hin : i ≤ n := Nat.le_of_lt hi
  have hi0 : (0 : Int) ≤ (i : Int) := Int.natCast_nonneg i
  have hi1 : (i : Int) < (n : Int) := Int.ofNat_lt.2 hi
  have hd : decide ((i : Int) < 0) = false := decide_eq_false (by omega)
  have hi2 : ¬ (i : Int) < 0 := by omega
  have TH := Lib.hid (zt6_there wa)
  clear h hl hB hp hg0 hn ht hwa ba z4 hp4 ha CF0 c1 ho gx ht2 hi
  go_enter Try.func38, Try.ntmps38
  go_upto_region 1 with fail
  rw [← HWA.out, ← HP4.out]
  go_wp2_with fail
  refine CF.out.mono ?_
  rintro e w1 ⟨rfl, hw1⟩
  rw [hw1]
  clear hw1 w1
  go_wp2_with (refine wpList_store_all (by rfl) 92 (.tmp 7) (.tmp 25) (by rfl) wa.heap.size 0 [.int .i64 tid, .bool tm, .string tn, .int .i64 tc, .bool tp, .string tw] (by kernel_rfl) (by kernel_rfl) TH.out (by kernel_rfl) (rc6_one [⟨tid, tm, tn, tc, tp, tw⟩]) ?_)
  intro W7 HW7
  have hh7 := heap_setCells_same [.int .i64 tid, .bool tm, .string tn, .int .i64 tc, .bool tp, .string tw] _ 0 _ (heap_alloc_new wa (.cells #[.int .i64 0, .bool false, .string ⟨#[]⟩, .int .i64 0, .bool false, .string ⟨#[]⟩] 92))
  rw [← HW7.out] at hh7
  have b7 : Below wa.heap.size wa W7 := by
    rw [HW7.out]
    exact ((Below.refl wa.heap.size wa).alloc (Nat.le_refl _) _).trans (below_lay (Nat.le_refl _) _ _ _)
  obtain ⟨p7, hp7⟩ : ∃ p, p = wa.heap.size := ⟨_, rfl⟩
  rw [← hp7] at hh7 ⊢
  have P7 : Hid (W7.heap[p7]? = some (.cells (RT.cells ⟨tid, tm, tn, tc, tp, tw⟩).toArray 92 (0, 0))) := Lib.hid hh7
  have H7 := Lib.hid (HA.out.below b7)
  have Z7 := Lib.hid ((b7.block p4 (Array.getElem?_eq_some_iff.1 Z4.out).1).trans Z4.out)
  have D7 : Hid (W7.cell? ⟨m, 0, none⟩ = some (.slice (some ⟨g, 0, none⟩) n c)) := Lib.hid ((b7.cell (p := ⟨m, 0, none⟩) HA.out.lt).trans c0)
  have HB7 := Lib.hid (Nat.le_trans HB.out b7.size)
  have L4 : Hid (p4 < W7.heap.size ∧ p4 ≠ m ∧ p7 ≠ m) := Lib.hid ⟨(Array.getElem?_eq_some_iff.1 Z7.out).1, by have := HM.out; have := HP4.out; omega, by have := HA.out.lt; omega⟩
  have B7 := Lib.hid (BA.out.trans (b7.mono BA.out.size))
  clear hh7 b7 hp7 HW7 TH d0 d1 d2 d3 d4 d5 c0 c2 HA Z4 CF HB
  go_upto_region 7 with fail
  go_cut [] (fun wx => ∃ v6, Hid ((B ≤ m ∧ wx.heap[m]? = some (.cells #[v6, .int .i64 last, .bool false] 29 (0, 0)) ∧ wx.ownsRow W7.heap.size 92 6 v6 (L.eraseIdx i).length (rc6 (L.eraseIdx i))) ∧ Rel B (SD m) W7 wx ∧ ∀ (p : Nat) (o : Obj), W7.heap[p]? = some o → p ≠ m → wx.heap[p]? = some o))
  case first => as_aux_lemma => --ok
    refine wp_region_any (by kernel_rfl) ?_
    change wpAny _ _ _ _ _ _ _ W7.drew
    have LD := Lib.hid (H7.out.below (Below.refl _ W7).drew)
    have RD : Hid (Rel B (SD m) W7 W7.drew) := Lib.hid (Rel.below (Below.refl _ W7).drew)
    have HWD : Hid (∀ (p : Nat) (o : Obj), W7.heap[p]? = some o → W7.drew.heap[p]? = some o) := Lib.hid (fun p o hp => hp)
    have D0 : Hid (W7.drew.cell? ⟨m, 0, none⟩ = some (.slice (some ⟨g, 0, none⟩) n c)) := Lib.hid D7.out
    have HB : Hid (B ≤ W7.drew.heap.size) := Lib.hid HB7.out
    have HZ : Hid (W7.drew.heap.size = W7.heap.size) := Lib.hid rfl
    generalize W7.drew = wd at *
    have d0 : wd.cell? ⟨m, 0, none⟩ = some (.slice (some ⟨g, 0, none⟩) n c) := D0.out
    have AB := Lib.hid ((Below.refl wd.heap.size wd).alloc (Nat.le_refl _) (.cells #[] 92 (0, 0)))
    have E3 := Lib.hid (own_empty (w := wd) (B := wd.heap.size) (t := 92) (e := 92) (z := 6) (Nat.le_refl _) rfl)
    obtain ⟨_, v0, hm0, hrow0⟩ := LD.out
    have hv0 : v0 = .slice (some ⟨g, 0, none⟩) L.length c := by
      have := (cell_of_row wd m 0 _ _ _ hm0).symm.trans D0.out
      rw [HN.out]
      simpa using this
    subst hv0
    have OD := Lib.hid hrow0
    have NW := newsD OD.out 0 i (by rw [HN.out]; have := HI.out; omega) AB.out
    rw [Nat.zero_mul, List.drop_zero] at NW
    have NW1 := Lib.hid NW
    have HTL : Hid ((rc6 (L.take i)).length = i * 6) := Lib.hid (by rw [rc6_len, List.length_take, HN.out]; have := HI.out; omega)
    have HTL2 : Hid ((rc6 ((L.drop (i + 1)).take (n - (i + 1)))).length = (n - (i + 1)) * 6) := Lib.hid (by rw [rc6_len, List.length_take, List.length_drop, HN.out]; omega)
    have LEN2 : Hid (i + 1 + (n - (i + 1)) ≤ L.length) := Lib.hid (by rw [HN.out]; have := HI.out; omega)
    have RM : Hid (0 + i ≤ maxLen ∧ (0 + i) * 64 ≤ 140737488355328 ∧ i + (n - (i + 1)) ≤ maxLen ∧ (i + (n - (i + 1))) * 64 ≤ 140737488355328) := Lib.hid (roomU HI.out HL.out)
    have HBA : Hid (wd.heap.size ≤ (wd.alloc (.cells #[] 92 (0, 0))).heap.size) := Lib.hid AB.out.size
    have e0 : (wd.alloc (.cells #[] 92 (0, 0))).cell? ⟨m, 0, none⟩ = some (.slice (some ⟨g, 0, none⟩) n c) := (AB.out.cell (p := ⟨m, 0, none⟩) LD.out.lt).trans d0
    have bld := build0D wd
    have hnc : n ≤ c := hcap0
    have hic : i ≤ c := Nat.le_trans hin hnc
    obtain ⟨k1, k2, k3, k4, k5, k6⟩ := idxU HI.out HL.out
    clear NW hrow0 hm0 H7 P7 Z7 D7 HB7 hcap0 hi2 hd
    refine wpAny_take (i := 0) (v := ?_) rfl (by kernel_rfl) (by kernel_rfl) (by kernel_rfl) (fun _ _ _ h => h) (Or.inl ⟨by kernel_rfl, ?_⟩) ?_
    rotate_left
    · intro w
      go_simp
      try with_reducible rfl
    simp only [Act.put, List.getElem_toArray, List.getElem_cons_zero, List.getElem_cons_succ, List.setIfInBounds_toArray, List.set_cons_zero, List.set_cons_succ]
    refine wpAny_take (i := 2) (v := ?_) rfl (by kernel_rfl) (by kernel_rfl) (by kernel_rfl) (fun _ _ _ h => h) (Or.inl ⟨by kernel_rfl, ?_⟩) ?_
    rotate_left
    · intro w
      go_simp
      try with_reducible rfl
    simp only [Act.put, List.getElem_toArray, List.getElem_cons_zero, List.getElem_cons_succ, List.setIfInBounds_toArray, List.set_cons_zero, List.set_cons_succ]
    refine wpAny_take (i := 3) (v := ?_) rfl (by kernel_rfl) (by kernel_rfl) (by kernel_rfl) (fun _ _ _ h => h) (Or.inl ⟨by kernel_rfl, ?_⟩) ?_
    rotate_left
    · intro w
      go_simp
      try with_reducible rfl
    simp only [Act.put, List.getElem_toArray, List.getElem_cons_zero, List.getElem_cons_succ, List.setIfInBounds_toArray, List.set_cons_zero, List.set_cons_succ]
    refine wpAny_take (i := 4) (v := ?_) rfl (by kernel_rfl) (by kernel_rfl) (by kernel_rfl) (fun _ _ _ h => h) (Or.inl ⟨by kernel_rfl, ?_⟩) ?_
    rotate_left
    · intro w
      go_simp
      try with_reducible rfl
    simp only [Act.put, List.getElem_toArray, List.getElem_cons_zero, List.getElem_cons_succ, List.setIfInBounds_toArray, List.set_cons_zero, List.set_cons_succ]
    refine wpAny_take (i := 6) (v := ?_) rfl (by kernel_rfl) (by kernel_rfl) (by kernel_rfl) (fun _ _ _ h => h) (Or.inl ⟨by kernel_rfl, ?_⟩) ?_
    rotate_left
    · intro w
      go_simp
      try with_reducible rfl
    simp only [Act.put, List.getElem_toArray, List.getElem_cons_zero, List.getElem_cons_succ, List.setIfInBounds_toArray, List.set_cons_zero, List.set_cons_succ]
    refine wpAny_take (i := 9) (v := ?_) rfl (by kernel_rfl) (by kernel_rfl) (by kernel_rfl) (fun _ _ _ h => h) (Or.inl ⟨by kernel_rfl, ?_⟩) ?_
    rotate_left
    · intro w
      go_simp
      try with_reducible rfl
    simp only [Act.put, List.getElem_toArray, List.getElem_cons_zero, List.getElem_cons_succ, List.setIfInBounds_toArray, List.set_cons_zero, List.set_cons_succ]
    refine wpAny_take (i := 10) (v := ?_) rfl (by kernel_rfl) (by kernel_rfl) (by kernel_rfl) (fun _ _ _ h => h) (Or.inl ⟨by kernel_rfl, ?_⟩) ?_
    rotate_left
    · intro w
      go_simp
      try with_reducible rfl
    simp only [Act.put, List.getElem_toArray, List.getElem_cons_zero, List.getElem_cons_succ, List.setIfInBounds_toArray, List.set_cons_zero, List.set_cons_succ]
    refine wpAny_take (i := 11) (v := ?_) rfl (by kernel_rfl) (by kernel_rfl) (by kernel_rfl) (fun _ _ _ h => h) (Or.inl ⟨by kernel_rfl, ?_⟩) ?_
    rotate_left
    · intro w
      go_simp
      try with_reducible rfl
    simp only [Act.put, List.getElem_toArray, List.getElem_cons_zero, List.getElem_cons_succ, List.setIfInBounds_toArray, List.set_cons_zero, List.set_cons_succ]
    refine wpAny_take (i := 13) (v := ?_) rfl (by kernel_rfl) (by kernel_rfl) (by kernel_rfl) (fun _ _ _ h => h) (Or.inl ⟨by kernel_rfl, ?_⟩) ?_
    rotate_left
    · intro w
      go_simp
      try with_reducible rfl
    simp only [Act.put, List.getElem_toArray, List.getElem_cons_zero, List.getElem_cons_succ, List.setIfInBounds_toArray, List.set_cons_zero, List.set_cons_succ]
    refine wpAny_take (i := 14) (v := ?_) rfl (by kernel_rfl) (by kernel_rfl) (by kernel_rfl) (fun _ _ _ h => h) (Or.inl ⟨by kernel_rfl, ?_⟩) ?_
    rotate_left
    · intro w
      go_simp
      try with_reducible rfl
    simp only [Act.put, List.getElem_toArray, List.getElem_cons_zero, List.getElem_cons_succ, List.setIfInBounds_toArray, List.set_cons_zero, List.set_cons_succ]
    refine wpAny_ready (rs := [1, 5, 12]) (by kernel_rfl) (by simp) (AllReady.cons rfl (fun K hK => ?_) (AllReady.cons rfl (fun K hK => ?_) (AllReady.cons rfl (fun K hK => ?_) AllReady.nil)))
    · skip
      go_simp
      refine hK _ _ ?_
      clear hK K
      try simp only [Act.put, List.setIfInBounds_toArray, List.set_cons_zero, List.set_cons_succ]
      refine wpAny_ready (rs := [5, 12]) (by kernel_rfl) (by simp) (AllReady.cons rfl (fun K hK => ?_) (AllReady.cons rfl (fun K hK => ?_) AllReady.nil))
      · skip
        go_simp
        refine hK _ _ ?_
        clear hK K
        try simp only [Act.put, List.setIfInBounds_toArray, List.set_cons_zero, List.set_cons_succ]
        refine wpAny_take (i := 7) (v := ?_) rfl (by kernel_rfl) (by kernel_rfl) (by kernel_rfl) (fun _ _ _ h => h) (Or.inl ⟨by kernel_rfl, ?_⟩) ?_
        rotate_left
        · intro w
          go_simp
          try with_reducible rfl
        simp only [Act.put, List.getElem_toArray, List.getElem_cons_zero, List.getElem_cons_succ, List.setIfInBounds_toArray, List.set_cons_zero, List.set_cons_succ]
        refine wpAny_ready (rs := [8, 12]) (by kernel_rfl) (by simp) (AllReady.cons rfl (fun K hK => ?_) (AllReady.cons rfl (fun K hK => ?_) AllReady.nil))
        · skip
          refine step_append_ownD (by rfl) (.tmp 27) (.tmp 33) 27 (by rfl) wd.heap.size 92 ir _ 6 64 Try.underlying27 hi' hz0 hz1 hz2 rfl (by decide) (.slice (some ⟨wd.heap.size, 0, none⟩) 0 0) 0 [] (by kernel_rfl) E3.out ⟨g, 0, none⟩ i c (rc6 (L.take i)) (by kernel_rfl) HTL.out NW1.out (rc6_one _) RM.out.1 RM.out.2.1 HBA.out ?_
          intro v5 w5 hrow5 hgrow5 hnn5
          obtain ⟨a5, c5, ROW5, B5, x0, hv5⟩ := undo_mid AB.out hrow5 hgrow5 LD.out D0.out
          subst hv5
          have NW2 := Lib.hid (newsD OD.out (i + 1) (n - (i + 1)) LEN2.out B5.out)
          clear hrow5 hgrow5 hnn5
          refine hK _ _ ?_
          clear hK K
          try simp only [Act.put, List.setIfInBounds_toArray, List.set_cons_zero, List.set_cons_succ]
          refine wpAny_ready (rs := [12]) (by kernel_rfl) (by simp) (AllReady.cons rfl (fun K hK => ?_) AllReady.nil)
          go_simp
          refine hK _ _ ?_
          clear hK K
          try simp only [Act.put, List.setIfInBounds_toArray, List.set_cons_zero, List.set_cons_succ]
          refine wpAny_take (i := 15) (v := ?_) rfl (by kernel_rfl) (by kernel_rfl) (by kernel_rfl) (fun _ _ _ h => h) (Or.inl ⟨by kernel_rfl, ?_⟩) ?_
          rotate_left
          · intro w
            go_simp
            try with_reducible rfl
          simp only [Act.put, List.getElem_toArray, List.getElem_cons_zero, List.getElem_cons_succ, List.setIfInBounds_toArray, List.set_cons_zero, List.set_cons_succ]
          refine wpAny_ready (rs := [16]) (by kernel_rfl) (by simp) (AllReady.cons rfl (fun K hK => ?_) AllReady.nil)
          refine step_append_ownD (by rfl) (.tmp 34) (.tmp 41) 27 (by rfl) wd.heap.size 92 ir _ 6 64 Try.underlying27 hi' hz0 hz1 hz2 rfl (by decide) (.slice a5 i c5) i (rc6 (L.take i)) (by kernel_rfl) ROW5.out ⟨g, (i + 1) * 6, none⟩ (n - (i + 1)) (c - (i + 1)) (rc6 ((L.drop (i + 1)).take (n - (i + 1)))) (by kernel_rfl) HTL2.out NW2.out (rc6_one _) RM.out.2.2.1 RM.out.2.2.2 B5.out.size ?_
          intro v6 w6 hrow6 hgrow6 hnn6
          obtain ⟨a6, c6, FIN, y0, f6, hv6⟩ := undo_end B5.out ROW5.out hrow6 hgrow6 LD.out HB.out HN.out HI.out D0.out
          subst hv6
          clear hrow6 hgrow6 hnn6
          refine hK _ _ ?_
          clear hK K
          try simp only [Act.put, List.setIfInBounds_toArray, List.set_cons_zero, List.set_cons_succ]
          refine wpAny_take (i := 17) (v := ?_) rfl (by kernel_rfl) (by kernel_rfl) (by kernel_rfl) (fun _ _ _ h => h) (Or.inl ⟨by kernel_rfl, ?_⟩) ?_
          rotate_left
          · intro w
            go_simp
            try with_reducible rfl
          simp only [Act.put, List.getElem_toArray, List.getElem_cons_zero, List.getElem_cons_succ, List.setIfInBounds_toArray, List.set_cons_zero, List.set_cons_succ]
          refine wpAny_take (i := 18) (v := ?_) rfl (by kernel_rfl) (by kernel_rfl) (by kernel_rfl) (fun _ _ _ h => h) (Or.inl ⟨by kernel_rfl, ?_⟩) ?_
          rotate_left
          · intro w
            go_simp
            try with_reducible rfl
          simp only [Act.put, List.getElem_toArray, List.getElem_cons_zero, List.getElem_cons_succ, List.setIfInBounds_toArray, List.set_cons_zero, List.set_cons_succ]
          refine wpAny_ready (rs := [19]) (by kernel_rfl) (by simp) (AllReady.cons rfl (fun K hK => ?_) AllReady.nil)
          go_simp
          refine hK _ _ ?_
          clear hK K
          try simp only [Act.put, List.setIfInBounds_toArray, List.set_cons_zero, List.set_cons_succ]
          refine wpAny_done (by kernel_rfl) ?_ _
          go_wp2_with fail
          go_meet
          exact ⟨_, Lib.hid ⟨⟨FIN.out.1.1, FIN.out.1.2.1, by rw [← HZ.out]; exact FIN.out.1.2.2⟩, RD.out.trans FIN.out.2.1, fun p o hp hne => FIN.out.2.2 p o (HWD.out p o hp) hne⟩⟩
        · skip
          go_simp
          refine hK _ _ ?_
          clear hK K
          try simp only [Act.put, List.setIfInBounds_toArray, List.set_cons_zero, List.set_cons_succ]
          refine wpAny_take (i := 15) (v := ?_) rfl (by kernel_rfl) (by kernel_rfl) (by kernel_rfl) (fun _ _ _ h => h) (Or.inl ⟨by kernel_rfl, ?_⟩) ?_
          rotate_left
          · intro w
            go_simp
            try with_reducible rfl
          simp only [Act.put, List.getElem_toArray, List.getElem_cons_zero, List.getElem_cons_succ, List.setIfInBounds_toArray, List.set_cons_zero, List.set_cons_succ]
          refine wpAny_ready (rs := [8]) (by kernel_rfl) (by simp) (AllReady.cons rfl (fun K hK => ?_) AllReady.nil)
          refine step_append_ownD (by rfl) (.tmp 27) (.tmp 33) 27 (by rfl) wd.heap.size 92 ir _ 6 64 Try.underlying27 hi' hz0 hz1 hz2 rfl (by decide) (.slice (some ⟨wd.heap.size, 0, none⟩) 0 0) 0 [] (by kernel_rfl) E3.out ⟨g, 0, none⟩ i c (rc6 (L.take i)) (by kernel_rfl) HTL.out NW1.out (rc6_one _) RM.out.1 RM.out.2.1 HBA.out ?_
          intro v5 w5 hrow5 hgrow5 hnn5
          obtain ⟨a5, c5, ROW5, B5, x0, hv5⟩ := undo_mid AB.out hrow5 hgrow5 LD.out D0.out
          subst hv5
          have NW2 := Lib.hid (newsD OD.out (i + 1) (n - (i + 1)) LEN2.out B5.out)
          clear hrow5 hgrow5 hnn5
          refine hK _ _ ?_
          clear hK K
          try simp only [Act.put, List.setIfInBounds_toArray, List.set_cons_zero, List.set_cons_succ]
          refine wpAny_ready (rs := [16]) (by kernel_rfl) (by simp) (AllReady.cons rfl (fun K hK => ?_) AllReady.nil)
          refine step_append_ownD (by rfl) (.tmp 34) (.tmp 41) 27 (by rfl) wd.heap.size 92 ir _ 6 64 Try.underlying27 hi' hz0 hz1 hz2 rfl (by decide) (.slice a5 i c5) i (rc6 (L.take i)) (by kernel_rfl) ROW5.out ⟨g, (i + 1) * 6, none⟩ (n - (i + 1)) (c - (i + 1)) (rc6 ((L.drop (i + 1)).take (n - (i + 1)))) (by kernel_rfl) HTL2.out NW2.out (rc6_one _) RM.out.2.2.1 RM.out.2.2.2 B5.out.size ?_
          intro v6 w6 hrow6 hgrow6 hnn6
          obtain ⟨a6, c6, FIN, y0, f6, hv6⟩ := undo_end B5.out ROW5.out hrow6 hgrow6 LD.out HB.out HN.out HI.out D0.out
          subst hv6
          clear hrow6 hgrow6 hnn6
          refine hK _ _ ?_
          clear hK K
          try simp only [Act.put, List.setIfInBounds_toArray, List.set_cons_zero, List.set_cons_succ]
          refine wpAny_take (i := 17) (v := ?_) rfl (by kernel_rfl) (by kernel_rfl) (by kernel_rfl) (fun _ _ _ h => h) (Or.inl ⟨by kernel_rfl, ?_⟩) ?_
          rotate_left
          · intro w
            go_simp
            try with_reducible rfl
          simp only [Act.put, List.getElem_toArray, List.getElem_cons_zero, List.getElem_cons_succ, List.setIfInBounds_toArray, List.set_cons_zero, List.set_cons_succ]
          refine wpAny_take (i := 18) (v := ?_) rfl (by kernel_rfl) (by kernel_rfl) (by kernel_rfl) (fun _ _ _ h => h) (Or.inl ⟨by kernel_rfl, ?_⟩) ?_
          rotate_left
          · intro w
            go_simp
            try with_reducible rfl
          simp only [Act.put, List.getElem_toArray, List.getElem_cons_zero, List.getElem_cons_succ, List.setIfInBounds_toArray, List.set_cons_zero, List.set_cons_succ]
          refine wpAny_ready (rs := [19]) (by kernel_rfl) (by simp) (AllReady.cons rfl (fun K hK => ?_) AllReady.nil)
          go_simp
          refine hK _ _ ?_
          clear hK K
          try simp only [Act.put, List.setIfInBounds_toArray, List.set_cons_zero, List.set_cons_succ]
          refine wpAny_done (by kernel_rfl) ?_ _
          go_wp2_with fail
          go_meet
          exact ⟨_, Lib.hid ⟨⟨FIN.out.1.1, FIN.out.1.2.1, by rw [← HZ.out]; exact FIN.out.1.2.2⟩, RD.out.trans FIN.out.2.1, fun p o hp hne => FIN.out.2.2 p o (HWD.out p o hp) hne⟩⟩
      · skip
        go_simp
        refine hK _ _ ?_
        clear hK K
        try simp only [Act.put, List.setIfInBounds_toArray, List.set_cons_zero, List.set_cons_succ]
        refine wpAny_take (i := 15) (v := ?_) rfl (by kernel_rfl) (by kernel_rfl) (by kernel_rfl) (fun _ _ _ h => h) (Or.inl ⟨by kernel_rfl, ?_⟩) ?_
        rotate_left
        · intro w
          go_simp
          try with_reducible rfl
        simp only [Act.put, List.getElem_toArray, List.getElem_cons_zero, List.getElem_cons_succ, List.setIfInBounds_toArray, List.set_cons_zero, List.set_cons_succ]
        refine wpAny_ready (rs := [5]) (by kernel_rfl) (by simp) (AllReady.cons rfl (fun K hK => ?_) AllReady.nil)
        go_simp
        refine hK _ _ ?_
        clear hK K
        try simp only [Act.put, List.setIfInBounds_toArray, List.set_cons_zero, List.set_cons_succ]
        refine wpAny_take (i := 7) (v := ?_) rfl (by kernel_rfl) (by kernel_rfl) (by kernel_rfl) (fun _ _ _ h => h) (Or.inl ⟨by kernel_rfl, ?_⟩) ?_
        rotate_left
        · intro w
          go_simp
          try with_reducible rfl
        simp only [Act.put, List.getElem_toArray, List.getElem_cons_zero, List.getElem_cons_succ, List.setIfInBounds_toArray, List.set_cons_zero, List.set_cons_succ]
        refine wpAny_ready (rs := [8]) (by kernel_rfl) (by simp) (AllReady.cons rfl (fun K hK => ?_) AllReady.nil)
        refine step_append_ownD (by rfl) (.tmp 27) (.tmp 33) 27 (by rfl) wd.heap.size 92 ir _ 6 64 Try.underlying27 hi' hz0 hz1 hz2 rfl (by decide) (.slice (some ⟨wd.heap.size, 0, none⟩) 0 0) 0 [] (by kernel_rfl) E3.out ⟨g, 0, none⟩ i c (rc6 (L.take i)) (by kernel_rfl) HTL.out NW1.out (rc6_one _) RM.out.1 RM.out.2.1 HBA.out ?_
        intro v5 w5 hrow5 hgrow5 hnn5
        obtain ⟨a5, c5, ROW5, B5, x0, hv5⟩ := undo_mid AB.out hrow5 hgrow5 LD.out D0.out
        subst hv5
        have NW2 := Lib.hid (newsD OD.out (i + 1) (n - (i + 1)) LEN2.out B5.out)
        clear hrow5 hgrow5 hnn5
        refine hK _ _ ?_
        clear hK K
        try simp only [Act.put, List.setIfInBounds_toArray, List.set_cons_zero, List.set_cons_succ]
        refine wpAny_ready (rs := [16]) (by kernel_rfl) (by simp) (AllReady.cons rfl (fun K hK => ?_) AllReady.nil)
        refine step_append_ownD (by rfl) (.tmp 34) (.tmp 41) 27 (by rfl) wd.heap.size 92 ir _ 6 64 Try.underlying27 hi' hz0 hz1 hz2 rfl (by decide) (.slice a5 i c5) i (rc6 (L.take i)) (by kernel_rfl) ROW5.out ⟨g, (i + 1) * 6, none⟩ (n - (i + 1)) (c - (i + 1)) (rc6 ((L.drop (i + 1)).take (n - (i + 1)))) (by kernel_rfl) HTL2.out NW2.out (rc6_one _) RM.out.2.2.1 RM.out.2.2.2 B5.out.size ?_
        intro v6 w6 hrow6 hgrow6 hnn6
        obtain ⟨a6, c6, FIN, y0, f6, hv6⟩ := undo_end B5.out ROW5.out hrow6 hgrow6 LD.out HB.out HN.out HI.out D0.out
        subst hv6
        clear hrow6 hgrow6 hnn6
        refine hK _ _ ?_
        clear hK K
        try simp only [Act.put, List.setIfInBounds_toArray, List.set_cons_zero, List.set_cons_succ]
        refine wpAny_take (i := 17) (v := ?_) rfl (by kernel_rfl) (by kernel_rfl) (by kernel_rfl) (fun _ _ _ h => h) (Or.inl ⟨by kernel_rfl, ?_⟩) ?_
        rotate_left
        · intro w
          go_simp
          try with_reducible rfl
        simp only [Act.put, List.getElem_toArray, List.getElem_cons_zero, List.getElem_cons_succ, List.setIfInBounds_toArray, List.set_cons_zero, List.set_cons_succ]
        refine wpAny_take (i := 18) (v := ?_) rfl (by kernel_rfl) (by kernel_rfl) (by kernel_rfl) (fun _ _ _ h => h) (Or.inl ⟨by kernel_rfl, ?_⟩) ?_
        rotate_left
        · intro w
          go_simp
          try with_reducible rfl
        simp only [Act.put, List.getElem_toArray, List.getElem_cons_zero, List.getElem_cons_succ, List.setIfInBounds_toArray, List.set_cons_zero, List.set_cons_succ]
        refine wpAny_ready (rs := [19]) (by kernel_rfl) (by simp) (AllReady.cons rfl (fun K hK => ?_) AllReady.nil)
        go_simp
        refine hK _ _ ?_
        clear hK K
        try simp only [Act.put, List.setIfInBounds_toArray, List.set_cons_zero, List.set_cons_succ]
        refine wpAny_done (by kernel_rfl) ?_ _
        go_wp2_with fail
        go_meet
        exact ⟨_, Lib.hid ⟨⟨FIN.out.1.1, FIN.out.1.2.1, by rw [← HZ.out]; exact FIN.out.1.2.2⟩, RD.out.trans FIN.out.2.1, fun p o hp hne => FIN.out.2.2 p o (HWD.out p o hp) hne⟩⟩
    · skip
      go_simp
      refine hK _ _ ?_
      clear hK K
      try simp only [Act.put, List.setIfInBounds_toArray, List.set_cons_zero, List.set_cons_succ]
      refine wpAny_take (i := 7) (v := ?_) rfl (by kernel_rfl) (by kernel_rfl) (by kernel_rfl) (fun _ _ _ h => h) (Or.inl ⟨by kernel_rfl, ?_⟩) ?_
      rotate_left
      · intro w
        go_simp
        try with_reducible rfl
      simp only [Act.put, List.getElem_toArray, List.getElem_cons_zero, List.getElem_cons_succ, List.setIfInBounds_toArray, List.set_cons_zero, List.set_cons_succ]
      refine wpAny_ready (rs := [1, 12]) (by kernel_rfl) (by simp) (AllReady.cons rfl (fun K hK => ?_) (AllReady.cons rfl (fun K hK => ?_) AllReady.nil))
      · skip
        go_simp
        refine hK _ _ ?_
        clear hK K
        try simp only [Act.put, List.setIfInBounds_toArray, List.set_cons_zero, List.set_cons_succ]
        refine wpAny_ready (rs := [8, 12]) (by kernel_rfl) (by simp) (AllReady.cons rfl (fun K hK => ?_) (AllReady.cons rfl (fun K hK => ?_) AllReady.nil))
        · skip
          refine step_append_ownD (by rfl) (.tmp 27) (.tmp 33) 27 (by rfl) wd.heap.size 92 ir _ 6 64 Try.underlying27 hi' hz0 hz1 hz2 rfl (by decide) (.slice (some ⟨wd.heap.size, 0, none⟩) 0 0) 0 [] (by kernel_rfl) E3.out ⟨g, 0, none⟩ i c (rc6 (L.take i)) (by kernel_rfl) HTL.out NW1.out (rc6_one _) RM.out.1 RM.out.2.1 HBA.out ?_
          intro v5 w5 hrow5 hgrow5 hnn5
          obtain ⟨a5, c5, ROW5, B5, x0, hv5⟩ := undo_mid AB.out hrow5 hgrow5 LD.out D0.out
          subst hv5
          have NW2 := Lib.hid (newsD OD.out (i + 1) (n - (i + 1)) LEN2.out B5.out)
          clear hrow5 hgrow5 hnn5
          refine hK _ _ ?_
          clear hK K
          try simp only [Act.put, List.setIfInBounds_toArray, List.set_cons_zero, List.set_cons_succ]
          refine wpAny_ready (rs := [12]) (by kernel_rfl) (by simp) (AllReady.cons rfl (fun K hK => ?_) AllReady.nil)
          go_simp
          refine hK _ _ ?_
          clear hK K
          try simp only [Act.put, List.setIfInBounds_toArray, List.set_cons_zero, List.set_cons_succ]
          refine wpAny_take (i := 15) (v := ?_) rfl (by kernel_rfl) (by kernel_rfl) (by kernel_rfl) (fun _ _ _ h => h) (Or.inl ⟨by kernel_rfl, ?_⟩) ?_
          rotate_left
          · intro w
            go_simp
            try with_reducible rfl
          simp only [Act.put, List.getElem_toArray, List.getElem_cons_zero, List.getElem_cons_succ, List.setIfInBounds_toArray, List.set_cons_zero, List.set_cons_succ]
          refine wpAny_ready (rs := [16]) (by kernel_rfl) (by simp) (AllReady.cons rfl (fun K hK => ?_) AllReady.nil)
          refine step_append_ownD (by rfl) (.tmp 34) (.tmp 41) 27 (by rfl) wd.heap.size 92 ir _ 6 64 Try.underlying27 hi' hz0 hz1 hz2 rfl (by decide) (.slice a5 i c5) i (rc6 (L.take i)) (by kernel_rfl) ROW5.out ⟨g, (i + 1) * 6, none⟩ (n - (i + 1)) (c - (i + 1)) (rc6 ((L.drop (i + 1)).take (n - (i + 1)))) (by kernel_rfl) HTL2.out NW2.out (rc6_one _) RM.out.2.2.1 RM.out.2.2.2 B5.out.size ?_
          intro v6 w6 hrow6 hgrow6 hnn6
          obtain ⟨a6, c6, FIN, y0, f6, hv6⟩ := undo_end B5.out ROW5.out hrow6 hgrow6 LD.out HB.out HN.out HI.out D0.out
          subst hv6
          clear hrow6 hgrow6 hnn6
          refine hK _ _ ?_
          clear hK K
          try simp only [Act.put, List.setIfInBounds_toArray, List.set_cons_zero, List.set_cons_succ]
          refine wpAny_take (i := 17) (v := ?_) rfl (by kernel_rfl) (by kernel_rfl) (by kernel_rfl) (fun _ _ _ h => h) (Or.inl ⟨by kernel_rfl, ?_⟩) ?_
          rotate_left
          · intro w
            go_simp
            try with_reducible rfl
          simp only [Act.put, List.getElem_toArray, List.getElem_cons_zero, List.getElem_cons_succ, List.setIfInBounds_toArray, List.set_cons_zero, List.set_cons_succ]
          refine wpAny_take (i := 18) (v := ?_) rfl (by kernel_rfl) (by kernel_rfl) (by kernel_rfl) (fun _ _ _ h => h) (Or.inl ⟨by kernel_rfl, ?_⟩) ?_
          rotate_left
          · intro w
            go_simp
            try with_reducible rfl
          simp only [Act.put, List.getElem_toArray, List.getElem_cons_zero, List.getElem_cons_succ, List.setIfInBounds_toArray, List.set_cons_zero, List.set_cons_succ]
          refine wpAny_ready (rs := [19]) (by kernel_rfl) (by simp) (AllReady.cons rfl (fun K hK => ?_) AllReady.nil)
          go_simp
          refine hK _ _ ?_
          clear hK K
          try simp only [Act.put, List.setIfInBounds_toArray, List.set_cons_zero, List.set_cons_succ]
          refine wpAny_done (by kernel_rfl) ?_ _
          go_wp2_with fail
          go_meet
          exact ⟨_, Lib.hid ⟨⟨FIN.out.1.1, FIN.out.1.2.1, by rw [← HZ.out]; exact FIN.out.1.2.2⟩, RD.out.trans FIN.out.2.1, fun p o hp hne => FIN.out.2.2 p o (HWD.out p o hp) hne⟩⟩
        · skip
          go_simp
          refine hK _ _ ?_
          clear hK K
          try simp only [Act.put, List.setIfInBounds_toArray, List.set_cons_zero, List.set_cons_succ]
          refine wpAny_take (i := 15) (v := ?_) rfl (by kernel_rfl) (by kernel_rfl) (by kernel_rfl) (fun _ _ _ h => h) (Or.inl ⟨by kernel_rfl, ?_⟩) ?_
          rotate_left
          · intro w
            go_simp
            try with_reducible rfl
          simp only [Act.put, List.getElem_toArray, List.getElem_cons_zero, List.getElem_cons_succ, List.setIfInBounds_toArray, List.set_cons_zero, List.set_cons_succ]
          refine wpAny_ready (rs := [8]) (by kernel_rfl) (by simp) (AllReady.cons rfl (fun K hK => ?_) AllReady.nil)
          refine step_append_ownD (by rfl) (.tmp 27) (.tmp 33) 27 (by rfl) wd.heap.size 92 ir _ 6 64 Try.underlying27 hi' hz0 hz1 hz2 rfl (by decide) (.slice (some ⟨wd.heap.size, 0, none⟩) 0 0) 0 [] (by kernel_rfl) E3.out ⟨g, 0, none⟩ i c (rc6 (L.take i)) (by kernel_rfl) HTL.out NW1.out (rc6_one _) RM.out.1 RM.out.2.1 HBA.out ?_
          intro v5 w5 hrow5 hgrow5 hnn5
          obtain ⟨a5, c5, ROW5, B5, x0, hv5⟩ := undo_mid AB.out hrow5 hgrow5 LD.out D0.out
          subst hv5
          have NW2 := Lib.hid (newsD OD.out (i + 1) (n - (i + 1)) LEN2.out B5.out)
          clear hrow5 hgrow5 hnn5
          refine hK _ _ ?_
          clear hK K
          try simp only [Act.put, List.setIfInBounds_toArray, List.set_cons_zero, List.set_cons_succ]
          refine wpAny_ready (rs := [16]) (by kernel_rfl) (by simp) (AllReady.cons rfl (fun K hK => ?_) AllReady.nil)
          refine step_append_ownD (by rfl) (.tmp 34) (.tmp 41) 27 (by rfl) wd.heap.size 92 ir _ 6 64 Try.underlying27 hi' hz0 hz1 hz2 rfl (by decide) (.slice a5 i c5) i (rc6 (L.take i)) (by kernel_rfl) ROW5.out ⟨g, (i + 1) * 6, none⟩ (n - (i + 1)) (c - (i + 1)) (rc6 ((L.drop (i + 1)).take (n - (i + 1)))) (by kernel_rfl) HTL2.out NW2.out (rc6_one _) RM.out.2.2.1 RM.out.2.2.2 B5.out.size ?_
          intro v6 w6 hrow6 hgrow6 hnn6
          obtain ⟨a6, c6, FIN, y0, f6, hv6⟩ := undo_end B5.out ROW5.out hrow6 hgrow6 LD.out HB.out HN.out HI.out D0.out
          subst hv6
          clear hrow6 hgrow6 hnn6
          refine hK _ _ ?_
          clear hK K
          try simp only [Act.put, List.setIfInBounds_toArray, List.set_cons_zero, List.set_cons_succ]
          refine wpAny_take (i := 17) (v := ?_) rfl (by kernel_rfl) (by kernel_rfl) (by kernel_rfl) (fun _ _ _ h => h) (Or.inl ⟨by kernel_rfl, ?_⟩) ?_
          rotate_left
          · intro w
            go_simp
            try with_reducible rfl
          simp only [Act.put, List.getElem_toArray, List.getElem_cons_zero, List.getElem_cons_succ, List.setIfInBounds_toArray, List.set_cons_zero, List.set_cons_succ]
          refine wpAny_take (i := 18) (v := ?_) rfl (by kernel_rfl) (by kernel_rfl) (by kernel_rfl) (fun _ _ _ h => h) (Or.inl ⟨by kernel_rfl, ?_⟩) ?_
          rotate_left
          · intro w
            go_simp
            try with_reducible rfl
          simp only [Act.put, List.getElem_toArray, List.getElem_cons_zero, List.getElem_cons_succ, List.setIfInBounds_toArray, List.set_cons_zero, List.set_cons_succ]
          refine wpAny_ready (rs := [19]) (by kernel_rfl) (by simp) (AllReady.cons rfl (fun K hK => ?_) AllReady.nil)
          go_simp
          refine hK _ _ ?_
          clear hK K
          try simp only [Act.put, List.setIfInBounds_toArray, List.set_cons_zero, List.set_cons_succ]
          refine wpAny_done (by kernel_rfl) ?_ _
          go_wp2_with fail
          go_meet
          exact ⟨_, Lib.hid ⟨⟨FIN.out.1.1, FIN.out.1.2.1, by rw [← HZ.out]; exact FIN.out.1.2.2⟩, RD.out.trans FIN.out.2.1, fun p o hp hne => FIN.out.2.2 p o (HWD.out p o hp) hne⟩⟩
      · skip
        go_simp
        refine hK _ _ ?_
        clear hK K
        try simp only [Act.put, List.setIfInBounds_toArray, List.set_cons_zero, List.set_cons_succ]
        refine wpAny_take (i := 15) (v := ?_) rfl (by kernel_rfl) (by kernel_rfl) (by kernel_rfl) (fun _ _ _ h => h) (Or.inl ⟨by kernel_rfl, ?_⟩) ?_
        rotate_left
        · intro w
          go_simp
          try with_reducible rfl
        simp only [Act.put, List.getElem_toArray, List.getElem_cons_zero, List.getElem_cons_succ, List.setIfInBounds_toArray, List.set_cons_zero, List.set_cons_succ]
        refine wpAny_ready (rs := [1]) (by kernel_rfl) (by simp) (AllReady.cons rfl (fun K hK => ?_) AllReady.nil)
        go_simp
        refine hK _ _ ?_
        clear hK K
        try simp only [Act.put, List.setIfInBounds_toArray, List.set_cons_zero, List.set_cons_succ]
        refine wpAny_ready (rs := [8]) (by kernel_rfl) (by simp) (AllReady.cons rfl (fun K hK => ?_) AllReady.nil)
        refine step_append_ownD (by rfl) (.tmp 27) (.tmp 33) 27 (by rfl) wd.heap.size 92 ir _ 6 64 Try.underlying27 hi' hz0 hz1 hz2 rfl (by decide) (.slice (some ⟨wd.heap.size, 0, none⟩) 0 0) 0 [] (by kernel_rfl) E3.out ⟨g, 0, none⟩ i c (rc6 (L.take i)) (by kernel_rfl) HTL.out NW1.out (rc6_one _) RM.out.1 RM.out.2.1 HBA.out ?_
        intro v5 w5 hrow5 hgrow5 hnn5
        obtain ⟨a5, c5, ROW5, B5, x0, hv5⟩ := undo_mid AB.out hrow5 hgrow5 LD.out D0.out
        subst hv5
        have NW2 := Lib.hid (newsD OD.out (i + 1) (n - (i + 1)) LEN2.out B5.out)
        clear hrow5 hgrow5 hnn5
        refine hK _ _ ?_
        clear hK K
        try simp only [Act.put, List.setIfInBounds_toArray, List.set_cons_zero, List.set_cons_succ]
        refine wpAny_ready (rs := [16]) (by kernel_rfl) (by simp) (AllReady.cons rfl (fun K hK => ?_) AllReady.nil)
        refine step_append_ownD (by rfl) (.tmp 34) (.tmp 41) 27 (by rfl) wd.heap.size 92 ir _ 6 64 Try.underlying27 hi' hz0 hz1 hz2 rfl (by decide) (.slice a5 i c5) i (rc6 (L.take i)) (by kernel_rfl) ROW5.out ⟨g, (i + 1) * 6, none⟩ (n - (i + 1)) (c - (i + 1)) (rc6 ((L.drop (i + 1)).take (n - (i + 1)))) (by kernel_rfl) HTL2.out NW2.out (rc6_one _) RM.out.2.2.1 RM.out.2.2.2 B5.out.size ?_
        intro v6 w6 hrow6 hgrow6 hnn6
        obtain ⟨a6, c6, FIN, y0, f6, hv6⟩ := undo_end B5.out ROW5.out hrow6 hgrow6 LD.out HB.out HN.out HI.out D0.out
        subst hv6
        clear hrow6 hgrow6 hnn6
        refine hK _ _ ?_
        clear hK K
        try simp only [Act.put, List.setIfInBounds_toArray, List.set_cons_zero, List.set_cons_succ]
        refine wpAny_take (i := 17) (v := ?_) rfl (by kernel_rfl) (by kernel_rfl) (by kernel_rfl) (fun _ _ _ h => h) (Or.inl ⟨by kernel_rfl, ?_⟩) ?_
        rotate_left
        · intro w
          go_simp
          try with_reducible rfl
        simp only [Act.put, List.getElem_toArray, List.getElem_cons_zero, List.getElem_cons_succ, List.setIfInBounds_toArray, List.set_cons_zero, List.set_cons_succ]
        refine wpAny_take (i := 18) (v := ?_) rfl (by kernel_rfl) (by kernel_rfl) (by kernel_rfl) (fun _ _ _ h => h) (Or.inl ⟨by kernel_rfl, ?_⟩) ?_
        rotate_left
        · intro w
          go_simp
          try with_reducible rfl
        simp only [Act.put, List.getElem_toArray, List.getElem_cons_zero, List.getElem_cons_succ, List.setIfInBounds_toArray, List.set_cons_zero, List.set_cons_succ]
        refine wpAny_ready (rs := [19]) (by kernel_rfl) (by simp) (AllReady.cons rfl (fun K hK => ?_) AllReady.nil)
        go_simp
        refine hK _ _ ?_
        clear hK K
        try simp only [Act.put, List.setIfInBounds_toArray, List.set_cons_zero, List.set_cons_succ]
        refine wpAny_done (by kernel_rfl) ?_ _
        go_wp2_with fail
        go_meet
        exact ⟨_, Lib.hid ⟨⟨FIN.out.1.1, FIN.out.1.2.1, by rw [← HZ.out]; exact FIN.out.1.2.2⟩, RD.out.trans FIN.out.2.1, fun p o hp hne => FIN.out.2.2 p o (HWD.out p o hp) hne⟩⟩
    · skip
      go_simp
      refine hK _ _ ?_
      clear hK K
      try simp only [Act.put, List.setIfInBounds_toArray, List.set_cons_zero, List.set_cons_succ]
      refine wpAny_take (i := 15) (v := ?_) rfl (by kernel_rfl) (by kernel_rfl) (by kernel_rfl) (fun _ _ _ h => h) (Or.inl ⟨by kernel_rfl, ?_⟩) ?_
      rotate_left
      · intro w
        go_simp
        try with_reducible rfl
      simp only [Act.put, List.getElem_toArray, List.getElem_cons_zero, List.getElem_cons_succ, List.setIfInBounds_toArray, List.set_cons_zero, List.set_cons_succ]
      refine wpAny_ready (rs := [1, 5]) (by kernel_rfl) (by simp) (AllReady.cons rfl (fun K hK => ?_) (AllReady.cons rfl (fun K hK => ?_) AllReady.nil))
      · skip
        go_simp
        refine hK _ _ ?_
        clear hK K
        try simp only [Act.put, List.setIfInBounds_toArray, List.set_cons_zero, List.set_cons_succ]
        refine wpAny_ready (rs := [5]) (by kernel_rfl) (by simp) (AllReady.cons rfl (fun K hK => ?_) AllReady.nil)
        go_simp
        refine hK _ _ ?_
        clear hK K
        try simp only [Act.put, List.setIfInBounds_toArray, List.set_cons_zero, List.set_cons_succ]
        refine wpAny_take (i := 7) (v := ?_) rfl (by kernel_rfl) (by kernel_rfl) (by kernel_rfl) (fun _ _ _ h => h) (Or.inl ⟨by kernel_rfl, ?_⟩) ?_
        rotate_left
        · intro w
          go_simp
          try with_reducible rfl
        simp only [Act.put, List.getElem_toArray, List.getElem_cons_zero, List.getElem_cons_succ, List.setIfInBounds_toArray, List.set_cons_zero, List.set_cons_succ]
        refine wpAny_ready (rs := [8]) (by kernel_rfl) (by simp) (AllReady.cons rfl (fun K hK => ?_) AllReady.nil)
        refine step_append_ownD (by rfl) (.tmp 27) (.tmp 33) 27 (by rfl) wd.heap.size 92 ir _ 6 64 Try.underlying27 hi' hz0 hz1 hz2 rfl (by decide) (.slice (some ⟨wd.heap.size, 0, none⟩) 0 0) 0 [] (by kernel_rfl) E3.out ⟨g, 0, none⟩ i c (rc6 (L.take i)) (by kernel_rfl) HTL.out NW1.out (rc6_one _) RM.out.1 RM.out.2.1 HBA.out ?_
        intro v5 w5 hrow5 hgrow5 hnn5
        obtain ⟨a5, c5, ROW5, B5, x0, hv5⟩ := undo_mid AB.out hrow5 hgrow5 LD.out D0.out
        subst hv5
        have NW2 := Lib.hid (newsD OD.out (i + 1) (n - (i + 1)) LEN2.out B5.out)
        clear hrow5 hgrow5 hnn5
        refine hK _ _ ?_
        clear hK K
        try simp only [Act.put, List.setIfInBounds_toArray, List.set_cons_zero, List.set_cons_succ]
        refine wpAny_ready (rs := [16]) (by kernel_rfl) (by simp) (AllReady.cons rfl (fun K hK => ?_) AllReady.nil)
        refine step_append_ownD (by rfl) (.tmp 34) (.tmp 41) 27 (by rfl) wd.heap.size 92 ir _ 6 64 Try.underlying27 hi' hz0 hz1 hz2 rfl (by decide) (.slice a5 i c5) i (rc6 (L.take i)) (by kernel_rfl) ROW5.out ⟨g, (i + 1) * 6, none⟩ (n - (i + 1)) (c - (i + 1)) (rc6 ((L.drop (i + 1)).take (n - (i + 1)))) (by kernel_rfl) HTL2.out NW2.out (rc6_one _) RM.out.2.2.1 RM.out.2.2.2 B5.out.size ?_
        intro v6 w6 hrow6 hgrow6 hnn6
        obtain ⟨a6, c6, FIN, y0, f6, hv6⟩ := undo_end B5.out ROW5.out hrow6 hgrow6 LD.out HB.out HN.out HI.out D0.out
        subst hv6
        clear hrow6 hgrow6 hnn6
        refine hK _ _ ?_
        clear hK K
        try simp only [Act.put, List.setIfInBounds_toArray, List.set_cons_zero, List.set_cons_succ]
        refine wpAny_take (i := 17) (v := ?_) rfl (by kernel_rfl) (by kernel_rfl) (by kernel_rfl) (fun _ _ _ h => h) (Or.inl ⟨by kernel_rfl, ?_⟩) ?_
        rotate_left
        · intro w
          go_simp
          try with_reducible rfl
        simp only [Act.put, List.getElem_toArray, List.getElem_cons_zero, List.getElem_cons_succ, List.setIfInBounds_toArray, List.set_cons_zero, List.set_cons_succ]
        refine wpAny_take (i := 18) (v := ?_) rfl (by kernel_rfl) (by kernel_rfl) (by kernel_rfl) (fun _ _ _ h => h) (Or.inl ⟨by kernel_rfl, ?_⟩) ?_
        rotate_left
        · intro w
          go_simp
          try with_reducible rfl
        simp only [Act.put, List.getElem_toArray, List.getElem_cons_zero, List.getElem_cons_succ, List.setIfInBounds_toArray, List.set_cons_zero, List.set_cons_succ]
        refine wpAny_ready (rs := [19]) (by kernel_rfl) (by simp) (AllReady.cons rfl (fun K hK => ?_) AllReady.nil)
        go_simp
        refine hK _ _ ?_
        clear hK K
        try simp only [Act.put, List.setIfInBounds_toArray, List.set_cons_zero, List.set_cons_succ]
        refine wpAny_done (by kernel_rfl) ?_ _
        go_wp2_with fail
        go_meet
        exact ⟨_, Lib.hid ⟨⟨FIN.out.1.1, FIN.out.1.2.1, by rw [← HZ.out]; exact FIN.out.1.2.2⟩, RD.out.trans FIN.out.2.1, fun p o hp hne => FIN.out.2.2 p o (HWD.out p o hp) hne⟩⟩
      · skip
        go_simp
        refine hK _ _ ?_
        clear hK K
        try simp only [Act.put, List.setIfInBounds_toArray, List.set_cons_zero, List.set_cons_succ]
        refine wpAny_take (i := 7) (v := ?_) rfl (by kernel_rfl) (by kernel_rfl) (by kernel_rfl) (fun _ _ _ h => h) (Or.inl ⟨by kernel_rfl, ?_⟩) ?_
        rotate_left
        · intro w
          go_simp
          try with_reducible rfl
        simp only [Act.put, List.getElem_toArray, List.getElem_cons_zero, List.getElem_cons_succ, List.setIfInBounds_toArray, List.set_cons_zero, List.set_cons_succ]
        refine wpAny_ready (rs := [1]) (by kernel_rfl) (by simp) (AllReady.cons rfl (fun K hK => ?_) AllReady.nil)
        go_simp
        refine hK _ _ ?_
        clear hK K
        try simp only [Act.put, List.setIfInBounds_toArray, List.set_cons_zero, List.set_cons_succ]
        refine wpAny_ready (rs := [8]) (by kernel_rfl) (by simp) (AllReady.cons rfl (fun K hK => ?_) AllReady.nil)
        refine step_append_ownD (by rfl) (.tmp 27) (.tmp 33) 27 (by rfl) wd.heap.size 92 ir _ 6 64 Try.underlying27 hi' hz0 hz1 hz2 rfl (by decide) (.slice (some ⟨wd.heap.size, 0, none⟩) 0 0) 0 [] (by kernel_rfl) E3.out ⟨g, 0, none⟩ i c (rc6 (L.take i)) (by kernel_rfl) HTL.out NW1.out (rc6_one _) RM.out.1 RM.out.2.1 HBA.out ?_
        intro v5 w5 hrow5 hgrow5 hnn5
        obtain ⟨a5, c5, ROW5, B5, x0, hv5⟩ := undo_mid AB.out hrow5 hgrow5 LD.out D0.out
        subst hv5
        have NW2 := Lib.hid (newsD OD.out (i + 1) (n - (i + 1)) LEN2.out B5.out)
        clear hrow5 hgrow5 hnn5
        refine hK _ _ ?_
        clear hK K
        try simp only [Act.put, List.setIfInBounds_toArray, List.set_cons_zero, List.set_cons_succ]
        refine wpAny_ready (rs := [16]) (by kernel_rfl) (by simp) (AllReady.cons rfl (fun K hK => ?_) AllReady.nil)
        refine step_append_ownD (by rfl) (.tmp 34) (.tmp 41) 27 (by rfl) wd.heap.size 92 ir _ 6 64 Try.underlying27 hi' hz0 hz1 hz2 rfl (by decide) (.slice a5 i c5) i (rc6 (L.take i)) (by kernel_rfl) ROW5.out ⟨g, (i + 1) * 6, none⟩ (n - (i + 1)) (c - (i + 1)) (rc6 ((L.drop (i + 1)).take (n - (i + 1)))) (by kernel_rfl) HTL2.out NW2.out (rc6_one _) RM.out.2.2.1 RM.out.2.2.2 B5.out.size ?_
        intro v6 w6 hrow6 hgrow6 hnn6
        obtain ⟨a6, c6, FIN, y0, f6, hv6⟩ := undo_end B5.out ROW5.out hrow6 hgrow6 LD.out HB.out HN.out HI.out D0.out
        subst hv6
        clear hrow6 hgrow6 hnn6
        refine hK _ _ ?_
        clear hK K
        try simp only [Act.put, List.setIfInBounds_toArray, List.set_cons_zero, List.set_cons_succ]
        refine wpAny_take (i := 17) (v := ?_) rfl (by kernel_rfl) (by kernel_rfl) (by kernel_rfl) (fun _ _ _ h => h) (Or.inl ⟨by kernel_rfl, ?_⟩) ?_
        rotate_left
        · intro w
          go_simp
          try with_reducible rfl
        simp only [Act.put, List.getElem_toArray, List.getElem_cons_zero, List.getElem_cons_succ, List.setIfInBounds_toArray, List.set_cons_zero, List.set_cons_succ]
        refine wpAny_take (i := 18) (v := ?_) rfl (by kernel_rfl) (by kernel_rfl) (by kernel_rfl) (fun _ _ _ h => h) (Or.inl ⟨by kernel_rfl, ?_⟩) ?_
        rotate_left
        · intro w
          go_simp
          try with_reducible rfl
        simp only [Act.put, List.getElem_toArray, List.getElem_cons_zero, List.getElem_cons_succ, List.setIfInBounds_toArray, List.set_cons_zero, List.set_cons_succ]
        refine wpAny_ready (rs := [19]) (by kernel_rfl) (by simp) (AllReady.cons rfl (fun K hK => ?_) AllReady.nil)
        go_simp
        refine hK _ _ ?_
        clear hK K
        try simp only [Act.put, List.setIfInBounds_toArray, List.set_cons_zero, List.set_cons_succ]
        refine wpAny_done (by kernel_rfl) ?_ _
        go_wp2_with fail
        go_meet
        exact ⟨_, Lib.hid ⟨⟨FIN.out.1.1, FIN.out.1.2.1, by rw [← HZ.out]; exact FIN.out.1.2.2⟩, RD.out.trans FIN.out.2.1, fun p o hp hne => FIN.out.2.2 p o (HWD.out p o hp) hne⟩⟩
  case rest =>
  obtain ⟨v6, hcut⟩ := hcut
  have HC := Lib.hid hcut.out
  clear hcut
  obtain ⟨wx, rfl⟩ : ∃ x : World, x = wc := ⟨_, rfl⟩
  have P7' := HC.out.2.2 p7 _ P7.out L4.out.2.2
  have Z7' := HC.out.2.2 p4 _ Z7.out L4.out.2.1
  obtain ⟨u0, u1, u2, u3, u4, u5⟩ := ends6 (t := ⟨tid, tm, tn, tc, tp, tw⟩) P7'
  simp only at u0 u1 u2 u3 u4 u5
  have TH : Hid (wx.there p4 0 6) := Lib.hid (fun j hj => ⟨by
    rw [cell_of_row _ _ _ _ _ _ Z7']
    exact Option.isSome_iff_exists.2 ⟨_, Array.getElem?_eq_getElem (by simp; omega)⟩, frozen_of_row _ _ _ _ _ Z7'⟩)
  have ZZ := Lib.hid Z7'
  clear P7' Z7' Z7 P7 D7 H7
  go_wp2_with (refine wpList_store_all (by rfl) 92 (.tmp 4) (.tmp 45) (by rfl) p4 0 [.int .i64 tid, .bool tm, .string tn, .int .i64 tc, .bool tp, .string tw] (by kernel_rfl) (by kernel_rfl) TH.out (by kernel_rfl) (rc6_one [⟨tid, tm, tn, tc, tp, tw⟩]) ?_)
  intro W9 HW9
  have hh9 := heap_setCells_same [.int .i64 tid, .bool tm, .string tn, .int .i64 tc, .bool tp, .string tw] _ 0 _ ZZ.out
  rw [← HW9.out] at hh9
  have hk9 : W9.heap[p4]? = some (.cells (RT.cells ⟨tid, tm, tn, tc, tp, tw⟩).toArray 92 (0, 0)) := hh9
  have far9 : ∀ k, k ≠ p4 → W9.heap[k]? = wx.heap[k]? := fun k hk => by
    rw [HW9.out]
    exact heap_setCells_far hk _ _ _
  have r9 : Rel B (SD m) wx W9 := by
    rw [HW9.out]
    exact rel_lay HB4.out (fun C => .inr ⟨C, _, rfl⟩) _ _ _ _ ZZ.out
  have FIN : Hid (RBagAt W9 B m (L.eraseIdx i) last false ∧ Rel B (SM m) w W9 ∧ RNew w m W9) := Lib.hid (by
    obtain ⟨⟨q1, q2, q3⟩, q4, q5⟩ := HC.out
    refine ⟨⟨q1, v6, (far9 m (fun e => L4.out.2.1 e.symm)).trans q2, own_base (own_same q3 (fun k hk => far9 k (fun e => by have h1 := (q3.lt k hk).1; have h2 := L4.out.1; omega))) HB7.out⟩, rel_SM q1 q2 ((Rel.below B7.out).trans (q4.trans r9)) (fun k hk hkm => (far9 k (fun e => by have h1 := HP4.out; omega)).trans ?_) HMW.out, fun v l c hv g hg => ?_⟩
    · obtain ⟨o, ho⟩ : ∃ o, w.heap[k]? = some o := ⟨_, Array.getElem?_eq_getElem hk⟩
      rw [q5 k o ((B7.out.block k hk).trans ho) hkm, ho]
    · rw [far9 m (fun e => L4.out.2.1 e.symm), q2] at hv
      simp only [Option.some.injEq, Obj.cells.injEq, Array.mk.injEq, List.cons.injEq, and_true, true_and] at hv
      obtain ⟨hv, _⟩ := hv
      subst hv
      exact Nat.le_trans B7.out.size (q3.lt g hg).1)
  obtain ⟨y0, y1, y2, y3, y4, y5⟩ := ends6 (t := ⟨tid, tm, tn, tc, tp, tw⟩) hk9
  simp only at y0 y1 y2 y3 y4 y5
  clear hh9 hk9 far9 r9 HW9 HC ZZ TH u0 u1 u2 u3 u4 u5
  go_wp2_with fail
  refine bodyPost_ret (v := .tuple #[.agg #[.int .i64 tid, .bool tm, .string tn, .int .i64 tc, .bool tp, .string tw], .int .i64 0]) (by simp [results, Try.results38, go_sem, y0, y1, y2, y3, y4, y5]) rfl ?_
  exact ⟨rfl, FIN.out⟩
set_option maxHeartbeats 16000000 in
set_option maxRecDepth 100000 in
theorem rundo_some2 {w : World} {B m : Nat} {L : List RT} {last : Int} (h : RBagAt w B m L last false) (hl : L.length ≤ 256) (hB : B ≤ w.heap.size) (id : Int) (i : Nat) (hp : posR L id false = some i) {g n c : Nat} (hg0 : w.cell? ⟨m, 0, none⟩ = some (.slice (some ⟨g, 0, none⟩) n c)) (hn : L.length = n) (tid : Int) (tm : Bool) (tn : ByteArray) (tc : Int) (tp : Bool) (tw : ByteArray) (ht : L[i]? = some ⟨tid, tm, tn, tc, tp, tw⟩) (hcc : c = i + 1) :
    Calls Try.prog 38 #[.pointer (some ⟨m, 0, none⟩), .int .i64 id] w fun e w' => e = .returned (.tuple #[.agg #[.int .i64 tid, .bool tm, .string tn, .int .i64 tc, .bool tp, .string tw], .int .i64 0]) ∧ RBagAt w' B m (L.eraseIdx i) last false ∧ Rel B (SM m) w w' ∧ RNew w m w' := by
  obtain ⟨ir, hi', hz0, hz1, hz2⟩ := info_parts infoRT
  obtain ⟨hi, hmt⟩ := posR_lt hp
  clear hmt
  have HMW : Hid (∃ C z, w.heap[m]? = some (.cells C 29 z)) := Lib.hid (by
    obtain ⟨_, v, hb, _⟩ := h
    exact ⟨_, _, hb⟩)
  obtain ⟨wa, hwa⟩ : ∃ x, x = w.alloc (.cells #[.int .i64 0, .bool false, .string ⟨#[]⟩, .int .i64 0, .bool false, .string ⟨#[]⟩] 92) := ⟨_, rfl⟩
  have ba := (Below.refl w.heap.size w).alloc (Nat.le_refl _) (.cells #[.int .i64 0, .bool false, .string ⟨#[]⟩, .int .i64 0, .bool false, .string ⟨#[]⟩] 92)
  have z4 := heap_alloc_new w (.cells #[.int .i64 0, .bool false, .string ⟨#[]⟩, .int .i64 0, .bool false, .string ⟨#[]⟩] 92)
  obtain ⟨p4, hp4⟩ : ∃ p, p = w.heap.size := ⟨_, rfl⟩
  rw [← hwa] at ba z4
  rw [← hp4] at z4
  have ha := h.below ba
  have CF0 := rfind_any ha hl id false
  rw [hp, show placeR (some i) = (i : Int) from rfl] at CF0
  have CF := Lib.hid CF0
  obtain ⟨a, c', c0, c1, c2, ho⟩ := ha.cells
  have hgc : some (Value.slice a L.length c') = some (.slice (some ⟨g, 0, none⟩) n c) := by
    rw [← c0, ba.cell (p := ⟨m, 0, none⟩) h.lt, hg0]
  simp only [Option.some.injEq, Value.slice.injEq] at hgc
  obtain ⟨ea, en, ec⟩ := hgc
  subst ea
  have ec := ec.symm
  subst ec
  have hcap0 := own_cap ho
  obtain ⟨g', eg, gx⟩ := rt_at ho i hi
  cases eg
  rw [List.getElem?_eq_getElem hi] at ht
  have ht2 : L[i] = ⟨tid, tm, tn, tc, tp, tw⟩ := by simpa using ht
  rw [ht2] at gx
  have d0 : wa.cell? ⟨g, i * 6, none⟩ = some (.int .i64 tid) := gx 0 _ rfl
  have d1 : wa.cell? ⟨g, i * 6 + 1, none⟩ = some (.bool tm) := gx 1 _ rfl
  have d2 : wa.cell? ⟨g, i * 6 + 2, none⟩ = some (.string tn) := gx 2 _ rfl
  have d3 : wa.cell? ⟨g, i * 6 + 3, none⟩ = some (.int .i64 tc) := gx 3 _ rfl
  have d4 : wa.cell? ⟨g, i * 6 + 4, none⟩ = some (.bool tp) := gx 4 _ rfl
  have d5 : wa.cell? ⟨g, i * 6 + 5, none⟩ = some (.string tw) := gx 5 _ rfl
  have HA := Lib.hid ha
  have BA := Lib.hid ba
  have Z4 := Lib.hid z4
  have HWA := Lib.hid hwa
  have HP4 := Lib.hid hp4
  have HN := Lib.hid hn
  have HB := Lib.hid (Nat.le_trans hB ba.size)
  have HB4 : Hid (B ≤ p4) := Lib.hid (by rw [hp4]; exact hB)
  have HM := Lib.hid h.lt
  rw [hn] at c0 hi hcap0
  have HI := Lib.hid hi
  have HL : Hid (n ≤ 256) := Lib.hid (by rw [← hn]; exact hl)
  have hcT : (c = i + 1) = True := eq_true hcc
  have EMP : Hid (n - (i + 1) = 0) := Lib.hid (by omega)
  clear hcc
  have hin : i ≤ n := Nat.le_of_lt hi
  have hi0 : (0 : Int) ≤ (i : Int) := Int.natCast_nonneg i
  have hi1 : (i : Int) < (n : Int) := Int.ofNat_lt.2 hi
  have hd : decide ((i : Int) < 0) = false := decide_eq_false (by omega)
  have hi2 : ¬ (i : Int) < 0 := by omega
  have TH := Lib.hid (zt6_there wa)
  clear h hl hB hp hg0 hn ht hwa ba z4 hp4 ha CF0 c1 ho gx ht2 hi
  go_enter Try.func38, Try.ntmps38
  go_upto_region 1 with fail
  rw [← HWA.out, ← HP4.out]
  go_wp2_with fail
  refine CF.out.mono ?_
  rintro e w1 ⟨rfl, hw1⟩
  rw [hw1]
  clear hw1 w1
  go_wp2_with (refine wpList_store_all (by rfl) 92 (.tmp 7) (.tmp 25) (by rfl) wa.heap.size 0 [.int .i64 tid, .bool tm, .string tn, .int .i64 tc, .bool tp, .string tw] (by kernel_rfl) (by kernel_rfl) TH.out (by kernel_rfl) (rc6_one [⟨tid, tm, tn, tc, tp, tw⟩]) ?_)
  intro W7 HW7
  have hh7 := heap_setCells_same [.int .i64 tid, .bool tm, .string tn, .int .i64 tc, .bool tp, .string tw] _ 0 _ (heap_alloc_new wa (.cells #[.int .i64 0, .bool false, .string ⟨#[]⟩, .int .i64 0, .bool false, .string ⟨#[]⟩] 92))
  rw [← HW7.out] at hh7
  have b7 : Below wa.heap.size wa W7 := by
    rw [HW7.out]
    exact ((Below.refl wa.heap.size wa).alloc (Nat.le_refl _) _).trans (below_lay (Nat.le_refl _) _ _ _)
  obtain ⟨p7, hp7⟩ : ∃ p, p = wa.heap.size := ⟨_, rfl⟩
  rw [← hp7] at hh7 ⊢
  have P7 : Hid (W7.heap[p7]? = some (.cells (RT.cells ⟨tid, tm, tn, tc, tp, tw⟩).toArray 92 (0, 0))) := Lib.hid hh7
  have H7 := Lib.hid (HA.out.below b7)
  have Z7 := Lib.hid ((b7.block p4 (Array.getElem?_eq_some_iff.1 Z4.out).1).trans Z4.out)
  have D7 : Hid (W7.cell? ⟨m, 0, none⟩ = some (.slice (some ⟨g, 0, none⟩) n c)) := Lib.hid ((b7.cell (p := ⟨m, 0, none⟩) HA.out.lt).trans c0)
  have HB7 := Lib.hid (Nat.le_trans HB.out b7.size)
  have L4 : Hid (p4 < W7.heap.size ∧ p4 ≠ m ∧ p7 ≠ m) := Lib.hid ⟨(Array.getElem?_eq_some_iff.1 Z7.out).1, by have := HM.out; have := HP4.out; omega, by have := HA.out.lt; omega⟩
  have B7 := Lib.hid (BA.out.trans (b7.mono BA.out.size))
  clear hh7 b7 hp7 HW7 TH d0 d1 d2 d3 d4 d5 c0 c2 HA Z4 CF HB
  go_upto_region 7 with fail
  go_cut [] (fun wx => ∃ v6, Hid ((B ≤ m ∧ wx.heap[m]? = some (.cells #[v6, .int .i64 last, .bool false] 29 (0, 0)) ∧ wx.ownsRow W7.heap.size 92 6 v6 (L.eraseIdx i).length (rc6 (L.eraseIdx i))) ∧ Rel B (SD m) W7 wx ∧ ∀ (p : Nat) (o : Obj), W7.heap[p]? = some o → p ≠ m → wx.heap[p]? = some o))
  case first => as_aux_lemma => --ok
    refine wp_region_any (by kernel_rfl) ?_
    change wpAny _ _ _ _ _ _ _ W7.drew
    have LD := Lib.hid (H7.out.below (Below.refl _ W7).drew)
    have RD : Hid (Rel B (SD m) W7 W7.drew) := Lib.hid (Rel.below (Below.refl _ W7).drew)
    have HWD : Hid (∀ (p : Nat) (o : Obj), W7.heap[p]? = some o → W7.drew.heap[p]? = some o) := Lib.hid (fun p o hp => hp)
    have D0 : Hid (W7.drew.cell? ⟨m, 0, none⟩ = some (.slice (some ⟨g, 0, none⟩) n c)) := Lib.hid D7.out
    have HB : Hid (B ≤ W7.drew.heap.size) := Lib.hid HB7.out
    have HZ : Hid (W7.drew.heap.size = W7.heap.size) := Lib.hid rfl
    generalize W7.drew = wd at *
    have d0 : wd.cell? ⟨m, 0, none⟩ = some (.slice (some ⟨g, 0, none⟩) n c) := D0.out
    have AB := Lib.hid ((Below.refl wd.heap.size wd).alloc (Nat.le_refl _) (.cells #[] 92 (0, 0)))
    have E3 := Lib.hid (own_empty (w := wd) (B := wd.heap.size) (t := 92) (e := 92) (z := 6) (Nat.le_refl _) rfl)
    obtain ⟨_, v0, hm0, hrow0⟩ := LD.out
    have hv0 : v0 = .slice (some ⟨g, 0, none⟩) L.length c := by
      have := (cell_of_row wd m 0 _ _ _ hm0).symm.trans D0.out
      rw [HN.out]
      simpa using this
    subst hv0
    have OD := Lib.hid hrow0
    have NW := newsD OD.out 0 i (by rw [HN.out]; have := HI.out; omega) AB.out
    rw [Nat.zero_mul, List.drop_zero] at NW
    have NW1 := Lib.hid NW
    have HTL : Hid ((rc6 (L.take i)).length = i * 6) := Lib.hid (by rw [rc6_len, List.length_take, HN.out]; have := HI.out; omega)
    have HTL2 : Hid ((rc6 ((L.drop (i + 1)).take (n - (i + 1)))).length = (n - (i + 1)) * 6) := Lib.hid (by rw [rc6_len, List.length_take, List.length_drop, HN.out]; omega)
    have LEN2 : Hid (i + 1 + (n - (i + 1)) ≤ L.length) := Lib.hid (by rw [HN.out]; have := HI.out; omega)
    have RM : Hid (0 + i ≤ maxLen ∧ (0 + i) * 64 ≤ 140737488355328 ∧ i + (n - (i + 1)) ≤ maxLen ∧ (i + (n - (i + 1))) * 64 ≤ 140737488355328) := Lib.hid (roomU HI.out HL.out)
    have HBA : Hid (wd.heap.size ≤ (wd.alloc (.cells #[] 92 (0, 0))).heap.size) := Lib.hid AB.out.size
    have e0 : (wd.alloc (.cells #[] 92 (0, 0))).cell? ⟨m, 0, none⟩ = some (.slice (some ⟨g, 0, none⟩) n c) := (AB.out.cell (p := ⟨m, 0, none⟩) LD.out.lt).trans d0
    have bld := build0D wd
    have hnc : n ≤ c := hcap0
    have hic : i ≤ c := Nat.le_trans hin hnc
    obtain ⟨k1, k2, k3, k4, k5, k6⟩ := idxU HI.out HL.out
    clear NW hrow0 hm0 H7 P7 Z7 D7 HB7 hcap0 hi2 hd
    refine wpAny_take (i := 0) (v := ?_) rfl (by kernel_rfl) (by kernel_rfl) (by kernel_rfl) (fun _ _ _ h => h) (Or.inl ⟨by kernel_rfl, ?_⟩) ?_
    rotate_left
    · intro w
      go_simp
      try with_reducible rfl
    simp only [Act.put, List.getElem_toArray, List.getElem_cons_zero, List.getElem_cons_succ, List.setIfInBounds_toArray, List.set_cons_zero, List.set_cons_succ]
    refine wpAny_take (i := 2) (v := ?_) rfl (by kernel_rfl) (by kernel_rfl) (by kernel_rfl) (fun _ _ _ h => h) (Or.inl ⟨by kernel_rfl, ?_⟩) ?_
    rotate_left
    · intro w
      go_simp
      try with_reducible rfl
    simp only [Act.put, List.getElem_toArray, List.getElem_cons_zero, List.getElem_cons_succ, List.setIfInBounds_toArray, List.set_cons_zero, List.set_cons_succ]
    refine wpAny_take (i := 3) (v := ?_) rfl (by kernel_rfl) (by kernel_rfl) (by kernel_rfl) (fun _ _ _ h => h) (Or.inl ⟨by kernel_rfl, ?_⟩) ?_
    rotate_left
    · intro w
      go_simp
      try with_reducible rfl
    simp only [Act.put, List.getElem_toArray, List.getElem_cons_zero, List.getElem_cons_succ, List.setIfInBounds_toArray, List.set_cons_zero, List.set_cons_succ]
    refine wpAny_take (i := 4) (v := ?_) rfl (by kernel_rfl) (by kernel_rfl) (by kernel_rfl) (fun _ _ _ h => h) (Or.inl ⟨by kernel_rfl, ?_⟩) ?_
    rotate_left
    · intro w
      go_simp
      try with_reducible rfl
    simp only [Act.put, List.getElem_toArray, List.getElem_cons_zero, List.getElem_cons_succ, List.setIfInBounds_toArray, List.set_cons_zero, List.set_cons_succ]
    refine wpAny_take (i := 6) (v := ?_) rfl (by kernel_rfl) (by kernel_rfl) (by kernel_rfl) (fun _ _ _ h => h) (Or.inl ⟨by kernel_rfl, ?_⟩) ?_
    rotate_left
    · intro w
      go_simp
      try with_reducible rfl
    simp only [Act.put, List.getElem_toArray, List.getElem_cons_zero, List.getElem_cons_succ, List.setIfInBounds_toArray, List.set_cons_zero, List.set_cons_succ]
    refine wpAny_take (i := 9) (v := ?_) rfl (by kernel_rfl) (by kernel_rfl) (by kernel_rfl) (fun _ _ _ h => h) (Or.inl ⟨by kernel_rfl, ?_⟩) ?_
    rotate_left
    · intro w
      go_simp
      try with_reducible rfl
    simp only [Act.put, List.getElem_toArray, List.getElem_cons_zero, List.getElem_cons_succ, List.setIfInBounds_toArray, List.set_cons_zero, List.set_cons_succ]
    refine wpAny_take (i := 10) (v := ?_) rfl (by kernel_rfl) (by kernel_rfl) (by kernel_rfl) (fun _ _ _ h => h) (Or.inl ⟨by kernel_rfl, ?_⟩) ?_
    rotate_left
    · intro w
      go_simp
      try with_reducible rfl
    simp only [Act.put, List.getElem_toArray, List.getElem_cons_zero, List.getElem_cons_succ, List.setIfInBounds_toArray, List.set_cons_zero, List.set_cons_succ]
    refine wpAny_take (i := 11) (v := ?_) rfl (by kernel_rfl) (by kernel_rfl) (by kernel_rfl) (fun _ _ _ h => h) (Or.inl ⟨by kernel_rfl, ?_⟩) ?_
    rotate_left
    · intro w
      go_simp
      try with_reducible rfl
    simp only [Act.put, List.getElem_toArray, List.getElem_cons_zero, List.getElem_cons_succ, List.setIfInBounds_toArray, List.set_cons_zero, List.set_cons_succ]
    refine wpAny_take (i := 13) (v := ?_) rfl (by kernel_rfl) (by kernel_rfl) (by kernel_rfl) (fun _ _ _ h => h) (Or.inl ⟨by kernel_rfl, ?_⟩) ?_
    rotate_left
    · intro w
      go_simp
      try with_reducible rfl
    simp only [Act.put, List.getElem_toArray, List.getElem_cons_zero, List.getElem_cons_succ, List.setIfInBounds_toArray, List.set_cons_zero, List.set_cons_succ]
    refine wpAny_take (i := 14) (v := ?_) rfl (by kernel_rfl) (by kernel_rfl) (by kernel_rfl) (fun _ _ _ h => h) (Or.inl ⟨by kernel_rfl, ?_⟩) ?_
    rotate_left
    · intro w
      go_simp
      try with_reducible rfl
    simp only [Act.put, List.getElem_toArray, List.getElem_cons_zero, List.getElem_cons_succ, List.setIfInBounds_toArray, List.set_cons_zero, List.set_cons_succ]
    refine wpAny_ready (rs := [1, 5, 12]) (by kernel_rfl) (by simp) (AllReady.cons rfl (fun K hK => ?_) (AllReady.cons rfl (fun K hK => ?_) (AllReady.cons rfl (fun K hK => ?_) AllReady.nil)))
    · skip
      go_simp
      refine hK _ _ ?_
      clear hK K
      try simp only [Act.put, List.setIfInBounds_toArray, List.set_cons_zero, List.set_cons_succ]
      refine wpAny_ready (rs := [5, 12]) (by kernel_rfl) (by simp) (AllReady.cons rfl (fun K hK => ?_) (AllReady.cons rfl (fun K hK => ?_) AllReady.nil))
      · skip
        go_simp
        refine hK _ _ ?_
        clear hK K
        try simp only [Act.put, List.setIfInBounds_toArray, List.set_cons_zero, List.set_cons_succ]
        refine wpAny_take (i := 7) (v := ?_) rfl (by kernel_rfl) (by kernel_rfl) (by kernel_rfl) (fun _ _ _ h => h) (Or.inl ⟨by kernel_rfl, ?_⟩) ?_
        rotate_left
        · intro w
          go_simp
          try with_reducible rfl
        simp only [Act.put, List.getElem_toArray, List.getElem_cons_zero, List.getElem_cons_succ, List.setIfInBounds_toArray, List.set_cons_zero, List.set_cons_succ]
        refine wpAny_ready (rs := [8, 12]) (by kernel_rfl) (by simp) (AllReady.cons rfl (fun K hK => ?_) (AllReady.cons rfl (fun K hK => ?_) AllReady.nil))
        · skip
          refine step_append_ownD (by rfl) (.tmp 27) (.tmp 33) 27 (by rfl) wd.heap.size 92 ir _ 6 64 Try.underlying27 hi' hz0 hz1 hz2 rfl (by decide) (.slice (some ⟨wd.heap.size, 0, none⟩) 0 0) 0 [] (by kernel_rfl) E3.out ⟨g, 0, none⟩ i c (rc6 (L.take i)) (by kernel_rfl) HTL.out NW1.out (rc6_one _) RM.out.1 RM.out.2.1 HBA.out ?_
          intro v5 w5 hrow5 hgrow5 hnn5
          obtain ⟨a5, c5, ROW5, B5, x0, hv5⟩ := undo_mid AB.out hrow5 hgrow5 LD.out D0.out
          subst hv5
          have NW2 := Lib.hid (newsD OD.out (i + 1) (n - (i + 1)) LEN2.out B5.out)
          clear hrow5 hgrow5 hnn5
          refine hK _ _ ?_
          clear hK K
          try simp only [Act.put, List.setIfInBounds_toArray, List.set_cons_zero, List.set_cons_succ]
          refine wpAny_ready (rs := [12]) (by kernel_rfl) (by simp) (AllReady.cons rfl (fun K hK => ?_) AllReady.nil)
          go_simp
          refine hK _ _ ?_
          clear hK K
          try simp only [Act.put, List.setIfInBounds_toArray, List.set_cons_zero, List.set_cons_succ]
          refine wpAny_take (i := 15) (v := ?_) rfl (by kernel_rfl) (by kernel_rfl) (by kernel_rfl) (fun _ _ _ h => h) (Or.inl ⟨by kernel_rfl, ?_⟩) ?_
          rotate_left
          · intro w
            go_simp
            try with_reducible rfl
          simp only [Act.put, List.getElem_toArray, List.getElem_cons_zero, List.getElem_cons_succ, List.setIfInBounds_toArray, List.set_cons_zero, List.set_cons_succ]
          refine wpAny_ready (rs := [16]) (by kernel_rfl) (by simp) (AllReady.cons rfl (fun K hK => ?_) AllReady.nil)
          refine step_append_ownD (by rfl) (.tmp 34) (.tmp 41) 27 (by rfl) wd.heap.size 92 ir _ 6 64 Try.underlying27 hi' hz0 hz1 hz2 rfl (by decide) (.slice a5 i c5) i (rc6 (L.take i)) (by kernel_rfl) ROW5.out ⟨g, 0, none⟩ (n - (i + 1)) (c - (i + 1)) (rc6 ((L.drop (i + 1)).take (n - (i + 1)))) (by kernel_rfl) HTL2.out (news_none EMP.out) (rc6_one _) RM.out.2.2.1 RM.out.2.2.2 B5.out.size ?_
          intro v6 w6 hrow6 hgrow6 hnn6
          obtain ⟨a6, c6, FIN, y0, f6, hv6⟩ := undo_end B5.out ROW5.out hrow6 hgrow6 LD.out HB.out HN.out HI.out D0.out
          subst hv6
          clear hrow6 hgrow6 hnn6
          refine hK _ _ ?_
          clear hK K
          try simp only [Act.put, List.setIfInBounds_toArray, List.set_cons_zero, List.set_cons_succ]
          refine wpAny_take (i := 17) (v := ?_) rfl (by kernel_rfl) (by kernel_rfl) (by kernel_rfl) (fun _ _ _ h => h) (Or.inl ⟨by kernel_rfl, ?_⟩) ?_
          rotate_left
          · intro w
            go_simp
            try with_reducible rfl
          simp only [Act.put, List.getElem_toArray, List.getElem_cons_zero, List.getElem_cons_succ, List.setIfInBounds_toArray, List.set_cons_zero, List.set_cons_succ]
          refine wpAny_take (i := 18) (v := ?_) rfl (by kernel_rfl) (by kernel_rfl) (by kernel_rfl) (fun _ _ _ h => h) (Or.inl ⟨by kernel_rfl, ?_⟩) ?_
          rotate_left
          · intro w
            go_simp
            try with_reducible rfl
          simp only [Act.put, List.getElem_toArray, List.getElem_cons_zero, List.getElem_cons_succ, List.setIfInBounds_toArray, List.set_cons_zero, List.set_cons_succ]
          refine wpAny_ready (rs := [19]) (by kernel_rfl) (by simp) (AllReady.cons rfl (fun K hK => ?_) AllReady.nil)
          go_simp
          refine hK _ _ ?_
          clear hK K
          try simp only [Act.put, List.setIfInBounds_toArray, List.set_cons_zero, List.set_cons_succ]
          refine wpAny_done (by kernel_rfl) ?_ _
          go_wp2_with fail
          go_meet
          exact ⟨_, Lib.hid ⟨⟨FIN.out.1.1, FIN.out.1.2.1, by rw [← HZ.out]; exact FIN.out.1.2.2⟩, RD.out.trans FIN.out.2.1, fun p o hp hne => FIN.out.2.2 p o (HWD.out p o hp) hne⟩⟩
        · skip
          go_simp
          refine hK _ _ ?_
          clear hK K
          try simp only [Act.put, List.setIfInBounds_toArray, List.set_cons_zero, List.set_cons_succ]
          refine wpAny_take (i := 15) (v := ?_) rfl (by kernel_rfl) (by kernel_rfl) (by kernel_rfl) (fun _ _ _ h => h) (Or.inl ⟨by kernel_rfl, ?_⟩) ?_
          rotate_left
          · intro w
            go_simp
            try with_reducible rfl
          simp only [Act.put, List.getElem_toArray, List.getElem_cons_zero, List.getElem_cons_succ, List.setIfInBounds_toArray, List.set_cons_zero, List.set_cons_succ]
          refine wpAny_ready (rs := [8]) (by kernel_rfl) (by simp) (AllReady.cons rfl (fun K hK => ?_) AllReady.nil)
          refine step_append_ownD (by rfl) (.tmp 27) (.tmp 33) 27 (by rfl) wd.heap.size 92 ir _ 6 64 Try.underlying27 hi' hz0 hz1 hz2 rfl (by decide) (.slice (some ⟨wd.heap.size, 0, none⟩) 0 0) 0 [] (by kernel_rfl) E3.out ⟨g, 0, none⟩ i c (rc6 (L.take i)) (by kernel_rfl) HTL.out NW1.out (rc6_one _) RM.out.1 RM.out.2.1 HBA.out ?_
          intro v5 w5 hrow5 hgrow5 hnn5
          obtain ⟨a5, c5, ROW5, B5, x0, hv5⟩ := undo_mid AB.out hrow5 hgrow5 LD.out D0.out
          subst hv5
          have NW2 := Lib.hid (newsD OD.out (i + 1) (n - (i + 1)) LEN2.out B5.out)
          clear hrow5 hgrow5 hnn5
          refine hK _ _ ?_
          clear hK K
          try simp only [Act.put, List.setIfInBounds_toArray, List.set_cons_zero, List.set_cons_succ]
          refine wpAny_ready (rs := [16]) (by kernel_rfl) (by simp) (AllReady.cons rfl (fun K hK => ?_) AllReady.nil)
          refine step_append_ownD (by rfl) (.tmp 34) (.tmp 41) 27 (by rfl) wd.heap.size 92 ir _ 6 64 Try.underlying27 hi' hz0 hz1 hz2 rfl (by decide) (.slice a5 i c5) i (rc6 (L.take i)) (by kernel_rfl) ROW5.out ⟨g, 0, none⟩ (n - (i + 1)) (c - (i + 1)) (rc6 ((L.drop (i + 1)).take (n - (i + 1)))) (by kernel_rfl) HTL2.out (news_none EMP.out) (rc6_one _) RM.out.2.2.1 RM.out.2.2.2 B5.out.size ?_
          intro v6 w6 hrow6 hgrow6 hnn6
          obtain ⟨a6, c6, FIN, y0, f6, hv6⟩ := undo_end B5.out ROW5.out hrow6 hgrow6 LD.out HB.out HN.out HI.out D0.out
          subst hv6
          clear hrow6 hgrow6 hnn6
          refine hK _ _ ?_
          clear hK K
          try simp only [Act.put, List.setIfInBounds_toArray, List.set_cons_zero, List.set_cons_succ]
          refine wpAny_take (i := 17) (v := ?_) rfl (by kernel_rfl) (by kernel_rfl) (by kernel_rfl) (fun _ _ _ h => h) (Or.inl ⟨by kernel_rfl, ?_⟩) ?_
          rotate_left
          · intro w
            go_simp
            try with_reducible rfl
          simp only [Act.put, List.getElem_toArray, List.getElem_cons_zero, List.getElem_cons_succ, List.setIfInBounds_toArray, List.set_cons_zero, List.set_cons_succ]
          refine wpAny_take (i := 18) (v := ?_) rfl (by kernel_rfl) (by kernel_rfl) (by kernel_rfl) (fun _ _ _ h => h) (Or.inl ⟨by kernel_rfl, ?_⟩) ?_
          rotate_left
          · intro w
            go_simp
            try with_reducible rfl
          simp only [Act.put, List.getElem_toArray, List.getElem_cons_zero, List.getElem_cons_succ, List.setIfInBounds_toArray, List.set_cons_zero, List.set_cons_succ]
          refine wpAny_ready (rs := [19]) (by kernel_rfl) (by simp) (AllReady.cons rfl (fun K hK => ?_) AllReady.nil)
          go_simp
          refine hK _ _ ?_
          clear hK K
          try simp only [Act.put, List.setIfInBounds_toArray, List.set_cons_zero, List.set_cons_succ]
          refine wpAny_done (by kernel_rfl) ?_ _
          go_wp2_with fail
          go_meet
          exact ⟨_, Lib.hid ⟨⟨FIN.out.1.1, FIN.out.1.2.1, by rw [← HZ.out]; exact FIN.out.1.2.2⟩, RD.out.trans FIN.out.2.1, fun p o hp hne => FIN.out.2.2 p o (HWD.out p o hp) hne⟩⟩
      · skip
        go_simp
        refine hK _ _ ?_
        clear hK K
        try simp only [Act.put, List.setIfInBounds_toArray, List.set_cons_zero, List.set_cons_succ]
        refine wpAny_take (i := 15) (v := ?_) rfl (by kernel_rfl) (by kernel_rfl) (by kernel_rfl) (fun _ _ _ h => h) (Or.inl ⟨by kernel_rfl, ?_⟩) ?_
        rotate_left
        · intro w
          go_simp
          try with_reducible rfl
        simp only [Act.put, List.getElem_toArray, List.getElem_cons_zero, List.getElem_cons_succ, List.setIfInBounds_toArray, List.set_cons_zero, List.set_cons_succ]
        refine wpAny_ready (rs := [5]) (by kernel_rfl) (by simp) (AllReady.cons rfl (fun K hK => ?_) AllReady.nil)
        go_simp
        refine hK _ _ ?_
        clear hK K
        try simp only [Act.put, List.setIfInBounds_toArray, List.set_cons_zero, List.set_cons_succ]
        refine wpAny_take (i := 7) (v := ?_) rfl (by kernel_rfl) (by kernel_rfl) (by kernel_rfl) (fun _ _ _ h => h) (Or.inl ⟨by kernel_rfl, ?_⟩) ?_
        rotate_left
        · intro w
          go_simp
          try with_reducible rfl
        simp only [Act.put, List.getElem_toArray, List.getElem_cons_zero, List.getElem_cons_succ, List.setIfInBounds_toArray, List.set_cons_zero, List.set_cons_succ]
        refine wpAny_ready (rs := [8]) (by kernel_rfl) (by simp) (AllReady.cons rfl (fun K hK => ?_) AllReady.nil)
        refine step_append_ownD (by rfl) (.tmp 27) (.tmp 33) 27 (by rfl) wd.heap.size 92 ir _ 6 64 Try.underlying27 hi' hz0 hz1 hz2 rfl (by decide) (.slice (some ⟨wd.heap.size, 0, none⟩) 0 0) 0 [] (by kernel_rfl) E3.out ⟨g, 0, none⟩ i c (rc6 (L.take i)) (by kernel_rfl) HTL.out NW1.out (rc6_one _) RM.out.1 RM.out.2.1 HBA.out ?_
        intro v5 w5 hrow5 hgrow5 hnn5
        obtain ⟨a5, c5, ROW5, B5, x0, hv5⟩ := undo_mid AB.out hrow5 hgrow5 LD.out D0.out
        subst hv5
        have NW2 := Lib.hid (newsD OD.out (i + 1) (n - (i + 1)) LEN2.out B5.out)
        clear hrow5 hgrow5 hnn5
        refine hK _ _ ?_
        clear hK K
        try simp only [Act.put, List.setIfInBounds_toArray, List.set_cons_zero, List.set_cons_succ]
        refine wpAny_ready (rs := [16]) (by kernel_rfl) (by simp) (AllReady.cons rfl (fun K hK => ?_) AllReady.nil)
        refine step_append_ownD (by rfl) (.tmp 34) (.tmp 41) 27 (by rfl) wd.heap.size 92 ir _ 6 64 Try.underlying27 hi' hz0 hz1 hz2 rfl (by decide) (.slice a5 i c5) i (rc6 (L.take i)) (by kernel_rfl) ROW5.out ⟨g, 0, none⟩ (n - (i + 1)) (c - (i + 1)) (rc6 ((L.drop (i + 1)).take (n - (i + 1)))) (by kernel_rfl) HTL2.out (news_none EMP.out) (rc6_one _) RM.out.2.2.1 RM.out.2.2.2 B5.out.size ?_
        intro v6 w6 hrow6 hgrow6 hnn6
        obtain ⟨a6, c6, FIN, y0, f6, hv6⟩ := undo_end B5.out ROW5.out hrow6 hgrow6 LD.out HB.out HN.out HI.out D0.out
        subst hv6
        clear hrow6 hgrow6 hnn6
        refine hK _ _ ?_
        clear hK K
        try simp only [Act.put, List.setIfInBounds_toArray, List.set_cons_zero, List.set_cons_succ]
        refine wpAny_take (i := 17) (v := ?_) rfl (by kernel_rfl) (by kernel_rfl) (by kernel_rfl) (fun _ _ _ h => h) (Or.inl ⟨by kernel_rfl, ?_⟩) ?_
        rotate_left
        · intro w
          go_simp
          try with_reducible rfl
        simp only [Act.put, List.getElem_toArray, List.getElem_cons_zero, List.getElem_cons_succ, List.setIfInBounds_toArray, List.set_cons_zero, List.set_cons_succ]
        refine wpAny_take (i := 18) (v := ?_) rfl (by kernel_rfl) (by kernel_rfl) (by kernel_rfl) (fun _ _ _ h => h) (Or.inl ⟨by kernel_rfl, ?_⟩) ?_
        rotate_left
        · intro w
          go_simp
          try with_reducible rfl
        simp only [Act.put, List.getElem_toArray, List.getElem_cons_zero, List.getElem_cons_succ, List.setIfInBounds_toArray, List.set_cons_zero, List.set_cons_succ]
        refine wpAny_ready (rs := [19]) (by kernel_rfl) (by simp) (AllReady.cons rfl (fun K hK => ?_) AllReady.nil)
        go_simp
        refine hK _ _ ?_
        clear hK K
        try simp only [Act.put, List.setIfInBounds_toArray, List.set_cons_zero, List.set_cons_succ]
        refine wpAny_done (by kernel_rfl) ?_ _
        go_wp2_with fail
        go_meet
        exact ⟨_, Lib.hid ⟨⟨FIN.out.1.1, FIN.out.1.2.1, by rw [← HZ.out]; exact FIN.out.1.2.2⟩, RD.out.trans FIN.out.2.1, fun p o hp hne => FIN.out.2.2 p o (HWD.out p o hp) hne⟩⟩
    · skip
      go_simp
      refine hK _ _ ?_
      clear hK K
      try simp only [Act.put, List.setIfInBounds_toArray, List.set_cons_zero, List.set_cons_succ]
      refine wpAny_take (i := 7) (v := ?_) rfl (by kernel_rfl) (by kernel_rfl) (by kernel_rfl) (fun _ _ _ h => h) (Or.inl ⟨by kernel_rfl, ?_⟩) ?_
      rotate_left
      · intro w
        go_simp
        try with_reducible rfl
      simp only [Act.put, List.getElem_toArray, List.getElem_cons_zero, List.getElem_cons_succ, List.setIfInBounds_toArray, List.set_cons_zero, List.set_cons_succ]
      refine wpAny_ready (rs := [1, 12]) (by kernel_rfl) (by simp) (AllReady.cons rfl (fun K hK => ?_) (AllReady.cons rfl (fun K hK => ?_) AllReady.nil))
      · skip
        go_simp
        refine hK _ _ ?_
        clear hK K
        try simp only [Act.put, List.setIfInBounds_toArray, List.set_cons_zero, List.set_cons_succ]
        refine wpAny_ready (rs := [8, 12]) (by kernel_rfl) (by simp) (AllReady.cons rfl (fun K hK => ?_) (AllReady.cons rfl (fun K hK => ?_) AllReady.nil))
        · skip
          refine step_append_ownD (by rfl) (.tmp 27) (.tmp 33) 27 (by rfl) wd.heap.size 92 ir _ 6 64 Try.underlying27 hi' hz0 hz1 hz2 rfl (by decide) (.slice (some ⟨wd.heap.size, 0, none⟩) 0 0) 0 [] (by kernel_rfl) E3.out ⟨g, 0, none⟩ i c (rc6 (L.take i)) (by kernel_rfl) HTL.out NW1.out (rc6_one _) RM.out.1 RM.out.2.1 HBA.out ?_
          intro v5 w5 hrow5 hgrow5 hnn5
          obtain ⟨a5, c5, ROW5, B5, x0, hv5⟩ := undo_mid AB.out hrow5 hgrow5 LD.out D0.out
          subst hv5
          have NW2 := Lib.hid (newsD OD.out (i + 1) (n - (i + 1)) LEN2.out B5.out)
          clear hrow5 hgrow5 hnn5
          refine hK _ _ ?_
          clear hK K
          try simp only [Act.put, List.setIfInBounds_toArray, List.set_cons_zero, List.set_cons_succ]
          refine wpAny_ready (rs := [12]) (by kernel_rfl) (by simp) (AllReady.cons rfl (fun K hK => ?_) AllReady.nil)
          go_simp
          refine hK _ _ ?_
          clear hK K
          try simp only [Act.put, List.setIfInBounds_toArray, List.set_cons_zero, List.set_cons_succ]
          refine wpAny_take (i := 15) (v := ?_) rfl (by kernel_rfl) (by kernel_rfl) (by kernel_rfl) (fun _ _ _ h => h) (Or.inl ⟨by kernel_rfl, ?_⟩) ?_
          rotate_left
          · intro w
            go_simp
            try with_reducible rfl
          simp only [Act.put, List.getElem_toArray, List.getElem_cons_zero, List.getElem_cons_succ, List.setIfInBounds_toArray, List.set_cons_zero, List.set_cons_succ]
          refine wpAny_ready (rs := [16]) (by kernel_rfl) (by simp) (AllReady.cons rfl (fun K hK => ?_) AllReady.nil)
          refine step_append_ownD (by rfl) (.tmp 34) (.tmp 41) 27 (by rfl) wd.heap.size 92 ir _ 6 64 Try.underlying27 hi' hz0 hz1 hz2 rfl (by decide) (.slice a5 i c5) i (rc6 (L.take i)) (by kernel_rfl) ROW5.out ⟨g, 0, none⟩ (n - (i + 1)) (c - (i + 1)) (rc6 ((L.drop (i + 1)).take (n - (i + 1)))) (by kernel_rfl) HTL2.out (news_none EMP.out) (rc6_one _) RM.out.2.2.1 RM.out.2.2.2 B5.out.size ?_
          intro v6 w6 hrow6 hgrow6 hnn6
          obtain ⟨a6, c6, FIN, y0, f6, hv6⟩ := undo_end B5.out ROW5.out hrow6 hgrow6 LD.out HB.out HN.out HI.out D0.out
          subst hv6
          clear hrow6 hgrow6 hnn6
          refine hK _ _ ?_
          clear hK K
          try simp only [Act.put, List.setIfInBounds_toArray, List.set_cons_zero, List.set_cons_succ]
          refine wpAny_take (i := 17) (v := ?_) rfl (by kernel_rfl) (by kernel_rfl) (by kernel_rfl) (fun _ _ _ h => h) (Or.inl ⟨by kernel_rfl, ?_⟩) ?_
          rotate_left
          · intro w
            go_simp
            try with_reducible rfl
          simp only [Act.put, List.getElem_toArray, List.getElem_cons_zero, List.getElem_cons_succ, List.setIfInBounds_toArray, List.set_cons_zero, List.set_cons_succ]
          refine wpAny_take (i := 18) (v := ?_) rfl (by kernel_rfl) (by kernel_rfl) (by kernel_rfl) (fun _ _ _ h => h) (Or.inl ⟨by kernel_rfl, ?_⟩) ?_
          rotate_left
          · intro w
            go_simp
            try with_reducible rfl
          simp only [Act.put, List.getElem_toArray, List.getElem_cons_zero, List.getElem_cons_succ, List.setIfInBounds_toArray, List.set_cons_zero, List.set_cons_succ]
          refine wpAny_ready (rs := [19]) (by kernel_rfl) (by simp) (AllReady.cons rfl (fun K hK => ?_) AllReady.nil)
          go_simp
          refine hK _ _ ?_
          clear hK K
          try simp only [Act.put, List.setIfInBounds_toArray, List.set_cons_zero, List.set_cons_succ]
          refine wpAny_done (by kernel_rfl) ?_ _
          go_wp2_with fail
          go_meet
          exact ⟨_, Lib.hid ⟨⟨FIN.out.1.1, FIN.out.1.2.1, by rw [← HZ.out]; exact FIN.out.1.2.2⟩, RD.out.trans FIN.out.2.1, fun p o hp hne => FIN.out.2.2 p o (HWD.out p o hp) hne⟩⟩
        · skip
          go_simp
          refine hK _ _ ?_
          clear hK K
          try simp only [Act.put, List.setIfInBounds_toArray, List.set_cons_zero, List.set_cons_succ]
          refine wpAny_take (i := 15) (v := ?_) rfl (by kernel_rfl) (by kernel_rfl) (by kernel_rfl) (fun _ _ _ h => h) (Or.inl ⟨by kernel_rfl, ?_⟩) ?_
          rotate_left
          · intro w
            go_simp
            try with_reducible rfl
          simp only [Act.put, List.getElem_toArray, List.getElem_cons_zero, List.getElem_cons_succ, List.setIfInBounds_toArray, List.set_cons_zero, List.set_cons_succ]
          refine wpAny_ready (rs := [8]) (by kernel_rfl) (by simp) (AllReady.cons rfl (fun K hK => ?_) AllReady.nil)
          refine step_append_ownD (by rfl) (.tmp 27) (.tmp 33) 27 (by rfl) wd.heap.size 92 ir _ 6 64 Try.underlying27 hi' hz0 hz1 hz2 rfl (by decide) (.slice (some ⟨wd.heap.size, 0, none⟩) 0 0) 0 [] (by kernel_rfl) E3.out ⟨g, 0, none⟩ i c (rc6 (L.take i)) (by kernel_rfl) HTL.out NW1.out (rc6_one _) RM.out.1 RM.out.2.1 HBA.out ?_
          intro v5 w5 hrow5 hgrow5 hnn5
          obtain ⟨a5, c5, ROW5, B5, x0, hv5⟩ := undo_mid AB.out hrow5 hgrow5 LD.out D0.out
          subst hv5
          have NW2 := Lib.hid (newsD OD.out (i + 1) (n - (i + 1)) LEN2.out B5.out)
          clear hrow5 hgrow5 hnn5
          refine hK _ _ ?_
          clear hK K
          try simp only [Act.put, List.setIfInBounds_toArray, List.set_cons_zero, List.set_cons_succ]
          refine wpAny_ready (rs := [16]) (by kernel_rfl) (by simp) (AllReady.cons rfl (fun K hK => ?_) AllReady.nil)
          refine step_append_ownD (by rfl) (.tmp 34) (.tmp 41) 27 (by rfl) wd.heap.size 92 ir _ 6 64 Try.underlying27 hi' hz0 hz1 hz2 rfl (by decide) (.slice a5 i c5) i (rc6 (L.take i)) (by kernel_rfl) ROW5.out ⟨g, 0, none⟩ (n - (i + 1)) (c - (i + 1)) (rc6 ((L.drop (i + 1)).take (n - (i + 1)))) (by kernel_rfl) HTL2.out (news_none EMP.out) (rc6_one _) RM.out.2.2.1 RM.out.2.2.2 B5.out.size ?_
          intro v6 w6 hrow6 hgrow6 hnn6
          obtain ⟨a6, c6, FIN, y0, f6, hv6⟩ := undo_end B5.out ROW5.out hrow6 hgrow6 LD.out HB.out HN.out HI.out D0.out
          subst hv6
          clear hrow6 hgrow6 hnn6
          refine hK _ _ ?_
          clear hK K
          try simp only [Act.put, List.setIfInBounds_toArray, List.set_cons_zero, List.set_cons_succ]
          refine wpAny_take (i := 17) (v := ?_) rfl (by kernel_rfl) (by kernel_rfl) (by kernel_rfl) (fun _ _ _ h => h) (Or.inl ⟨by kernel_rfl, ?_⟩) ?_
          rotate_left
          · intro w
            go_simp
            try with_reducible rfl
          simp only [Act.put, List.getElem_toArray, List.getElem_cons_zero, List.getElem_cons_succ, List.setIfInBounds_toArray, List.set_cons_zero, List.set_cons_succ]
          refine wpAny_take (i := 18) (v := ?_) rfl (by kernel_rfl) (by kernel_rfl) (by kernel_rfl) (fun _ _ _ h => h) (Or.inl ⟨by kernel_rfl, ?_⟩) ?_
          rotate_left
          · intro w
            go_simp
            try with_reducible rfl
          simp only [Act.put, List.getElem_toArray, List.getElem_cons_zero, List.getElem_cons_succ, List.setIfInBounds_toArray, List.set_cons_zero, List.set_cons_succ]
          refine wpAny_ready (rs := [19]) (by kernel_rfl) (by simp) (AllReady.cons rfl (fun K hK => ?_) AllReady.nil)
          go_simp
          refine hK _ _ ?_
          clear hK K
          try simp only [Act.put, List.setIfInBounds_toArray, List.set_cons_zero, List.set_cons_succ]
          refine wpAny_done (by kernel_rfl) ?_ _
          go_wp2_with fail
          go_meet
          exact ⟨_, Lib.hid ⟨⟨FIN.out.1.1, FIN.out.1.2.1, by rw [← HZ.out]; exact FIN.out.1.2.2⟩, RD.out.trans FIN.out.2.1, fun p o hp hne => FIN.out.2.2 p o (HWD.out p o hp) hne⟩⟩
      · skip
        go_simp
        refine hK _ _ ?_
        clear hK K
        try simp only [Act.put, List.setIfInBounds_toArray, List.set_cons_zero, List.set_cons_succ]
        refine wpAny_take (i := 15) (v := ?_) rfl (by kernel_rfl) (by kernel_rfl) (by kernel_rfl) (fun _ _ _ h => h) (Or.inl ⟨by kernel_rfl, ?_⟩) ?_
        rotate_left
        · intro w
          go_simp
          try with_reducible rfl
        simp only [Act.put, List.getElem_toArray, List.getElem_cons_zero, List.getElem_cons_succ, List.setIfInBounds_toArray, List.set_cons_zero, List.set_cons_succ]
        refine wpAny_ready (rs := [1]) (by kernel_rfl) (by simp) (AllReady.cons rfl (fun K hK => ?_) AllReady.nil)
        go_simp
        refine hK _ _ ?_
        clear hK K
        try simp only [Act.put, List.setIfInBounds_toArray, List.set_cons_zero, List.set_cons_succ]
        refine wpAny_ready (rs := [8]) (by kernel_rfl) (by simp) (AllReady.cons rfl (fun K hK => ?_) AllReady.nil)
        refine step_append_ownD (by rfl) (.tmp 27) (.tmp 33) 27 (by rfl) wd.heap.size 92 ir _ 6 64 Try.underlying27 hi' hz0 hz1 hz2 rfl (by decide) (.slice (some ⟨wd.heap.size, 0, none⟩) 0 0) 0 [] (by kernel_rfl) E3.out ⟨g, 0, none⟩ i c (rc6 (L.take i)) (by kernel_rfl) HTL.out NW1.out (rc6_one _) RM.out.1 RM.out.2.1 HBA.out ?_
        intro v5 w5 hrow5 hgrow5 hnn5
        obtain ⟨a5, c5, ROW5, B5, x0, hv5⟩ := undo_mid AB.out hrow5 hgrow5 LD.out D0.out
        subst hv5
        have NW2 := Lib.hid (newsD OD.out (i + 1) (n - (i + 1)) LEN2.out B5.out)
        clear hrow5 hgrow5 hnn5
        refine hK _ _ ?_
        clear hK K
        try simp only [Act.put, List.setIfInBounds_toArray, List.set_cons_zero, List.set_cons_succ]
        refine wpAny_ready (rs := [16]) (by kernel_rfl) (by simp) (AllReady.cons rfl (fun K hK => ?_) AllReady.nil)
        refine step_append_ownD (by rfl) (.tmp 34) (.tmp 41) 27 (by rfl) wd.heap.size 92 ir _ 6 64 Try.underlying27 hi' hz0 hz1 hz2 rfl (by decide) (.slice a5 i c5) i (rc6 (L.take i)) (by kernel_rfl) ROW5.out ⟨g, 0, none⟩ (n - (i + 1)) (c - (i + 1)) (rc6 ((L.drop (i + 1)).take (n - (i + 1)))) (by kernel_rfl) HTL2.out (news_none EMP.out) (rc6_one _) RM.out.2.2.1 RM.out.2.2.2 B5.out.size ?_
        intro v6 w6 hrow6 hgrow6 hnn6
        obtain ⟨a6, c6, FIN, y0, f6, hv6⟩ := undo_end B5.out ROW5.out hrow6 hgrow6 LD.out HB.out HN.out HI.out D0.out
        subst hv6
        clear hrow6 hgrow6 hnn6
        refine hK _ _ ?_
        clear hK K
        try simp only [Act.put, List.setIfInBounds_toArray, List.set_cons_zero, List.set_cons_succ]
        refine wpAny_take (i := 17) (v := ?_) rfl (by kernel_rfl) (by kernel_rfl) (by kernel_rfl) (fun _ _ _ h => h) (Or.inl ⟨by kernel_rfl, ?_⟩) ?_
        rotate_left
        · intro w
          go_simp
          try with_reducible rfl
        simp only [Act.put, List.getElem_toArray, List.getElem_cons_zero, List.getElem_cons_succ, List.setIfInBounds_toArray, List.set_cons_zero, List.set_cons_succ]
        refine wpAny_take (i := 18) (v := ?_) rfl (by kernel_rfl) (by kernel_rfl) (by kernel_rfl) (fun _ _ _ h => h) (Or.inl ⟨by kernel_rfl, ?_⟩) ?_
        rotate_left
        · intro w
          go_simp
          try with_reducible rfl
        simp only [Act.put, List.getElem_toArray, List.getElem_cons_zero, List.getElem_cons_succ, List.setIfInBounds_toArray, List.set_cons_zero, List.set_cons_succ]
        refine wpAny_ready (rs := [19]) (by kernel_rfl) (by simp) (AllReady.cons rfl (fun K hK => ?_) AllReady.nil)
        go_simp
        refine hK _ _ ?_
        clear hK K
        try simp only [Act.put, List.setIfInBounds_toArray, List.set_cons_zero, List.set_cons_succ]
        refine wpAny_done (by kernel_rfl) ?_ _
        go_wp2_with fail
        go_meet
        exact ⟨_, Lib.hid ⟨⟨FIN.out.1.1, FIN.out.1.2.1, by rw [← HZ.out]; exact FIN.out.1.2.2⟩, RD.out.trans FIN.out.2.1, fun p o hp hne => FIN.out.2.2 p o (HWD.out p o hp) hne⟩⟩
    · skip
      go_simp
      refine hK _ _ ?_
      clear hK K
      try simp only [Act.put, List.setIfInBounds_toArray, List.set_cons_zero, List.set_cons_succ]
      refine wpAny_take (i := 15) (v := ?_) rfl (by kernel_rfl) (by kernel_rfl) (by kernel_rfl) (fun _ _ _ h => h) (Or.inl ⟨by kernel_rfl, ?_⟩) ?_
      rotate_left
      · intro w
        go_simp
        try with_reducible rfl
      simp only [Act.put, List.getElem_toArray, List.getElem_cons_zero, List.getElem_cons_succ, List.setIfInBounds_toArray, List.set_cons_zero, List.set_cons_succ]
      refine wpAny_ready (rs := [1, 5]) (by kernel_rfl) (by simp) (AllReady.cons rfl (fun K hK => ?_) (AllReady.cons rfl (fun K hK => ?_) AllReady.nil))
      · skip
        go_simp
        refine hK _ _ ?_
        clear hK K
        try simp only [Act.put, List.setIfInBounds_toArray, List.set_cons_zero, List.set_cons_succ]
        refine wpAny_ready (rs := [5]) (by kernel_rfl) (by simp) (AllReady.cons rfl (fun K hK => ?_) AllReady.nil)
        go_simp
        refine hK _ _ ?_
        clear hK K
        try simp only [Act.put, List.setIfInBounds_toArray, List.set_cons_zero, List.set_cons_succ]
        refine wpAny_take (i := 7) (v := ?_) rfl (by kernel_rfl) (by kernel_rfl) (by kernel_rfl) (fun _ _ _ h => h) (Or.inl ⟨by kernel_rfl, ?_⟩) ?_
        rotate_left
        · intro w
          go_simp
          try with_reducible rfl
        simp only [Act.put, List.getElem_toArray, List.getElem_cons_zero, List.getElem_cons_succ, List.setIfInBounds_toArray, List.set_cons_zero, List.set_cons_succ]
        refine wpAny_ready (rs := [8]) (by kernel_rfl) (by simp) (AllReady.cons rfl (fun K hK => ?_) AllReady.nil)
        refine step_append_ownD (by rfl) (.tmp 27) (.tmp 33) 27 (by rfl) wd.heap.size 92 ir _ 6 64 Try.underlying27 hi' hz0 hz1 hz2 rfl (by decide) (.slice (some ⟨wd.heap.size, 0, none⟩) 0 0) 0 [] (by kernel_rfl) E3.out ⟨g, 0, none⟩ i c (rc6 (L.take i)) (by kernel_rfl) HTL.out NW1.out (rc6_one _) RM.out.1 RM.out.2.1 HBA.out ?_
        intro v5 w5 hrow5 hgrow5 hnn5
        obtain ⟨a5, c5, ROW5, B5, x0, hv5⟩ := undo_mid AB.out hrow5 hgrow5 LD.out D0.out
        subst hv5
        have NW2 := Lib.hid (newsD OD.out (i + 1) (n - (i + 1)) LEN2.out B5.out)
        clear hrow5 hgrow5 hnn5
        refine hK _ _ ?_
        clear hK K
        try simp only [Act.put, List.setIfInBounds_toArray, List.set_cons_zero, List.set_cons_succ]
        refine wpAny_ready (rs := [16]) (by kernel_rfl) (by simp) (AllReady.cons rfl (fun K hK => ?_) AllReady.nil)
        refine step_append_ownD (by rfl) (.tmp 34) (.tmp 41) 27 (by rfl) wd.heap.size 92 ir _ 6 64 Try.underlying27 hi' hz0 hz1 hz2 rfl (by decide) (.slice a5 i c5) i (rc6 (L.take i)) (by kernel_rfl) ROW5.out ⟨g, 0, none⟩ (n - (i + 1)) (c - (i + 1)) (rc6 ((L.drop (i + 1)).take (n - (i + 1)))) (by kernel_rfl) HTL2.out (news_none EMP.out) (rc6_one _) RM.out.2.2.1 RM.out.2.2.2 B5.out.size ?_
        intro v6 w6 hrow6 hgrow6 hnn6
        obtain ⟨a6, c6, FIN, y0, f6, hv6⟩ := undo_end B5.out ROW5.out hrow6 hgrow6 LD.out HB.out HN.out HI.out D0.out
        subst hv6
        clear hrow6 hgrow6 hnn6
        refine hK _ _ ?_
        clear hK K
        try simp only [Act.put, List.setIfInBounds_toArray, List.set_cons_zero, List.set_cons_succ]
        refine wpAny_take (i := 17) (v := ?_) rfl (by kernel_rfl) (by kernel_rfl) (by kernel_rfl) (fun _ _ _ h => h) (Or.inl ⟨by kernel_rfl, ?_⟩) ?_
        rotate_left
        · intro w
          go_simp
          try with_reducible rfl
        simp only [Act.put, List.getElem_toArray, List.getElem_cons_zero, List.getElem_cons_succ, List.setIfInBounds_toArray, List.set_cons_zero, List.set_cons_succ]
        refine wpAny_take (i := 18) (v := ?_) rfl (by kernel_rfl) (by kernel_rfl) (by kernel_rfl) (fun _ _ _ h => h) (Or.inl ⟨by kernel_rfl, ?_⟩) ?_
        rotate_left
        · intro w
          go_simp
          try with_reducible rfl
        simp only [Act.put, List.getElem_toArray, List.getElem_cons_zero, List.getElem_cons_succ, List.setIfInBounds_toArray, List.set_cons_zero, List.set_cons_succ]
        refine wpAny_ready (rs := [19]) (by kernel_rfl) (by simp) (AllReady.cons rfl (fun K hK => ?_) AllReady.nil)
        go_simp
        refine hK _ _ ?_
        clear hK K
        try simp only [Act.put, List.setIfInBounds_toArray, List.set_cons_zero, List.set_cons_succ]
        refine wpAny_done (by kernel_rfl) ?_ _
        go_wp2_with fail
        go_meet
        exact ⟨_, Lib.hid ⟨⟨FIN.out.1.1, FIN.out.1.2.1, by rw [← HZ.out]; exact FIN.out.1.2.2⟩, RD.out.trans FIN.out.2.1, fun p o hp hne => FIN.out.2.2 p o (HWD.out p o hp) hne⟩⟩
      · skip
        go_simp
        refine hK _ _ ?_
        clear hK K
        try simp only [Act.put, List.setIfInBounds_toArray, List.set_cons_zero, List.set_cons_succ]
        refine wpAny_take (i := 7) (v := ?_) rfl (by kernel_rfl) (by kernel_rfl) (by kernel_rfl) (fun _ _ _ h => h) (Or.inl ⟨by kernel_rfl, ?_⟩) ?_
        rotate_left
        · intro w
          go_simp
          try with_reducible rfl
        simp only [Act.put, List.getElem_toArray, List.getElem_cons_zero, List.getElem_cons_succ, List.setIfInBounds_toArray, List.set_cons_zero, List.set_cons_succ]
        refine wpAny_ready (rs := [1]) (by kernel_rfl) (by simp) (AllReady.cons rfl (fun K hK => ?_) AllReady.nil)
        go_simp
        refine hK _ _ ?_
        clear hK K
        try simp only [Act.put, List.setIfInBounds_toArray, List.set_cons_zero, List.set_cons_succ]
        refine wpAny_ready (rs := [8]) (by kernel_rfl) (by simp) (AllReady.cons rfl (fun K hK => ?_) AllReady.nil)
        refine step_append_ownD (by rfl) (.tmp 27) (.tmp 33) 27 (by rfl) wd.heap.size 92 ir _ 6 64 Try.underlying27 hi' hz0 hz1 hz2 rfl (by decide) (.slice (some ⟨wd.heap.size, 0, none⟩) 0 0) 0 [] (by kernel_rfl) E3.out ⟨g, 0, none⟩ i c (rc6 (L.take i)) (by kernel_rfl) HTL.out NW1.out (rc6_one _) RM.out.1 RM.out.2.1 HBA.out ?_
        intro v5 w5 hrow5 hgrow5 hnn5
        obtain ⟨a5, c5, ROW5, B5, x0, hv5⟩ := undo_mid AB.out hrow5 hgrow5 LD.out D0.out
        subst hv5
        have NW2 := Lib.hid (newsD OD.out (i + 1) (n - (i + 1)) LEN2.out B5.out)
        clear hrow5 hgrow5 hnn5
        refine hK _ _ ?_
        clear hK K
        try simp only [Act.put, List.setIfInBounds_toArray, List.set_cons_zero, List.set_cons_succ]
        refine wpAny_ready (rs := [16]) (by kernel_rfl) (by simp) (AllReady.cons rfl (fun K hK => ?_) AllReady.nil)
        refine step_append_ownD (by rfl) (.tmp 34) (.tmp 41) 27 (by rfl) wd.heap.size 92 ir _ 6 64 Try.underlying27 hi' hz0 hz1 hz2 rfl (by decide) (.slice a5 i c5) i (rc6 (L.take i)) (by kernel_rfl) ROW5.out ⟨g, 0, none⟩ (n - (i + 1)) (c - (i + 1)) (rc6 ((L.drop (i + 1)).take (n - (i + 1)))) (by kernel_rfl) HTL2.out (news_none EMP.out) (rc6_one _) RM.out.2.2.1 RM.out.2.2.2 B5.out.size ?_
        intro v6 w6 hrow6 hgrow6 hnn6
        obtain ⟨a6, c6, FIN, y0, f6, hv6⟩ := undo_end B5.out ROW5.out hrow6 hgrow6 LD.out HB.out HN.out HI.out D0.out
        subst hv6
        clear hrow6 hgrow6 hnn6
        refine hK _ _ ?_
        clear hK K
        try simp only [Act.put, List.setIfInBounds_toArray, List.set_cons_zero, List.set_cons_succ]
        refine wpAny_take (i := 17) (v := ?_) rfl (by kernel_rfl) (by kernel_rfl) (by kernel_rfl) (fun _ _ _ h => h) (Or.inl ⟨by kernel_rfl, ?_⟩) ?_
        rotate_left
        · intro w
          go_simp
          try with_reducible rfl
        simp only [Act.put, List.getElem_toArray, List.getElem_cons_zero, List.getElem_cons_succ, List.setIfInBounds_toArray, List.set_cons_zero, List.set_cons_succ]
        refine wpAny_take (i := 18) (v := ?_) rfl (by kernel_rfl) (by kernel_rfl) (by kernel_rfl) (fun _ _ _ h => h) (Or.inl ⟨by kernel_rfl, ?_⟩) ?_
        rotate_left
        · intro w
          go_simp
          try with_reducible rfl
        simp only [Act.put, List.getElem_toArray, List.getElem_cons_zero, List.getElem_cons_succ, List.setIfInBounds_toArray, List.set_cons_zero, List.set_cons_succ]
        refine wpAny_ready (rs := [19]) (by kernel_rfl) (by simp) (AllReady.cons rfl (fun K hK => ?_) AllReady.nil)
        go_simp
        refine hK _ _ ?_
        clear hK K
        try simp only [Act.put, List.setIfInBounds_toArray, List.set_cons_zero, List.set_cons_succ]
        refine wpAny_done (by kernel_rfl) ?_ _
        go_wp2_with fail
        go_meet
        exact ⟨_, Lib.hid ⟨⟨FIN.out.1.1, FIN.out.1.2.1, by rw [← HZ.out]; exact FIN.out.1.2.2⟩, RD.out.trans FIN.out.2.1, fun p o hp hne => FIN.out.2.2 p o (HWD.out p o hp) hne⟩⟩
  case rest =>
  obtain ⟨v6, hcut⟩ := hcut
  have HC := Lib.hid hcut.out
  clear hcut
  obtain ⟨wx, rfl⟩ : ∃ x : World, x = wc := ⟨_, rfl⟩
  have P7' := HC.out.2.2 p7 _ P7.out L4.out.2.2
  have Z7' := HC.out.2.2 p4 _ Z7.out L4.out.2.1
  obtain ⟨u0, u1, u2, u3, u4, u5⟩ := ends6 (t := ⟨tid, tm, tn, tc, tp, tw⟩) P7'
  simp only at u0 u1 u2 u3 u4 u5
  have TH : Hid (wx.there p4 0 6) := Lib.hid (fun j hj => ⟨by
    rw [cell_of_row _ _ _ _ _ _ Z7']
    exact Option.isSome_iff_exists.2 ⟨_, Array.getElem?_eq_getElem (by simp; omega)⟩, frozen_of_row _ _ _ _ _ Z7'⟩)
  have ZZ := Lib.hid Z7'
  clear P7' Z7' Z7 P7 D7 H7
  go_wp2_with (refine wpList_store_all (by rfl) 92 (.tmp 4) (.tmp 45) (by rfl) p4 0 [.int .i64 tid, .bool tm, .string tn, .int .i64 tc, .bool tp, .string tw] (by kernel_rfl) (by kernel_rfl) TH.out (by kernel_rfl) (rc6_one [⟨tid, tm, tn, tc, tp, tw⟩]) ?_)
  intro W9 HW9
  have hh9 := heap_setCells_same [.int .i64 tid, .bool tm, .string tn, .int .i64 tc, .bool tp, .string tw] _ 0 _ ZZ.out
  rw [← HW9.out] at hh9
  have hk9 : W9.heap[p4]? = some (.cells (RT.cells ⟨tid, tm, tn, tc, tp, tw⟩).toArray 92 (0, 0)) := hh9
  have far9 : ∀ k, k ≠ p4 → W9.heap[k]? = wx.heap[k]? := fun k hk => by
    rw [HW9.out]
    exact heap_setCells_far hk _ _ _
  have r9 : Rel B (SD m) wx W9 := by
    rw [HW9.out]
    exact rel_lay HB4.out (fun C => .inr ⟨C, _, rfl⟩) _ _ _ _ ZZ.out
  have FIN : Hid (RBagAt W9 B m (L.eraseIdx i) last false ∧ Rel B (SM m) w W9 ∧ RNew w m W9) := Lib.hid (by
    obtain ⟨⟨q1, q2, q3⟩, q4, q5⟩ := HC.out
    refine ⟨⟨q1, v6, (far9 m (fun e => L4.out.2.1 e.symm)).trans q2, own_base (own_same q3 (fun k hk => far9 k (fun e => by have h1 := (q3.lt k hk).1; have h2 := L4.out.1; omega))) HB7.out⟩, rel_SM q1 q2 ((Rel.below B7.out).trans (q4.trans r9)) (fun k hk hkm => (far9 k (fun e => by have h1 := HP4.out; omega)).trans ?_) HMW.out, fun v l c hv g hg => ?_⟩
    · obtain ⟨o, ho⟩ : ∃ o, w.heap[k]? = some o := ⟨_, Array.getElem?_eq_getElem hk⟩
      rw [q5 k o ((B7.out.block k hk).trans ho) hkm, ho]
    · rw [far9 m (fun e => L4.out.2.1 e.symm), q2] at hv
      simp only [Option.some.injEq, Obj.cells.injEq, Array.mk.injEq, List.cons.injEq, and_true, true_and] at hv
      obtain ⟨hv, _⟩ := hv
      subst hv
      exact Nat.le_trans B7.out.size (q3.lt g hg).1)
  obtain ⟨y0, y1, y2, y3, y4, y5⟩ := ends6 (t := ⟨tid, tm, tn, tc, tp, tw⟩) hk9
  simp only at y0 y1 y2 y3 y4 y5
  clear hh9 hk9 far9 r9 HW9 HC ZZ TH u0 u1 u2 u3 u4 u5
  go_wp2_with fail
  refine bodyPost_ret (v := .tuple #[.agg #[.int .i64 tid, .bool tm, .string tn, .int .i64 tc, .bool tp, .string tw], .int .i64 0]) (by simp [results, Try.results38, go_sem, y0, y1, y2, y3, y4, y5]) rfl ?_
  exact ⟨rfl, FIN.out⟩
theorem rundo_some {w : World} {B m : Nat} {L : List RT} {last : Int} (h : RBagAt w B m L last false) (hl : L.length ≤ 256) (hB : B ≤ w.heap.size) (id : Int) (i : Nat) (hp : posR L id false = some i) (t : RT) (ht : L[i]? = some t) :
    Calls Try.prog 38 #[.pointer (some ⟨m, 0, none⟩), .int .i64 id] w fun e w' => e = .returned (.tuple #[.agg t.cells.toArray, .int .i64 0]) ∧ RBagAt w' B m (L.eraseIdx i) last false ∧ Rel B (SM m) w w' ∧ RNew w m w' := by
  obtain ⟨hi, _⟩ := posR_lt hp
  obtain ⟨a, c, c0, _, _, ho⟩ := h.cells
  obtain ⟨g, rfl, _⟩ := rt_at ho i hi
  obtain ⟨tid, tm, tn, tc, tp, tw⟩ := t
  by_cases hcc : c = i + 1
  · exact rundo_some2 h hl hB id i hp c0 rfl tid tm tn tc tp tw ht hcc
  · exact rundo_some1 h hl hB id i hp c0 rfl tid tm tn tc tp tw ht hcc
end Go.Proofs.Ytnkababhgloclaa
