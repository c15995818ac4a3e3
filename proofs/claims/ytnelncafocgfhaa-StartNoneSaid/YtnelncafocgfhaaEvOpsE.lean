/- Operations: append and the other builtins. -/
import Derived.Test.YtnelncafocgfhaaEvOpsD
namespace Go.Proofs.Ytnelncafocgfhaa
open Go.RowKit
namespace Ev
set_option linter.unusedSectionVars false
variable [Env]
theorem growBy_le (N : Nat) : ∀ (r c : Nat), c ≤ 2 * N + 192 → Builtin.growBy N r c ≤ 2 * N + 192
  | 0, _, h => h
  | r + 1, c, h => by
    simp only [Builtin.growBy]
    split
    · exact h
    · exact growBy_le N r _ (by omega)
theorem next_le {need cap : Nat} (h : cap < need) : Builtin.nextslicecap need cap ≤ 2 * need + 192 := by
  unfold Builtin.nextslicecap
  split
  · omega
  · split
    · omega
    · exact growBy_le need 4 cap (by omega)
theorem loadN_length {n : Nat} {zs : List AV} {t : Tr AV} : ∀ {k i : Nat} {l : List AV}, loadN n zs t i k = some l → l.length = k
  | 0, _, _, h => by cases h; rfl
  | k + 1, i, l, h => by
    simp only [loadN] at h
    split at h
    · split at h
      · rename_i l' hl'
        cases h
        rw [List.length_cons, loadN_length hl']
      · cases h
    · cases h
section
variable {P : Program} {β : Beta} {w : World} {s : St} {lo : Nat}
theorem lenAV_ok {x : AV} {u : Value} {m : Nat} (h : lenAV x = some m) (hu : Rep β x u) (w : World) : (Builtin.lenOf u).run P w = .ok m w := by
  unfold lenAV at h
  split at h
  · cases h; cases hu; rfl
  · cases h; obtain ⟨a, c, rfl⟩ := hu; rfl
  · cases h; obtain ⟨n, t, c, _, rfl, _⟩ := hu; rfl
  · cases h; cases hu; simp [Builtin.lenOf, size_mk]
  · cases h
theorem extract_mk (l : List UInt8) (n : Nat) : ((ByteArray.mk l.toArray).extract 0 n).data.toList = l.take n := by
  rw [ByteArray.data_extract]
  simp [List.extract_eq_take_drop]
theorem firstAV_ok (hs : Sit β s w) {x : AV} {u : Value} {size n : Nat} {l : List AV} (h : firstAV s size n x = some l) (hu : Rep β x u) : ∃ vs : List Value, (∀ w' : World, w'.heap = w.heap → (Builtin.firstCells size n u).run P w' = .ok vs.toArray w') ∧ Reps β l vs := by
  cases x <;> try (simp [firstAV] at h; done)
  case nils =>
    cases h; cases hu
    exact ⟨[], fun w' _ => rfl, rfl⟩
  case emp =>
    simp only [firstAV] at h
    cases hc : (n * size == 0) with
    | false => rw [hc] at h; cases h
    | true =>
      rw [hc] at h
      cases h
      obtain ⟨a, c, rfl⟩ := hu
      refine ⟨[], fun w' _ => ?_, rfl⟩
      simp only [Builtin.firstCells, eq_of_beq hc]
      rfl
  case slc b off len cap =>
    simp only [firstAV] at h
    split at h
    case h_2 => cases h
    case h_1 T m zs t opn rw' hb =>
    obtain ⟨nb, tt, c, hbe, rfl, _⟩ := hu
    obtain ⟨p, hp, cs, T', fr, hw, _, _, _, _, hc⟩ := hs.blk _ _ hb
    rw [hbe] at hp
    cases hp
    obtain ⟨vs, h1, h2⟩ := run_loads0 (P := P) (nb := nb) (T := T') (fr := fr) hc h
    exact ⟨vs, fun w' hw' => h1 w' (by rw [hw']; exact hw), h2⟩
  case str bs =>
    cases h
    cases hu
    refine ⟨(bs.take n).map fun c => .int .u8 c.toNat, fun w' _ => ?_, ?_⟩
    · simp only [Builtin.firstCells, Sem.run_pure]
      congr 1
      apply Array.ext'
      rw [Array.toList_map, extract_mk]
    · generalize bs.take n = l
      induction l with
      | nil => rfl
      | cons c l ih => exact ⟨_, _, rfl, rfl, ih⟩
theorem zeroCells_size (z : Array Value) (n : Nat) : (Builtin.zeroCells z n).size = n * z.size := by simp [Builtin.zeroCells]
theorem append_grows {t xt e ty : TypeId} {i j xi : TI} {ts : Array TypeId} {as : Array Value} (hi : ti P t = some i) (hd : i.d = .slice e) (hj : ti P e = some j) (hxi : ti P xt = some xi) (hxd : ∀ k, xi.d ≠ .int k)
    (h0 : ts[0]? = some t) (h1 : ts[1]? = some xt) {base : Option Addr} {len cap m : Nat} {x : Value} (a0 : as[0]? = some (.slice base len cap)) (a1 : as[1]? = some x) (hlen : ∀ w : World, (Builtin.lenOf x).run P w = .ok m w)
    (hneed : cap < len + m) (hlim : len + m ≤ 1048576) (hby : j.bytes ≤ 1048576) {olds news : Array Value} (hold : ∀ w' : World, w'.heap = w.heap → (Builtin.firstCells j.size len (.slice base len cap)).run P w' = .ok olds w') (hnew : ∀ w' : World, w'.heap = w.heap → (Builtin.firstCells j.size m x).run P w' = .ok news w') :
    ∃ (C : Nat) (zc : Array Value), len + m ≤ C ∧ C ≤ maxLen ∧ zc.size = j.zero.length ∧ (Builtin.append_ ts ty as).run P w = .ok (.slice (some ⟨w.heap.size, 0, none⟩) (len + m) C) (w.drew.alloc (.cells (olds ++ news ++ Builtin.zeroCells zc (C - (len + m))) e)) := by
  obtain ⟨z, hz⟩ := run_zero hj
  obtain ⟨info, _, _, g1, _, g3, g4, _⟩ := ti_spec hj
  have hzl := Reps.length ((hz w).2 fun _ => none)
  rw [Array.length_toList] at hzl
  refine ⟨(Question.appendCap (len + m) cap e).cut (w.tape w.drawn (.appendCap (len + m) cap e)), z.cells, ?_, ?_, hzl, ?_⟩
  · simp only [Question.cut]; omega
  · simp only [Question.cut, maxLen]
    have : w.tape w.drawn (.appendCap (len + m) cap e) % (2 ^ 63 - (len + m)) < 2 ^ 63 - (len + m) := Nat.mod_lt _ (by omega)
    omega
  · have hun := run_under hi w
    rw [hd] at hun
    have hxun := run_under hxi w
    have hti : (typeInfo e).run P w = .ok info w := by simp [typeInfo, g1]
    have hzeros : (match xi.d with | .int _ => true | _ => false) = false := by
      split
      · rename_i k hk; exact absurd hk (hxd k)
      · rfl
    have hno : ¬ (len + m ≤ cap) := by omega
    have hmax : ¬ (((len + m : Nat) : Int) > IntKind.i64.max) := by
      have : IntKind.i64.max = 9223372036854775807 := by decide
      omega
    have hnext : ¬ (Builtin.nextslicecap (len + m) cap * info.bytes > 2 ^ 48) := by
      have h1 := next_le hneed
      have : Builtin.nextslicecap (len + m) cap * info.bytes ≤ 2097344 * 1048576 := Nat.mul_le_mul (by omega) (by omega)
      omega
    have hdr : ∀ w' : World, w'.heap = w.heap → w'.heap = w.heap := fun _ h => h
    simp only [Builtin.append_, h0, h1, a0, a1, Sem.run_bind, hun, Result.andThen_ok, run_size hj, hxun, Sem.run_pure]
    simp only [hzeros, Bool.false_eq_true, if_false, hlen, Result.andThen_ok, hno, hti, Sem.run_bind]
    have hc1 : ¬ (((len + m : Nat) : Int) > IntKind.i64.max ∧ (False ∨ info.bytes = 0)) := fun h => hmax h.1
    simp only [hc1, if_false, Sem.run_bind, Sem.run_pure, hti, Result.andThen_ok, hnext, run_choose, Question.forced, Bool.false_eq_true, run_askRoom]
    have hti' : ∀ w' : World, (typeInfo e).run P w' = .ok info w' := fun w' => by simp [typeInfo, g1]
    have e1 := hold { heap := w.heap, tape := w.tape, drawn := w.drawn + 1, os := w.os, output := w.output } rfl
    have e2 := hnew { heap := w.heap, tape := w.tape, drawn := w.drawn + 1, os := w.os, output := w.output } rfl
    simp only [hti', Result.andThen_ok, e1, Bool.not_false, if_true, e2, (hz _).1, newRow, Sem.run_bind, run_newObj, Sem.run_pure]
    rfl
theorem append_fits {t xt e ty : TypeId} {i j xi : TI} {ts : Array TypeId} {as : Array Value} (hi : ti P t = some i) (hd : i.d = .slice e) (hj : ti P e = some j) (hxi : ti P xt = some xi) (hxd : ∀ k, xi.d ≠ .int k)
    (h0 : ts[0]? = some t) (h1 : ts[1]? = some xt) {a : Addr} {len cap m : Nat} {x : Value} (a0 : as[0]? = some (.slice (some a) len cap)) (a1 : as[1]? = some x) (hlen : ∀ w : World, (Builtin.lenOf x).run P w = .ok m w)
    (hneed : len + m ≤ cap) {news : Array Value} (hnew : (Builtin.firstCells j.size m x).run P w = .ok news w) {w' : World} (hst : (storeCells (a.add (len * j.size)) news.toList).run P w = .ok () w') :
    (Builtin.append_ ts ty as).run P w = .ok (.slice (some a) (len + m) cap) w' := by
  have hun := run_under hi w
  rw [hd] at hun
  have hxun := run_under hxi w
  have hzeros : (match xi.d with | .int _ => true | _ => false) = false := by
    split
    · rename_i k hk; exact absurd hk (hxd k)
    · rfl
  simp only [Builtin.append_, h0, h1, a0, a1, Sem.run_bind, hun, Result.andThen_ok, run_size hj, hxun, Sem.run_pure]
  simp only [hzeros, Bool.false_eq_true, if_false, hlen, Result.andThen_ok, hneed, if_true, Sem.run_bind, Bool.not_false, hnew, hst, Sem.run_pure]
theorem append_none {t xt e ty : TypeId} {i j xi : TI} {ts : Array TypeId} {as : Array Value} (hi : ti P t = some i) (hd : i.d = .slice e) (hj : ti P e = some j) (hxi : ti P xt = some xi) (hxd : ∀ k, xi.d ≠ .int k)
    (h0 : ts[0]? = some t) (h1 : ts[1]? = some xt) {x : Value} (a0 : as[0]? = some (.slice none 0 0)) (a1 : as[1]? = some x) (hlen : ∀ w : World, (Builtin.lenOf x).run P w = .ok 0 w) {news : Array Value} (hnew : (Builtin.firstCells j.size 0 x).run P w = .ok news w) :
    (Builtin.append_ ts ty as).run P w = .ok (.slice none 0 0) w := by
  have hun := run_under hi w
  rw [hd] at hun
  have hxun := run_under hxi w
  have hzeros : (match xi.d with | .int _ => true | _ => false) = false := by
    split
    · rename_i k hk; exact absurd hk (hxd k)
    · rfl
  simp only [Builtin.append_, h0, h1, a0, a1, Sem.run_bind, hun, Result.andThen_ok, run_size hj, hxun, Sem.run_pure]
  simp only [hzeros, Bool.false_eq_true, if_false, hlen, Result.andThen_ok, Nat.le_refl, Nat.add_zero, if_true, Sem.run_bind, Bool.not_false, hnew, Sem.run_pure]
/-- A new row that an append's growth makes. -/
theorem grown_ok (hs : Sit β s w) {e : TypeId} {l : List AV} {cells : List Value} (hl : Reps β l cells) {size len C : Nat} {zc : Array Value} (hsz : 0 < size) (hlen : l.length = len * size) (hC : len ≤ C) (hCm : C ≤ maxLen) (hzc : zc.size = size) {x : Sem Value}
    (h : x.run P w = .ok (.slice (some ⟨w.heap.size, 0, none⟩) len C) (w.drew.alloc (.cells (cells.toArray ++ Builtin.zeroCells zc (C - len)) e))) : SG P x lo β s w (.slc s.n 0 len (.opn size len)) (s.new (rowOf e l true)) := by
  have hcl := Reps.length hl
  have htot : cells.length + (Builtin.zeroCells zc (C - len)).toList.length = C * size := by
    have e0 : (Builtin.zeroCells zc (C - len)).toList.length = (C - len) * size := by rw [Array.length_toList, zeroCells_size, hzc]
    rw [e0, hcl, hlen, ← Nat.add_mul]; congr 1; omega
  have hs' : Sit β s w.drew := ⟨hs.blk, hs.inj, hs.low⟩
  have hb := brep_row (hl.mono (hs'.upd_le (w.drew.heap.size, cells.length + (Builtin.zeroCells zc (C - len)).toList.length))) e true (Builtin.zeroCells zc (C - len)).toList (fun h => by cases h)
  have hx := ext_new (lo := lo) hs' hb
  refine ⟨_, _, upd β s.n (w.heap.size, cells.length + (Builtin.zeroCells zc (C - len)).toList.length), h, ?_, ⟨_, _, C, upd_at _ _ _, rfl, hC, hC, ?_, hsz, hCm⟩⟩
  · have e1 : (cells ++ (Builtin.zeroCells zc (C - len)).toList).toArray = cells.toArray ++ Builtin.zeroCells zc (C - len) := by simp
    rw [e1] at hx
    exact ⟨hx.sit, hx.os, hx.tape, hx.output, hx.size, hx.same, hx.le, hx.keep, hx.new, hx.old⟩
  · show 0 + C * size = _
    omega
theorem run_loads_raw {nb T off : Nat} {cs : Array Value} {fr : Nat × Nat} : ∀ (k i : Nat) (acc : Array Value), off + i + k ≤ cs.size → ∀ w : World, w.heap[nb]? = some (.cells cs T fr) →
    (loadCellsFrom ⟨nb, off, none⟩ i k acc).run P w = .ok (acc ++ ((cs.toList.drop (off + i)).take k).toArray) w
  | 0, i, acc, _, w, _ => by simp [loadCellsFrom]
  | k + 1, i, acc, h, w, hw => by
    have hlt : off + i < cs.size := by omega
    have hcell : w.cell? ⟨nb, off + i, none⟩ = some cs[off + i] := by rw [cell_of_row w nb (off + i) cs T fr hw]; simp [hlt]
    have ih := run_loads_raw (nb := nb) (T := T) (off := off) (cs := cs) (fr := fr) k (i + 1) (acc.push cs[off + i]) (by omega) w hw
    simp only [loadCellsFrom, addr_add, Sem.run_bind, run_load, hcell, Result.andThen_ok, ih]
    have hl : off + i < cs.toList.length := by rw [Array.length_toList]; exact hlt
    rw [List.drop_eq_getElem_cons hl, List.take_succ_cons, ← Nat.add_assoc]
    simp
theorem append_ok (hs : Sit β s w) {t xt ty : TypeId} {ts : Array TypeId} {as : Array Value} {x y : AV} {u v : Value} (h0 : ts[0]? = some t) (h1 : ts[1]? = some xt) (a0 : as[0]? = some u) (a1 : as[1]? = some v) (hx : Rep β x u) (hy : Rep β y v) {r : AV} {s' : St}
    (h : appendAV P s lo t xt x y = some (r, s')) : SG P (Builtin.append_ ts ty as) lo β s w r s' := by
  unfold appendAV at h
  split at h
  case h_1 => cases h
  case h_2 i hi =>
  split at h
  case h_1 => cases h
  case h_2 xi hxi =>
  split at h
  case h_1 k hd1 =>
    unfold growAV at h
    rw [hi] at h
    simp only at h
    split at h
    case h_2 => cases h
    case h_1 e kk m hd =>
    split at h
    case h_1 => cases h
    case h_2 j hj =>
    cases hc : (Nat.blt 0 j.size && (j.zero.length == j.size) && Nat.ble j.bytes 1048576 && Nat.blt 0 m && Nat.ble m 1048576) with
    | false => rw [hc] at h; cases h
    | true =>
    rw [hc] at h
    cases h
    simp only [Bool.and_eq_true, beq_iff_eq, Nat.ble_eq] at hc
    obtain ⟨⟨⟨⟨c1, c2⟩, c3⟩, c4⟩, c5⟩ := hc
    have c1' : 0 < j.size := by
      have : 0 + 1 ≤ j.size := by simpa [Nat.blt, Nat.ble_eq] using c1
      omega
    have c4' : 0 < m := by
      have : 0 + 1 ≤ m := by simpa [Nat.blt, Nat.ble_eq] using c4
      omega
    cases hx
    cases hy
    obtain ⟨z, hz⟩ := run_zero hj
    obtain ⟨info, _, _, g1, _, g3, g4, _⟩ := ti_spec hj
    have hzr := (hz w).2
    have hzl := Reps.length (hzr β)
    rw [Array.length_toList] at hzl
    have hC1 : m ≤ (Question.appendCap m 0 e).cut (w.tape w.drawn (.appendCap m 0 e)) := by simp only [Question.cut]; omega
    have hC2 : (Question.appendCap m 0 e).cut (w.tape w.drawn (.appendCap m 0 e)) ≤ maxLen := by
      simp only [Question.cut, maxLen]
      have : w.tape w.drawn (.appendCap m 0 e) % (2 ^ 63 - m) < 2 ^ 63 - m := Nat.mod_lt _ (by omega)
      omega
    have run : (Builtin.append_ ts ty as).run P w = .ok (.slice (some ⟨w.heap.size, 0, none⟩) m ((Question.appendCap m 0 e).cut (w.tape w.drawn (.appendCap m 0 e))))
        (w.drew.alloc (.cells (#[] ++ Builtin.zeroCells z.cells m ++ Builtin.zeroCells z.cells ((Question.appendCap m 0 e).cut (w.tape w.drawn (.appendCap m 0 e)) - m)) e)) := by
      have hun := run_under hi w
      rw [hd] at hun
      have hxun := run_under hxi w
      rw [hd1] at hxun
      have hti' : ∀ w' : World, (typeInfo e).run P w' = .ok info w' := fun w' => by simp [typeInfo, g1]
      have hwrap : IntKind.i64.wrap (Int.ofNat m) = (m : Int) := IntWalk.i64_in _ (by simp only [Int.ofNat_eq_natCast]; omega)
      have n0 : ¬ ((m : Int) < 0) := by omega
      have n1 : ¬ ((m : Int) * info.bytes > 2 ^ 48) := by
        have : (m : Int) * info.bytes ≤ 1048576 * 1048576 := Int.mul_le_mul (by omega) (by omega) (by omega) (by omega)
        omega
      have n2 : ¬ (m ≤ 0) := by omega
      have n3 : ¬ ((m : Int) > IntKind.i64.max ∧ (True ∨ info.bytes = 0)) := by
        have : IntKind.i64.max = 9223372036854775807 := by decide
        omega
      have n4 : ¬ (Builtin.nextslicecap m 0 * info.bytes > 2 ^ 48) := by
        have h1 := next_le (need := m) (cap := 0) c4'
        have : Builtin.nextslicecap m 0 * info.bytes ≤ 2097344 * 1048576 := Nat.mul_le_mul (by omega) (by omega)
        omega
      have n5 : ¬ (m * j.size = 0) := by
        have := Nat.mul_pos c4' c1'
        omega
      simp only [Builtin.append_, h0, h1, a0, a1, Sem.run_bind, hun, Result.andThen_ok, run_size hj, hxun, Sem.run_pure]
      simp only [if_true, asInt, asIntOf, Sem.run_bind, Sem.run_pure, Result.andThen_ok, hwrap, n0, if_false, hti', n1, Int.toNat_natCast, Nat.zero_add, n2]
      simp only [n3, if_false, n4, run_choose, Question.forced, Bool.false_eq_true, Result.andThen_ok, run_askRoom, Sem.run_bind, Sem.run_pure, hti', Bool.not_true, n5, (hz _).1, Builtin.firstCells, newRow, run_newObj]
      rfl
    have hz2 : z.cells.size = j.size := by omega
    have hsize : (#[] ++ Builtin.zeroCells z.cells m ++ Builtin.zeroCells z.cells ((Question.appendCap m 0 e).cut (w.tape w.drawn (.appendCap m 0 e)) - m)).size = (Question.appendCap m 0 e).cut (w.tape w.drawn (.appendCap m 0 e)) * j.size := by
      rw [Array.empty_append, Array.size_append, zeroCells_size, zeroCells_size, hz2, ← Nat.add_mul]
      congr 1; omega
    generalize (Question.appendCap m 0 e).cut (w.tape w.drawn (.appendCap m 0 e)) = C at *
    have hs' : Sit β s w.drew := ⟨hs.blk, hs.inj, hs.low⟩
    have hbr : BRep (upd β s.n (w.drew.heap.size, C * j.size)) (.cells e (m * j.size) j.zero .lf true true) (some (.cells (#[] ++ Builtin.zeroCells z.cells m ++ Builtin.zeroCells z.cells (C - m)) e (0, 0))) (C * j.size) := by
      refine ⟨_, _, _, rfl, hsize, Nat.mul_le_mul_right _ hC1, fun e => (by cases e), fun _ => ⟨rfl, rfl⟩, ?_⟩
      intro i a ha
      have hin := cellAt_lt ha
      unfold cellAt at ha
      rw [blt_of hin] at ha
      simp only [cond_true, get_lf] at ha
      obtain ⟨u, hu, hr⟩ := (hzr _).nth ha
      refine ⟨u, ?_, hr⟩
      have hlt : i % z.cells.size < z.cells.size := Nat.mod_lt _ (by omega)
      rw [Array.empty_append, Array.getElem?_append_left (by rw [zeroCells_size, hz2]; exact hin)]
      have hu' : z.cells[i % z.cells.size]? = some u := by
        rw [← hu, hzl]; simp
      simp only [Builtin.zeroCells, Array.getElem?_map]
      rw [Array.getElem?_range, if_pos (by rw [hz2]; exact hin)]
      simp only [Option.map_some]
      rw [getElem!_pos z.cells _ hlt]
      rw [Array.getElem?_eq_getElem hlt] at hu'
      exact hu'
    have hx := ext_new (lo := lo) hs' hbr
    exact ⟨_, _, _, run, ⟨hx.sit, hx.os, hx.tape, hx.output, hx.size, hx.same, hx.le, hx.keep, hx.new, hx.old⟩, ⟨_, _, C, upd_at _ _ _, rfl, hC1, hC1, by rw [Nat.zero_add], c1', hC2⟩⟩
  case h_3 => cases h
  case h_2 e hd hne =>
  have hxd : ∀ k, xi.d ≠ .int k := fun k hk => hne k hk
  split at h
  case h_1 => cases h
  case h_2 j hj =>
  split at h
  case h_1 => cases h
  case h_2 m hm =>
  split at h
  case h_1 => cases h
  case h_2 news hnews =>
  cases hc : (Nat.blt 0 j.size && (j.zero.length == j.size) && Nat.ble (j.bytes) 1048576 && (news.length == m * j.size) && allScalar news) with
  | false => rw [hc] at h; cases h
  | true =>
  rw [hc] at h
  simp only [Bool.not_true, cond_false] at h
  simp only [Bool.and_eq_true, beq_iff_eq, Nat.ble_eq] at hc
  obtain ⟨⟨⟨⟨c1, c2⟩, c3⟩, c4⟩, c5⟩ := hc
  have c1' : 0 < j.size := by
    have : 0 + 1 ≤ j.size := by simpa [Nat.blt, Nat.ble_eq] using c1
    omega
  obtain ⟨vs, hv1, hv2⟩ := firstAV_ok (P := P) hs hnews hy
  have hlen := lenAV_ok (P := P) hm hy
  have hvl := Reps.length hv2
  cases x <;> try (simp at h; done)
  case nils =>
    cases hx
    simp only at h
    cases hm0 : (m == 0) with
    | true =>
      rw [hm0] at h
      cases h
      obtain rfl := eq_of_beq hm0
      exact .stay hs (append_none hi hd hj hxi hxd h0 h1 a0 a1 hlen (hv1 w rfl)) rfl
    | false =>
      rw [hm0] at h
      simp only [cond_false] at h
      cases hm1 : Nat.ble m 1048576 with
      | false => rw [hm1] at h; cases h
      | true =>
        rw [hm1] at h
        cases h
        rw [Nat.ble_eq] at hm1
        have hm0' : m ≠ 0 := by simpa using hm0
        obtain ⟨C, zc, g1, g2, g3, g4⟩ := append_grows (w := w) (ty := ty) (olds := #[]) hi hd hj hxi hxd h0 h1 a0 a1 hlen (by omega) (by omega) c3 (fun w' _ => rfl) hv1
        rw [Nat.zero_add] at g1 g4
        refine grown_ok hs hv2 c1' c4 g1 g2 (g3.trans c2) ?_
        rw [g4]
        simp
  case slc b off len cap =>
    obtain ⟨nb, tt, c, hbe, rfl, hlc, hcap⟩ := hx
    have fits : ∀ {s' : St}, len + m ≤ c → storeAt s lo b (off + len * j.size) news = some s' → SG P (Builtin.append_ ts ty as) lo β s w (.slc b off (len + m) cap) s' := by
      intro s' hle hst
      obtain ⟨w', q1, q2⟩ := storeAt_ok (P := P) hs hst hbe hv2
      refine ⟨_, w', β, append_fits hi hd hj hxi hxd h0 h1 a0 a1 hlen hle (hv1 w rfl) (by rw [addr_add]; simpa using q1), q2, nb, tt, c, hbe, rfl, hle, hcap⟩
    cases cap with
    | fix cap =>
      obtain rfl : c = cap := hcap
      simp only at h
      cases hle : Nat.ble (len + m) c with
      | true =>
        rw [hle] at h
        simp only [cond_true] at h
        rw [Nat.ble_eq] at hle
        split at h
        · rename_i s1 hst
          cases h
          exact fits hle hst
        · cases h
      | false =>
        rw [hle] at h
        simp only [cond_false] at h
        have hgt : c < len + m := by
          rcases Nat.lt_or_ge c (len + m) with g | g
          · exact g
          · rw [show Nat.ble (len + m) c = true by rw [Nat.ble_eq]; exact g] at hle; cases hle
        split at h
        · cases h
        · rename_i old hold
          cases hlim : Nat.ble (len + m) 1048576 with
          | false => rw [hlim] at h; cases h
          | true =>
            rw [hlim] at h
            cases h
            rw [Nat.ble_eq] at hlim
            obtain ⟨os, ho1, ho2⟩ := firstAV_ok (P := P) hs hold (x := .slc b off len (.fix c)) (u := .slice (some ⟨nb, off, none⟩) len c) ⟨nb, tt, c, hbe, rfl, hlc, rfl⟩
            obtain ⟨C, zc, g1, g2, g3, g4⟩ := append_grows (w := w) (ty := ty) hi hd hj hxi hxd h0 h1 a0 a1 hlen hgt hlim c3 ho1 hv1
            have hol : old.length = len * j.size := by
              simp only [firstAV] at hold
              split at hold
              · exact loadN_length hold
              · cases hold
            refine grown_ok hs (ho2.append hv2) c1' (by rw [List.length_append, hol, c4, Nat.add_mul]) g1 g2 (g3.trans c2) ?_
            rw [g4]
            simp
    | opn size least =>
      obtain ⟨k1, k2, k3, k4⟩ := hcap
      simp only at h
      cases hsz : (size == j.size) with
      | false => rw [hsz] at h; cases h
      | true =>
      rw [hsz] at h
      obtain rfl := eq_of_beq hsz
      simp only [Bool.not_true, cond_false] at h
      cases hle : Nat.ble (len + m) least with
      | true =>
        rw [hle] at h
        simp only [cond_true] at h
        rw [Nat.ble_eq] at hle
        split at h
        · rename_i s1 hst
          cases h
          exact fits (by omega) hst
        · cases h
      | false =>
        rw [hle] at h
        simp only [cond_false] at h
        split at h
        case h_2 => cases h
        case h_1 T n zs tr hb =>
        cases hq : (Nat.ble lo b && (off == 0) && (n == len * j.size) && (T == e) && Nat.ble (len + m) 1048576) with
        | false => rw [hq] at h; cases h
        | true =>
        rw [hq] at h
        cases h
        simp only [Bool.and_eq_true, beq_iff_eq, Nat.ble_eq] at hq
        obtain ⟨⟨⟨⟨q1, rfl⟩, rfl⟩, rfl⟩, q5⟩ := hq
        obtain ⟨p, hp, cs, T', fr, hw, hcs, hn, _, hfr, hcell⟩ := hs.blk _ _ hb
        rw [hbe] at hp
        cases hp
        obtain ⟨rfl, rfl⟩ := hfr rfl
        rw [Nat.zero_add] at k2
        have hlow := (hs.low b _ hbe).2
        -- what is known of the longer row
        have known : ∀ (cs' : Array Value) (i : Nat) (a : AV), len * j.size + m * j.size ≤ cs'.size → (∀ k, k < len * j.size → cs'[k]? = cs[k]?) → (∀ k, k < m * j.size → cs'[len * j.size + k]? = vs[k]?) → cellAt (len * j.size + m * j.size) zs (storeL tr (len * j.size) news) i = some a →
            ∀ β' : Beta, β.le β' → ∃ u, cs'[i]? = some u ∧ Rep β' a u := by
          intro cs' i a hsz h1 h2 hi' β' hβ
          have hin := cellAt_lt hi'
          rcases cellAt_storeL hi' with ⟨g1, g2, g3⟩ | ⟨g1, g2⟩
          · obtain ⟨u, hu, hr⟩ := hv2.at (i - len * j.size) a g3
            refine ⟨u, ?_, hr.mono' hβ⟩
            have := h2 (i - len * j.size) (by omega)
            rw [show len * j.size + (i - len * j.size) = i by omega] at this
            rw [this]; exact hu
          · have hlt : i < len * j.size := by omega
            have g2' : cellAt (len * j.size) zs tr i = some a := by
              unfold cellAt at g2 ⊢
              rw [blt_of hin] at g2
              rw [blt_of hlt]
              exact g2
            obtain ⟨u, hu, hr⟩ := hcell i a g2'
            exact ⟨u, by rw [h1 i hlt]; exact hu, hr.mono' hβ⟩
        have htt : len * j.size ≤ tt := by rw [← k2]; exact Nat.mul_le_mul_right _ hlc
        have hvs : vs.length = m * j.size := by rw [hvl, c4]
        rcases Nat.lt_or_ge c (len + m) with hgt | hge
        · -- a new row
          have hold : ∀ w' : World, w'.heap = w.heap → (Builtin.firstCells j.size len (.slice (some ⟨nb, 0, none⟩) len c)).run P w' = .ok ((cs.toList.take (len * j.size)).toArray) w' := by
            intro w' hw'
            simp only [Builtin.firstCells, loadCells]
            have := run_loads_raw (P := P) (T := T') (fr := (0, 0)) (nb := nb) (off := 0) (cs := cs) (len * j.size) 0 #[] (by omega) w' (by rw [hw']; exact hw)
            simpa using this
          obtain ⟨C, zc, g1, g2, g3, g4⟩ := append_grows (w := w) (ty := ty) hi hd hj hxi hxd h0 h1 a0 a1 hlen hgt q5 c3 hold hv1
          have htk : (cs.toList.take (len * j.size)).length = len * j.size := by rw [List.length_take, Array.length_toList]; omega
          have hbound : (len + m) * j.size ≤ C * j.size := Nat.mul_le_mul_right _ g1
          rw [Nat.add_mul] at hbound
          have hsize : ((cs.toList.take (len * j.size)).toArray ++ vs.toArray ++ Builtin.zeroCells zc (C - (len + m))).size = C * j.size := by
            rw [Array.size_append, Array.size_append, zeroCells_size, List.size_toArray, List.size_toArray, htk, hvs, g3, c2, ← Nat.add_mul, ← Nat.add_mul]
            congr 1; omega
          have hnew : (w.drew.alloc (.cells ((cs.toList.take (len * j.size)).toArray ++ vs.toArray ++ Builtin.zeroCells zc (C - (len + m))) T')).heap[w.heap.size]? = some (.cells ((cs.toList.take (len * j.size)).toArray ++ vs.toArray ++ Builtin.zeroCells zc (C - (len + m))) T' (0, 0)) := heap_alloc_new w.drew _
          refine ⟨_, _, upd β s.n (w.heap.size, C * j.size), g4, ext_move hs ⟨_, hb⟩ q1 hbe ?_ (by rw [World.size_alloc]; show w.heap.size < w.heap.size + 1; omega) (.inr (Nat.le_refl _)) ⟨rfl, rfl, rfl, by rw [World.size_alloc]; show w.heap.size ≤ w.heap.size + 1; omega, fun k hk _ => Below.heap_alloc w.drew _ k hk⟩, ⟨_, _, C, upd_at _ _ _, rfl, g1, g1, by rw [Nat.zero_add], c1', g2⟩⟩
          rw [hnew]
          refine ⟨_, _, _, rfl, hsize, by omega, fun e => (by cases e), fun _ => ⟨rfl, rfl⟩, fun i a ha => known _ i a (by rw [hsize]; omega) ?_ ?_ ha _ (hs.upd_le _)⟩
          · intro k hk
            rw [Array.append_assoc, Array.getElem?_append_left (by rw [List.size_toArray, htk]; exact hk), List.getElem?_toArray, List.getElem?_take_of_lt hk, Array.getElem?_toList]
          · intro k hk
            rw [Array.append_assoc, Array.getElem?_append_right (by rw [List.size_toArray, htk]; omega), List.size_toArray, htk, Array.getElem?_append_left (by rw [List.size_toArray, hvs]; omega), List.getElem?_toArray]
            congr 1; omega
        · -- in its place
          have hbound : (len + m) * j.size ≤ tt := by rw [← k2]; exact Nat.mul_le_mul_right _ hge
          rw [Nat.add_mul] at hbound
          obtain ⟨w', q, qh, qo, qt, qu⟩ := run_stores (P := P) (nb := nb) (T := T') (off := len * j.size) vs 0 w cs hw (by omega) (oneCells c5 hv2)
          have hget : w'.heap[nb]? = some (.cells (wr cs (len * j.size) vs) T' (0, 0)) := by
            rw [qh, Array.getElem?_setIfInBounds, if_pos rfl, if_pos hlow]; rfl
          have hst : (storeCells (Addr.add ⟨nb, 0, none⟩ (len * j.size)) vs.toArray.toList).run P w = .ok () w' := by rw [addr_add, Nat.zero_add]; simpa using q
          refine ⟨_, w', upd β s.n (nb, tt), append_fits hi hd hj hxi hxd h0 h1 a0 a1 hlen hge (hv1 w rfl) hst, ext_move hs ⟨_, hb⟩ q1 hbe ?_ (by rw [qh]; simpa using hlow) (.inl rfl) ⟨qo, qt, qu, by rw [qh]; simp, fun k hk hne => by rw [qh, Array.getElem?_setIfInBounds, if_neg (fun e => hne (by rw [e]))]⟩, ⟨_, _, c, upd_at _ _ _, rfl, hge, hge, by rw [Nat.zero_add]; exact k2, c1', k4⟩⟩
          rw [hget]
          refine ⟨_, _, _, rfl, by rw [wr_size]; exact hcs, by omega, fun e => (by cases e), fun _ => ⟨rfl, rfl⟩, fun i a ha => known _ i a (by rw [wr_size]; omega) ?_ ?_ ha _ (hs.upd_le _)⟩
          · intro k hk
            exact wr_out _ _ _ _ (.inl hk)
          · intro k hk
            exact wr_in _ _ _ _ (by omega) (by omega)
end
end Ev
end Go.Proofs.Ytnelncafocgfhaa
