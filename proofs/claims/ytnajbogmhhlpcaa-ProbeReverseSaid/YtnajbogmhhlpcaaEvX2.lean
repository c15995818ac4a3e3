/- Operations: maps, new slices, texts ranged over. Operations: append and the other builtins. Operations: the other builtins; every operation that is no call of a Go function. Every operation that is no call of a Go function. Frames, calls, code: what the runner answers is so in the model. A region whose order is open: whatever the order, what the runner answers comes of it. A region whose order is open, as a plan: what holds whatever part of it has been done. A region whose order is open: what holds on the way, and at the end. A region whose order is open: an operation that writes; the whole region. -/
import Derived.Test.YtnajbogmhhlpcaaEvX1
import Derived.MapKept
import Derived.Orders
import Derived.Scope
import Derived.Lib.Bytealg
import Derived.KernelRfl
import Derived.LoopN
namespace Go.Proofs.Ytnajbogmhhlpcaa
open Go.RowKit Go.MapKept
namespace Ev
set_option linter.unusedSectionVars false
variable [Env]
section
variable {P : Program} {β : Beta} {w : World} {s : St} {lo : Nat}
theorem isKey_of {d : TypeDesc} {k : AV} {u : Value} (h : keyDesc d k = true) (hu : Rep β k u) : IsKey d u := by
  unfold keyDesc at h
  split at h <;> first | (cases h; done) | (cases hu; first | trivial | exact (eq_of_beq h).symm) | (obtain ⟨rfl, _⟩ := hu; trivial)
theorem keySame_ok {d : TypeDesc} {k a : AV} {u v : Value} {b : Bool} (hk : keyDesc d k = true) (h : keySame k a = some b) (hu : Rep β k u) (hv : Rep β a v) : Instr.sameNow d u v = some b ∧ (b = true → v = u) := by
  unfold keySame at h
  split at h
  · rename_i x y
    cases hu
    cases hv
    cases h
    cases d <;> simp only [keyDesc, reduceCtorEq, Bool.false_eq_true] at hk
    have e : ((ByteArray.mk x.toArray) == (ByteArray.mk y.toArray)) = sameBytes x y := by
      rw [sameBytes_eq, Bool.eq_iff_iff, bytes_beq, beq_iff_eq]
      exact ⟨fun h => by simpa using congrArg (fun z => z.data.toList) h, fun h => by rw [h]⟩
    refine ⟨by simp only [Instr.sameNow, e], fun hb => ?_⟩
    rw [sameBytes_eq, beq_iff_eq] at hb
    rw [hb]
  · rename_i k' x k'' y
    cases hu
    cases hv
    cases hkk : (k' == k'') with
    | false => rw [hkk] at h; cases h
    | true =>
      rw [hkk] at h
      cases h
      obtain rfl := eq_of_beq hkk
      cases d <;> simp only [keyDesc, reduceCtorEq, Bool.false_eq_true] at hk
      exact ⟨by simp [Instr.sameNow], fun hb => by rw [eq_of_beq hb]⟩
  · cases hu
    cases hv
    cases h
    cases d <;> simp only [keyDesc, reduceCtorEq, Bool.false_eq_true] at hk
    exact ⟨by simp [Instr.sameNow], fun hb => by rw [eq_of_beq hb]⟩
  · rename_i id l x
    obtain ⟨rfl, hl⟩ := hu
    cases hv
    rw [Bool.cond_eq_ite] at h
    split at h
    case isFalse => cases h
    rename_i hx
    cases h
    cases d <;> simp only [keyDesc, reduceCtorEq, Bool.false_eq_true] at hk
    have e : ((ByteArray.mk (Env.txt id).toArray) == (ByteArray.mk x.toArray)) = false := by
      rw [Bool.eq_false_iff, ne_eq, bytes_beq]
      exact fun h => hl x (amongB_ok hx) (by simpa using congrArg (fun z => z.data.toList) h)
    exact ⟨by simp only [Instr.sameNow, e], fun hb => by cases hb⟩
  · cases h
theorem findE_ok {d : TypeDesc} {k : AV} {u : Value} (hk : keyDesc d k = true) (hu : Rep β k u) : ∀ (l : List (AV × AV)) (es : List MapEntry) (i : Nat) (r : Option AV), MapRep β l es → findE k l = some r →
    match r with
    | none => Instr.findNow d u es i = some none
    | some v => ∃ j x, Instr.findNow d u es i = some (some (j, x)) ∧ Rep β v x
  | [], _, i, r, e, h => by cases h; rw [e]; rfl
  | (a, v) :: l, _, i, r, ⟨en, m, e, ha, hv, hl⟩, h => by
    rw [e]
    simp only [findE] at h
    split at h
    · rename_i hs
      cases h
      have := (keySame_ok hk hs hu ha).1
      exact ⟨i, en.val, by simp only [Instr.findNow, this], hv⟩
    · rename_i hs
      have := (keySame_ok hk hs hu ha).1
      have ih := findE_ok hk hu l m (i + 1) r hl h
      simp only [Instr.findNow, this]
      exact ih
    · cases h
theorem lookup_ok (hs : Sit β s w) {t kt et : TypeId} {i ki ei : TI} (hi : ti P t = some i) (hd : i.d = .map kt et) (hki : ti P kt = some ki) (hei : ti P et = some ei) {m k : AV} {um uk : Value} (hm : Rep β m um) (hk : Rep β k uk) (hkd : keyDesc ki.d k = true) {ok : Bool} {f : Option AV} (h : foundE s m k = some f) :
    VG P (Instr.lookup t um uk ok) β w (match f with | some v => bif ok then .tup [v, .bool true] else v | none => bif ok then .tup [ei.zv, .bool false] else ei.zv) := by
  have hun := run_under hi w
  rw [hd] at hun
  obtain ⟨_, _, _, _, g2, _⟩ := ti_spec hki
  have hkey := isKey_of hkd hk
  obtain ⟨z, hz⟩ := run_zv hei
  have core : ∀ (es : Array MapEntry) (l : List (AV × AV)), MapRep β l es.toList → findE k l = some f → (Instr.checkKey es.isEmpty 10000 kt uk).run P w = .ok () w ∧
      ∃ fk : Option (Nat × Value), (Instr.findKey kt uk es.toList).run P w = .ok fk w ∧
        Rep β (match f with | some v => bif ok then .tup [v, .bool true] else v | none => bif ok then .tup [ei.zv, .bool false] else ei.zv)
          (match fk with | some (_, x) => if ok then .tuple #[x, .bool true] else x | none => if ok then .tuple #[z, .bool false] else z) := by
    intro es l hl hf
    have hchk := run_checkKey (w := w) g2 hkey es.isEmpty 9999
    have hfind := findE_ok hkd hk l es.toList 0 f hl hf
    refine ⟨hchk, ?_⟩
    cases f with
    | some v =>
      obtain ⟨j, x, h1, h2⟩ := hfind
      refine ⟨_, run_findKey (w := w) g2 h1, ?_⟩
      cases ok
      · exact h2
      · exact ⟨#[x, .bool true], rfl, x, [.bool true], rfl, h2, _, [], rfl, rfl, rfl⟩
    | none =>
      refine ⟨_, run_findKey (w := w) g2 hfind, ?_⟩
      cases ok
      · exact (hz w).2 β
      · exact ⟨#[z, .bool false], rfl, z, [.bool false], rfl, (hz w).2 β, _, [], rfl, rfl, rfl⟩
  cases m <;> try (simp [foundE] at h; done)
  case nilm =>
    simp only [foundE, Option.some.injEq] at h
    subst h
    cases hm
    obtain ⟨h0, fk, h1, h2⟩ := core #[] [] rfl rfl
    refine ⟨_, ?_, h2⟩
    have h0' : (Instr.checkKey true 10000 kt uk).run P w = .ok () w := h0
    have h1' : (Instr.findKey kt uk []).run P w = .ok fk w := h1
    simp only [Instr.lookup, Sem.run_bind, hun, Result.andThen_ok, Sem.run_pure, Array.isEmpty_empty, h0', h1']
    cases fk with
    | none => simp only [Sem.run_bind, (hz w).1, Result.andThen_ok, Sem.run_pure]
    | some y => rfl
  case map r =>
    simp only [foundE] at h
    split at h
    case h_2 => cases h
    case h_1 l hb =>
    obtain ⟨nb, tt, hbe, rfl⟩ := hm
    obtain ⟨p, hp, es, clock, hw, hl⟩ := hs.blk _ _ hb
    rw [hbe] at hp
    cases hp
    obtain ⟨h0, fk, h1, h2⟩ := core es l hl h
    refine ⟨_, ?_, h2⟩
    simp only [Instr.lookup, Sem.run_bind, hun, Result.andThen_ok, Sem.run_pure, MapKept.run_getObj_map hw, h0, h1]
    cases fk with
    | none => simp only [Sem.run_bind, (hz w).1, Result.andThen_ok, Sem.run_pure]
    | some y => rfl
theorem mapRep_at : ∀ {l : List (AV × AV)} {es : List MapEntry}, MapRep β l es → es.length = l.length := fun h => h.length
theorem mapRep_push : ∀ {l : List (AV × AV)} {es : List MapEntry} {k v : AV} {e : MapEntry}, MapRep β l es → Rep β k e.key → Rep β v e.val → MapRep β (l ++ [(k, v)]) (es ++ [e])
  | [], _, k, v, e, h, hk, hv => by rw [h]; exact ⟨e, [], rfl, hk, hv, rfl⟩
  | (_, _) :: _, _, k, v, e, ⟨en, m, he, ha, hb, hl⟩, hk, hv => by rw [he]; exact ⟨en, m ++ [e], rfl, ha, hb, mapRep_push hl hk hv⟩
theorem putE_ok {d : TypeDesc} {k v : AV} {u x : Value} (hk : keyDesc d k = true) (hu : Rep β k u) (hx : Rep β v x) : ∀ (l l' : List (AV × AV)) (es : List MapEntry) (i : Nat), MapRep β l es → putE k v l = some l' →
    (Instr.findNow d u es i = some none ∧ l' = l ++ [(k, v)]) ∨
    ∃ j y, Instr.findNow d u es i = some (some (i + j, y)) ∧ (es[j]?).map (·.key) = some u ∧ MapRep β l' (es.modify j fun e => { e with key := u, val := x })
  | [], l', _, i, e, h => by cases h; rw [e]; exact .inl ⟨rfl, rfl⟩
  | (a, b) :: l, l', _, i, ⟨en, m, e, ha, hb, hl⟩, h => by
    rw [e]
    simp only [putE] at h
    split at h
    · rename_i hs
      cases h
      have := keySame_ok hk hs hu ha
      have hkey : en.key = u := this.2 rfl
      refine .inr ⟨0, en.val, by simp only [Instr.findNow, this.1]; rfl, by simp [hkey], ?_⟩
      simp only [List.modify_zero_cons]
      exact ⟨_, m, rfl, by rw [← hkey]; exact ha, hx, hl⟩
    · rename_i hs
      have hn := (keySame_ok hk hs hu ha).1
      split at h
      · rename_i r hr
        cases h
        rcases putE_ok hk hu hx l r m (i + 1) hl hr with ⟨h1, h2⟩ | ⟨j, y, h1, h2, h3⟩
        · exact .inl ⟨by simp only [Instr.findNow, hn]; exact h1, by rw [h2]; rfl⟩
        · refine .inr ⟨j + 1, y, ?_, by simpa using h2, ?_⟩
          · simp only [Instr.findNow, hn]
            rw [h1, show i + 1 + j = i + (j + 1) by omega]
          · rw [List.modify_succ_cons]
            exact ⟨en, _, rfl, ha, hb, h3⟩
      · cases h
    · cases h
theorem upd_ok (hs : Sit β s w) {t : TypeId} {r : Nat} {kv v : AV} {um uk uv : Value} {a : AV} {s' : St} (h : updAV P lo s t r kv v = some (a, s')) (hm : Rep β (.map r) um) (hk : Rep β kv uk) (hv : Rep β v uv) :
    a = .tup [] ∧ SU P (Instr.mapUpdate t um uk uv) lo β s w s' := by
  unfold updAV at h
  split at h
  case h_1 => cases h
  case h_2 i hi =>
  split at h
  case h_2 => cases h
  case h_1 kt et hd =>
  split at h
  case h_1 => cases h
  case h_2 ki hki =>
  cases hc : (keyDesc ki.d kv && Nat.ble lo r) with
  | false => rw [hc] at h; cases h
  | true =>
    rw [hc] at h
    simp only [Bool.and_eq_true, Nat.ble_eq] at hc
    simp only [cond_true] at h
    split at h
    case h_2 => cases h
    case h_1 l hb =>
    split at h
    case h_2 => cases h
    case h_1 l' hl' =>
    cases h
    refine ⟨rfl, ?_⟩
    obtain ⟨nb, tt, hbe, rfl⟩ := hm
    obtain ⟨p, hp, es, clock, hw, hl⟩ := hs.blk _ _ hb
    rw [hbe] at hp
    cases hp
    have hun := run_under hi w
    rw [hd] at hun
    obtain ⟨_, _, _, _, g2, _⟩ := ti_spec hki
    have hkey := isKey_of hc.1 hk
    have hchk := run_checkKey (w := w) g2 hkey false 9999
    rcases putE_ok hc.1 hk hv l l' es.toList 0 hl hl' with ⟨h1, h2⟩ | ⟨j, y, h1, h2, h3⟩
    · have hf := run_findKey (w := w) g2 h1
      refine ⟨_, β, ?_, ext_put hs ⟨_, hb⟩ hc.2 hbe (o := .map (es.push { key := uk, val := uv, born := clock }) (clock + 1)) ⟨_, _, rfl, by rw [h2, Array.toList_push]; exact mapRep_push hl hk hv⟩ (w' := { w with heap := w.heap.setIfInBounds nb (.map (es.push { key := uk, val := uv, born := clock }) (clock + 1)) }) rfl rfl rfl rfl⟩
      simp only [Instr.mapUpdate, Sem.run_bind, hun, Result.andThen_ok, MapKept.run_getObj_map hw, hchk, hf, MapKept.run_setObj_map _ hw]
    · rw [Nat.zero_add] at h1
      have hf := run_findKey (w := w) g2 h1
      have hold : (((es[j]?).map (·.key)).getD uk) = uk := by
        have : (es[j]?).map (·.key) = some uk := by simpa using h2
        rw [this]; rfl
      have hstay := run_keyThatStays (P := P) (w := w) hkey
      refine ⟨_, β, ?_, ext_put hs ⟨_, hb⟩ hc.2 hbe (o := .map (es.modify j fun e => { e with key := uk, val := uv }) clock) ⟨_, _, rfl, by rw [Array.toList_modify]; exact h3⟩ (w' := { w with heap := w.heap.setIfInBounds nb (.map (es.modify j fun e => { e with key := uk, val := uv }) clock) }) rfl rfl rfl rfl⟩
      simp only [Instr.mapUpdate, Sem.run_bind, hun, Result.andThen_ok, MapKept.run_getObj_map hw, hchk, hf, hold, hstay, MapKept.run_setObj_map _ hw]
theorem makeMap_ok (hs : Sit β s w) (t : TypeId) : SG P (Instr.makeMap t none) lo β s w (.map s.n) (s.new (.map [])) :=
  ⟨.map (some w.heap.size), w.alloc (.map #[] 0), upd β s.n (w.heap.size, 0), run_makeMap t w, ext_new hs ⟨_, _, rfl, rfl⟩, ⟨_, _, upd_at _ _ _, rfl⟩⟩
theorem makeSlice_ok (hs : Sit β s w) {t e : TypeId} {i j : TI} (hi : ti P t = some i) (hd : i.d = .slice e) (hj : ti P e = some j) {kl kc : IntKind} {l c : Int} (h0 : 0 ≤ l) (h1 : l ≤ c) (h2 : c ≤ 1048576) (h3 : j.bytes ≤ 1048576) (h4 : 0 < j.zero.length) (h5 : j.zero.length = j.size) :
    SG P (Instr.makeSlice t (.int kl l) (.int kc c)) lo β s w (.slc s.n 0 l.toNat (.fix c.toNat)) (s.new (zeroRow e (c.toNat * j.size) j.zero)) := by
  obtain ⟨info, z, a, g1, g2, g3, g4, g5, g6, g7, _⟩ := ti_spec hj
  obtain ⟨info', _, _, g1', g2', _⟩ := ti_spec hi
  have hzr : Reps (upd β s.n (w.heap.size, c.toNat * j.size)) j.zero z.cells.toList := by rw [g7]; exact cells_rep (ofV_rep g6)
  have hzl := Reps.length hzr
  rw [Array.length_toList] at hzl
  have hb : (info.bytes : Int) * c ≤ 281474976710656 := by
    rw [g4]
    have : (j.bytes : Int) * c ≤ 1048576 * 1048576 := Int.mul_le_mul (by omega) h2 (by omega) (by omega)
    omega
  have := run_make (P := P) w t e info z (by rw [g2', hd]) g1 g5 kl kc l c h0 h1 hb (by omega)
  refine ⟨_, _, upd β s.n (w.heap.size, c.toNat * j.size), this, ext_new hs ?_, ⟨_, _, c.toNat, upd_at _ _ _, rfl, by omega, rfl⟩⟩
  rw [g3]
  refine brep_zero hzr e _ _ (by rw [size_madeCells]) ?_
  intro k hk
  have hlt : k % z.cells.size < z.cells.size := Nat.mod_lt _ (by omega)
  simp only [madeCells, Array.getElem?_map, Array.getElem?_range, hk, if_true, Option.map_some, Array.length_toList]
  rw [getElem!_pos z.cells _ hlt]
  simp [hlt]
theorem range_ok (hs : Sit β s w) {t : TypeId} {i : TI} (hi : ti P t = some i) (hd : i.d = .string) {bs : List UInt8} {u : Value} (hu : Rep β (.str bs) u) : SG P (Instr.range t u) lo β s w (.ptr s.n 0) (s.new (.iter bs 0)) := by
  cases hu
  obtain ⟨_, _, _, _, g2, _⟩ := ti_spec hi
  refine ⟨_, _, upd β s.n (w.heap.size, 0), run_range_string w t _ (by rw [g2, hd]), ext_new hs ⟨_, rfl, ?_⟩, ⟨_, _, upd_at _ _ _, rfl⟩⟩
  simp
theorem next_ok (hs : Sit β s w) {b pos : Nat} {bs : List UInt8} {u : Value} (hu : Rep β (.ptr b 0) u) (hb : s.h.get (path b) = some (.iter bs pos)) (hlo : lo ≤ b) (ty : TypeId) {v : AV} {s' : St}
    (h : nextAV s b pos bs = some (v, s')) : SG P (Instr.next u true ty) lo β s w v s' := by
  obtain ⟨nb, tt, hbe, rfl⟩ := hu
  obtain ⟨p, hp, full, hw, hdrop⟩ := hs.blk _ _ hb
  rw [hbe] at hp
  cases hp
  have hget : (getObj nb).run P w = .ok (.stringIter full pos) w := by simp [getObj, Sem.run, hw]
  cases bs with
  | nil =>
    cases h
    have hge : ¬ pos < full.size := by
      have := congrArg List.length hdrop
      rw [List.length_drop, List.length_nil, Array.length_toList] at this
      show ¬ pos < full.data.size
      omega
    refine .stay hs (u := .tuple #[.bool false]) ?_ ⟨_, rfl, _, [], rfl, rfl, rfl⟩
    simp only [Instr.next, Sem.run_bind, hget, Result.andThen_ok, hge, if_false, Sem.run_pure]
  | cons c r =>
    simp only [nextAV] at h
    cases hc : Nat.blt c.toNat 128 with
    | false => rw [hc] at h; cases h
    | true =>
      rw [hc] at h
      cases h
      have hlt : pos < full.size := by
        have := congrArg List.length hdrop
        rw [List.length_drop, List.length_cons, Array.length_toList] at this
        show pos < full.data.size
        omega
      have hcc : full[pos]'hlt = c := by
        have := congrArg List.head? hdrop
        simp only [List.head?_drop, List.head?_cons] at this
        have h2 : full.data.toList[pos]? = some (full[pos]'hlt) := by
          rw [List.getElem?_eq_getElem (by rw [Array.length_toList]; exact hlt)]; rfl
        rw [h2] at this
        exact Option.some.inj this
      have hc' : c.toNat + 1 ≤ 128 := by simpa [Nat.blt, Nat.ble_eq] using hc
      have hdec := decode_ascii full pos hlt (by rw [hcc]; omega)
      rw [hcc] at hdec
      refine ⟨.tuple #[.bool true, goInt pos, .int .i32 c.toNat], _, β, ?_, ext_put hs ⟨_, hb⟩ hlo hbe (o := .stringIter full (pos + 1)) ⟨full, rfl, ?_⟩ (w' := { w with heap := w.heap.setIfInBounds nb (.stringIter full (pos + 1)) }) rfl rfl rfl rfl, ?_⟩
      · have hset : (setObj nb (.stringIter full (pos + 1))).run P w = .ok () { w with heap := w.heap.setIfInBounds nb (.stringIter full (pos + 1)) } := by simp [setObj, Sem.run, hw]
        simp only [Instr.next, Sem.run_bind, hget, Result.andThen_ok, hlt, if_true, hdec, hset, Sem.run_pure]
      · have := congrArg List.tail hdrop
        simp only [List.tail_drop, List.tail_cons] at this
        exact this
      · exact ⟨_, rfl, _, _, rfl, rfl, _, _, rfl, rfl, _, [], rfl, rfl, rfl⟩
end
end Ev
end Go.Proofs.Ytnajbogmhhlpcaa
namespace Go.Proofs.Ytnajbogmhhlpcaa
open Go.RowKit
namespace Ev
set_option linter.unusedSectionVars false
variable [Env]
theorem growBy_le (N : Nat) : ∀ (r c : Nat), c ≤ 2 * N + 192 → Builtin.growBy N r c ≤ 2 * N + 192
  | 0, _, h => h
  | r + 1, c, h => by
    simp only [Builtin.growBy]
    split
    · exact h
    · exact growBy_le N r _ (by omega)
theorem next_le {need cap : Nat} (h : cap < need) : Builtin.nextslicecap need cap ≤ 2 * need + 192 := by
  unfold Builtin.nextslicecap
  split
  · omega
  · split
    · omega
    · exact growBy_le need 4 cap (by omega)
theorem loadN_length {n : Nat} {zs : List AV} {t : Tr AV} : ∀ {k i : Nat} {l : List AV}, loadN n zs t i k = some l → l.length = k
  | 0, _, _, h => by cases h; rfl
  | k + 1, i, l, h => by
    simp only [loadN] at h
    split at h
    · split at h
      · rename_i l' hl'
        cases h
        rw [List.length_cons, loadN_length hl']
      · cases h
    · cases h
section
variable {P : Program} {β : Beta} {w : World} {s : St} {lo : Nat}
theorem lenAV_ok {x : AV} {u : Value} {m : Nat} (h : lenAV x = some m) (hu : Rep β x u) (w : World) : (Builtin.lenOf u).run P w = .ok m w := by
  unfold lenAV at h
  split at h
  · cases h; cases hu; rfl
  · cases h; obtain ⟨a, c, rfl⟩ := hu; rfl
  · cases h; obtain ⟨n, t, c, _, rfl, _⟩ := hu; rfl
  · cases h; cases hu; simp [Builtin.lenOf, size_mk]
  · cases h
theorem extract_mk (l : List UInt8) (n : Nat) : ((ByteArray.mk l.toArray).extract 0 n).data.toList = l.take n := by
  rw [ByteArray.data_extract]
  simp [List.extract_eq_take_drop]
theorem firstAV_ok (hs : Sit β s w) {x : AV} {u : Value} {size n : Nat} {l : List AV} (h : firstAV s size n x = some l) (hu : Rep β x u) : ∃ vs : List Value, (∀ w' : World, w'.heap = w.heap → (Builtin.firstCells size n u).run P w' = .ok vs.toArray w') ∧ Reps β l vs := by
  cases x <;> try (simp [firstAV] at h; done)
  case nils =>
    cases h; cases hu
    exact ⟨[], fun w' _ => rfl, rfl⟩
  case emp =>
    simp only [firstAV] at h
    cases hc : (n * size == 0) with
    | false => rw [hc] at h; cases h
    | true =>
      rw [hc] at h
      cases h
      obtain ⟨a, c, rfl⟩ := hu
      refine ⟨[], fun w' _ => ?_, rfl⟩
      simp only [Builtin.firstCells, eq_of_beq hc]
      rfl
  case slc b off len cap =>
    simp only [firstAV] at h
    split at h
    case h_2 => cases h
    case h_1 T m zs t opn rw' hb =>
    obtain ⟨nb, tt, c, hbe, rfl, _⟩ := hu
    obtain ⟨p, hp, cs, T', fr, hw, _, _, _, _, hc⟩ := hs.blk _ _ hb
    rw [hbe] at hp
    cases hp
    obtain ⟨vs, h1, h2⟩ := run_loads0 (P := P) (nb := nb) (T := T') (fr := fr) hc h
    exact ⟨vs, fun w' hw' => h1 w' (by rw [hw']; exact hw), h2⟩
  case str bs =>
    cases h
    cases hu
    refine ⟨(bs.take n).map fun c => .int .u8 c.toNat, fun w' _ => ?_, ?_⟩
    · simp only [Builtin.firstCells, Sem.run_pure]
      congr 1
      apply Array.ext'
      rw [Array.toList_map, extract_mk]
    · generalize bs.take n = l
      induction l with
      | nil => rfl
      | cons c l ih => exact ⟨_, _, rfl, rfl, ih⟩
theorem zeroCells_size (z : Array Value) (n : Nat) : (Builtin.zeroCells z n).size = n * z.size := by simp [Builtin.zeroCells]
theorem append_grows {t xt e ty : TypeId} {i j xi : TI} {ts : Array TypeId} {as : Array Value} (hi : ti P t = some i) (hd : i.d = .slice e) (hj : ti P e = some j) (hxi : ti P xt = some xi) (hxd : ∀ k, xi.d ≠ .int k)
    (h0 : ts[0]? = some t) (h1 : ts[1]? = some xt) {base : Option Addr} {len cap m : Nat} {x : Value} (a0 : as[0]? = some (.slice base len cap)) (a1 : as[1]? = some x) (hlen : ∀ w : World, (Builtin.lenOf x).run P w = .ok m w)
    (hneed : cap < len + m) (hlim : len + m ≤ 1048576) (hby : j.bytes ≤ 1048576) {olds news : Array Value} (hold : ∀ w' : World, w'.heap = w.heap → (Builtin.firstCells j.size len (.slice base len cap)).run P w' = .ok olds w') (hnew : ∀ w' : World, w'.heap = w.heap → (Builtin.firstCells j.size m x).run P w' = .ok news w') :
    ∃ (C : Nat) (zc : Array Value), len + m ≤ C ∧ C ≤ maxLen ∧ zc.size = j.zero.length ∧ (Builtin.append_ ts ty as).run P w = .ok (.slice (some ⟨w.heap.size, 0, none⟩) (len + m) C) (w.drew.alloc (.cells (olds ++ news ++ Builtin.zeroCells zc (C - (len + m))) e)) := by
  obtain ⟨z, hz⟩ := run_zero hj
  obtain ⟨info, _, _, g1, _, g3, g4, _⟩ := ti_spec hj
  have hzl := Reps.length ((hz w).2 fun _ => none)
  rw [Array.length_toList] at hzl
  refine ⟨(Question.appendCap (len + m) cap e).cut (w.tape w.drawn (.appendCap (len + m) cap e)), z.cells, ?_, ?_, hzl, ?_⟩
  · simp only [Question.cut]; omega
  · simp only [Question.cut, maxLen]
    have : w.tape w.drawn (.appendCap (len + m) cap e) % (2 ^ 63 - (len + m)) < 2 ^ 63 - (len + m) := Nat.mod_lt _ (by omega)
    omega
  · have hun := run_under hi w
    rw [hd] at hun
    have hxun := run_under hxi w
    have hti : (typeInfo e).run P w = .ok info w := by simp [typeInfo, g1]
    have hzeros : (match xi.d with | .int _ => true | _ => false) = false := by
      split
      · rename_i k hk; exact absurd hk (hxd k)
      · rfl
    have hno : ¬ (len + m ≤ cap) := by omega
    have hmax : ¬ (((len + m : Nat) : Int) > IntKind.i64.max) := by
      have : IntKind.i64.max = 9223372036854775807 := by decide
      omega
    have hnext : ¬ (Builtin.nextslicecap (len + m) cap * info.bytes > 2 ^ 48) := by
      have h1 := next_le hneed
      have : Builtin.nextslicecap (len + m) cap * info.bytes ≤ 2097344 * 1048576 := Nat.mul_le_mul (by omega) (by omega)
      omega
    have hdr : ∀ w' : World, w'.heap = w.heap → w'.heap = w.heap := fun _ h => h
    simp only [Builtin.append_, h0, h1, a0, a1, Sem.run_bind, hun, Result.andThen_ok, run_size hj, hxun, Sem.run_pure]
    simp only [hzeros, Bool.false_eq_true, if_false, hlen, Result.andThen_ok, hno, hti, Sem.run_bind]
    have hc1 : ¬ (((len + m : Nat) : Int) > IntKind.i64.max ∧ (False ∨ info.bytes = 0)) := fun h => hmax h.1
    simp only [hc1, if_false, Sem.run_bind, Sem.run_pure, hti, Result.andThen_ok, hnext, run_choose, Question.forced, Bool.false_eq_true, run_askRoom]
    have hti' : ∀ w' : World, (typeInfo e).run P w' = .ok info w' := fun w' => by simp [typeInfo, g1]
    have e1 := hold { heap := w.heap, tape := w.tape, drawn := w.drawn + 1, os := w.os, output := w.output } rfl
    have e2 := hnew { heap := w.heap, tape := w.tape, drawn := w.drawn + 1, os := w.os, output := w.output } rfl
    simp only [hti', Result.andThen_ok, e1, Bool.not_false, if_true, e2, (hz _).1, newRow, Sem.run_bind, run_newObj, Sem.run_pure]
    rfl
theorem append_fits {t xt e ty : TypeId} {i j xi : TI} {ts : Array TypeId} {as : Array Value} (hi : ti P t = some i) (hd : i.d = .slice e) (hj : ti P e = some j) (hxi : ti P xt = some xi) (hxd : ∀ k, xi.d ≠ .int k)
    (h0 : ts[0]? = some t) (h1 : ts[1]? = some xt) {a : Addr} {len cap m : Nat} {x : Value} (a0 : as[0]? = some (.slice (some a) len cap)) (a1 : as[1]? = some x) (hlen : ∀ w : World, (Builtin.lenOf x).run P w = .ok m w)
    (hneed : len + m ≤ cap) {news : Array Value} (hnew : (Builtin.firstCells j.size m x).run P w = .ok news w) {w' : World} (hst : (storeCells (a.add (len * j.size)) news.toList).run P w = .ok () w') :
    (Builtin.append_ ts ty as).run P w = .ok (.slice (some a) (len + m) cap) w' := by
  have hun := run_under hi w
  rw [hd] at hun
  have hxun := run_under hxi w
  have hzeros : (match xi.d with | .int _ => true | _ => false) = false := by
    split
    · rename_i k hk; exact absurd hk (hxd k)
    · rfl
  simp only [Builtin.append_, h0, h1, a0, a1, Sem.run_bind, hun, Result.andThen_ok, run_size hj, hxun, Sem.run_pure]
  simp only [hzeros, Bool.false_eq_true, if_false, hlen, Result.andThen_ok, hneed, if_true, Sem.run_bind, Bool.not_false, hnew, hst, Sem.run_pure]
theorem append_none {t xt e ty : TypeId} {i j xi : TI} {ts : Array TypeId} {as : Array Value} (hi : ti P t = some i) (hd : i.d = .slice e) (hj : ti P e = some j) (hxi : ti P xt = some xi) (hxd : ∀ k, xi.d ≠ .int k)
    (h0 : ts[0]? = some t) (h1 : ts[1]? = some xt) {x : Value} (a0 : as[0]? = some (.slice none 0 0)) (a1 : as[1]? = some x) (hlen : ∀ w : World, (Builtin.lenOf x).run P w = .ok 0 w) {news : Array Value} (hnew : (Builtin.firstCells j.size 0 x).run P w = .ok news w) :
    (Builtin.append_ ts ty as).run P w = .ok (.slice none 0 0) w := by
  have hun := run_under hi w
  rw [hd] at hun
  have hxun := run_under hxi w
  have hzeros : (match xi.d with | .int _ => true | _ => false) = false := by
    split
    · rename_i k hk; exact absurd hk (hxd k)
    · rfl
  simp only [Builtin.append_, h0, h1, a0, a1, Sem.run_bind, hun, Result.andThen_ok, run_size hj, hxun, Sem.run_pure]
  simp only [hzeros, Bool.false_eq_true, if_false, hlen, Result.andThen_ok, Nat.le_refl, Nat.add_zero, if_true, Sem.run_bind, Bool.not_false, hnew, Sem.run_pure]
/-- A new row that an append's growth makes. -/
theorem grown_ok (hs : Sit β s w) {e : TypeId} {l : List AV} {cells : List Value} (hl : Reps β l cells) {size len C : Nat} {zc : Array Value} (hsz : 0 < size) (hlen : l.length = len * size) (hC : len ≤ C) (hCm : C ≤ maxLen) (hzc : zc.size = size) {x : Sem Value}
    (h : x.run P w = .ok (.slice (some ⟨w.heap.size, 0, none⟩) len C) (w.drew.alloc (.cells (cells.toArray ++ Builtin.zeroCells zc (C - len)) e))) : SG P x lo β s w (.slc s.n 0 len (.opn size len)) (s.new (rowOf e l true)) := by
  have hcl := Reps.length hl
  have htot : cells.length + (Builtin.zeroCells zc (C - len)).toList.length = C * size := by
    have e0 : (Builtin.zeroCells zc (C - len)).toList.length = (C - len) * size := by rw [Array.length_toList, zeroCells_size, hzc]
    rw [e0, hcl, hlen, ← Nat.add_mul]; congr 1; omega
  have hs' : Sit β s w.drew := ⟨hs.blk, hs.inj, hs.low⟩
  have hb := brep_row (hl.mono (hs'.upd_le (w.drew.heap.size, cells.length + (Builtin.zeroCells zc (C - len)).toList.length))) e true (Builtin.zeroCells zc (C - len)).toList (fun h => by cases h)
  have hx := ext_new (lo := lo) hs' hb
  refine ⟨_, _, upd β s.n (w.heap.size, cells.length + (Builtin.zeroCells zc (C - len)).toList.length), h, ?_, ⟨_, _, C, upd_at _ _ _, rfl, hC, hC, ?_, hsz, hCm⟩⟩
  · have e1 : (cells ++ (Builtin.zeroCells zc (C - len)).toList).toArray = cells.toArray ++ Builtin.zeroCells zc (C - len) := by simp
    rw [e1] at hx
    exact ⟨hx.sit, hx.os, hx.tape, hx.output, hx.size, hx.same, hx.le, hx.keep, hx.new, hx.old⟩
  · show 0 + C * size = _
    omega
theorem run_loads_raw {nb T off : Nat} {cs : Array Value} {fr : Nat × Nat} : ∀ (k i : Nat) (acc : Array Value), off + i + k ≤ cs.size → ∀ w : World, w.heap[nb]? = some (.cells cs T fr) →
    (loadCellsFrom ⟨nb, off, none⟩ i k acc).run P w = .ok (acc ++ ((cs.toList.drop (off + i)).take k).toArray) w
  | 0, i, acc, _, w, _ => by simp [loadCellsFrom]
  | k + 1, i, acc, h, w, hw => by
    have hlt : off + i < cs.size := by omega
    have hcell : w.cell? ⟨nb, off + i, none⟩ = some cs[off + i] := by rw [cell_of_row w nb (off + i) cs T fr hw]; simp [hlt]
    have ih := run_loads_raw (nb := nb) (T := T) (off := off) (cs := cs) (fr := fr) k (i + 1) (acc.push cs[off + i]) (by omega) w hw
    simp only [loadCellsFrom, addr_add, Sem.run_bind, run_load, hcell, Result.andThen_ok, ih]
    have hl : off + i < cs.toList.length := by rw [Array.length_toList]; exact hlt
    rw [List.drop_eq_getElem_cons hl, List.take_succ_cons, ← Nat.add_assoc]
    simp
theorem append_ok (hs : Sit β s w) {t xt ty : TypeId} {ts : Array TypeId} {as : Array Value} {x y : AV} {u v : Value} (h0 : ts[0]? = some t) (h1 : ts[1]? = some xt) (a0 : as[0]? = some u) (a1 : as[1]? = some v) (hx : Rep β x u) (hy : Rep β y v) {r : AV} {s' : St}
    (h : appendAV P s lo t xt x y = some (r, s')) : SG P (Builtin.append_ ts ty as) lo β s w r s' := by
  unfold appendAV at h
  split at h
  case h_1 => cases h
  case h_2 i hi =>
  split at h
  case h_1 => cases h
  case h_2 xi hxi =>
  split at h
  case h_1 k hd1 =>
    unfold growAV at h
    rw [hi] at h
    simp only at h
    split at h
    case h_2 => cases h
    case h_1 e kk m hd =>
    split at h
    case h_1 => cases h
    case h_2 j hj =>
    cases hc : (Nat.blt 0 j.size && (j.zero.length == j.size) && Nat.ble j.bytes 1048576 && Nat.blt 0 m && Nat.ble m 1048576) with
    | false => rw [hc] at h; cases h
    | true =>
    rw [hc] at h
    cases h
    simp only [Bool.and_eq_true, beq_iff_eq, Nat.ble_eq] at hc
    obtain ⟨⟨⟨⟨c1, c2⟩, c3⟩, c4⟩, c5⟩ := hc
    have c1' : 0 < j.size := by
      have : 0 + 1 ≤ j.size := by simpa [Nat.blt, Nat.ble_eq] using c1
      omega
    have c4' : 0 < m := by
      have : 0 + 1 ≤ m := by simpa [Nat.blt, Nat.ble_eq] using c4
      omega
    cases hx
    cases hy
    obtain ⟨z, hz⟩ := run_zero hj
    obtain ⟨info, _, _, g1, _, g3, g4, _⟩ := ti_spec hj
    have hzr := (hz w).2
    have hzl := Reps.length (hzr β)
    rw [Array.length_toList] at hzl
    have hC1 : m ≤ (Question.appendCap m 0 e).cut (w.tape w.drawn (.appendCap m 0 e)) := by simp only [Question.cut]; omega
    have hC2 : (Question.appendCap m 0 e).cut (w.tape w.drawn (.appendCap m 0 e)) ≤ maxLen := by
      simp only [Question.cut, maxLen]
      have : w.tape w.drawn (.appendCap m 0 e) % (2 ^ 63 - m) < 2 ^ 63 - m := Nat.mod_lt _ (by omega)
      omega
    have run : (Builtin.append_ ts ty as).run P w = .ok (.slice (some ⟨w.heap.size, 0, none⟩) m ((Question.appendCap m 0 e).cut (w.tape w.drawn (.appendCap m 0 e))))
        (w.drew.alloc (.cells (#[] ++ Builtin.zeroCells z.cells m ++ Builtin.zeroCells z.cells ((Question.appendCap m 0 e).cut (w.tape w.drawn (.appendCap m 0 e)) - m)) e)) := by
      have hun := run_under hi w
      rw [hd] at hun
      have hxun := run_under hxi w
      rw [hd1] at hxun
      have hti' : ∀ w' : World, (typeInfo e).run P w' = .ok info w' := fun w' => by simp [typeInfo, g1]
      have hwrap : IntKind.i64.wrap (Int.ofNat m) = (m : Int) := IntWalk.i64_in _ (by simp only [Int.ofNat_eq_natCast]; omega)
      have n0 : ¬ ((m : Int) < 0) := by omega
      have n1 : ¬ ((m : Int) * info.bytes > 2 ^ 48) := by
        have : (m : Int) * info.bytes ≤ 1048576 * 1048576 := Int.mul_le_mul (by omega) (by omega) (by omega) (by omega)
        omega
      have n2 : ¬ (m ≤ 0) := by omega
      have n3 : ¬ ((m : Int) > IntKind.i64.max ∧ (True ∨ info.bytes = 0)) := by
        have : IntKind.i64.max = 9223372036854775807 := by decide
        omega
      have n4 : ¬ (Builtin.nextslicecap m 0 * info.bytes > 2 ^ 48) := by
        have h1 := next_le (need := m) (cap := 0) c4'
        have : Builtin.nextslicecap m 0 * info.bytes ≤ 2097344 * 1048576 := Nat.mul_le_mul (by omega) (by omega)
        omega
      have n5 : ¬ (m * j.size = 0) := by
        have := Nat.mul_pos c4' c1'
        omega
      simp only [Builtin.append_, h0, h1, a0, a1, Sem.run_bind, hun, Result.andThen_ok, run_size hj, hxun, Sem.run_pure]
      simp only [if_true, asInt, asIntOf, Sem.run_bind, Sem.run_pure, Result.andThen_ok, hwrap, n0, if_false, hti', n1, Int.toNat_natCast, Nat.zero_add, n2]
      simp only [n3, if_false, n4, run_choose, Question.forced, Bool.false_eq_true, Result.andThen_ok, run_askRoom, Sem.run_bind, Sem.run_pure, hti', Bool.not_true, n5, (hz _).1, Builtin.firstCells, newRow, run_newObj]
      rfl
    have hz2 : z.cells.size = j.size := by omega
    have hsize : (#[] ++ Builtin.zeroCells z.cells m ++ Builtin.zeroCells z.cells ((Question.appendCap m 0 e).cut (w.tape w.drawn (.appendCap m 0 e)) - m)).size = (Question.appendCap m 0 e).cut (w.tape w.drawn (.appendCap m 0 e)) * j.size := by
      rw [Array.empty_append, Array.size_append, zeroCells_size, zeroCells_size, hz2, ← Nat.add_mul]
      congr 1; omega
    generalize (Question.appendCap m 0 e).cut (w.tape w.drawn (.appendCap m 0 e)) = C at *
    have hs' : Sit β s w.drew := ⟨hs.blk, hs.inj, hs.low⟩
    have hbr : BRep (upd β s.n (w.drew.heap.size, C * j.size)) (.cells e (m * j.size) j.zero .lf true true) (some (.cells (#[] ++ Builtin.zeroCells z.cells m ++ Builtin.zeroCells z.cells (C - m)) e (0, 0))) (C * j.size) := by
      refine ⟨_, _, _, rfl, hsize, Nat.mul_le_mul_right _ hC1, fun e => (by cases e), fun _ => ⟨rfl, rfl⟩, ?_⟩
      intro i a ha
      have hin := cellAt_lt ha
      unfold cellAt at ha
      rw [blt_of hin] at ha
      simp only [cond_true, get_lf] at ha
      obtain ⟨u, hu, hr⟩ := (hzr _).nth ha
      refine ⟨u, ?_, hr⟩
      have hlt : i % z.cells.size < z.cells.size := Nat.mod_lt _ (by omega)
      rw [Array.empty_append, Array.getElem?_append_left (by rw [zeroCells_size, hz2]; exact hin)]
      have hu' : z.cells[i % z.cells.size]? = some u := by
        rw [← hu, hzl]; simp
      simp only [Builtin.zeroCells, Array.getElem?_map]
      rw [Array.getElem?_range, if_pos (by rw [hz2]; exact hin)]
      simp only [Option.map_some]
      rw [getElem!_pos z.cells _ hlt]
      rw [Array.getElem?_eq_getElem hlt] at hu'
      exact hu'
    have hx := ext_new (lo := lo) hs' hbr
    exact ⟨_, _, _, run, ⟨hx.sit, hx.os, hx.tape, hx.output, hx.size, hx.same, hx.le, hx.keep, hx.new, hx.old⟩, ⟨_, _, C, upd_at _ _ _, rfl, hC1, hC1, by rw [Nat.zero_add], c1', hC2⟩⟩
  case h_3 => cases h
  case h_2 e hd hne =>
  have hxd : ∀ k, xi.d ≠ .int k := fun k hk => hne k hk
  split at h
  case h_1 => cases h
  case h_2 j hj =>
  split at h
  case h_1 => cases h
  case h_2 m hm =>
  split at h
  case h_1 => cases h
  case h_2 news hnews =>
  cases hc : (Nat.blt 0 j.size && (j.zero.length == j.size) && Nat.ble (j.bytes) 1048576 && (news.length == m * j.size) && allScalar news) with
  | false => rw [hc] at h; cases h
  | true =>
  rw [hc] at h
  simp only [Bool.not_true, cond_false] at h
  simp only [Bool.and_eq_true, beq_iff_eq, Nat.ble_eq] at hc
  obtain ⟨⟨⟨⟨c1, c2⟩, c3⟩, c4⟩, c5⟩ := hc
  have c1' : 0 < j.size := by
    have : 0 + 1 ≤ j.size := by simpa [Nat.blt, Nat.ble_eq] using c1
    omega
  obtain ⟨vs, hv1, hv2⟩ := firstAV_ok (P := P) hs hnews hy
  have hlen := lenAV_ok (P := P) hm hy
  have hvl := Reps.length hv2
  cases x <;> try (simp at h; done)
  case nils =>
    cases hx
    simp only at h
    cases hm0 : (m == 0) with
    | true =>
      rw [hm0] at h
      cases h
      obtain rfl := eq_of_beq hm0
      exact .stay hs (append_none hi hd hj hxi hxd h0 h1 a0 a1 hlen (hv1 w rfl)) rfl
    | false =>
      rw [hm0] at h
      simp only [cond_false] at h
      cases hm1 : Nat.ble m 1048576 with
      | false => rw [hm1] at h; cases h
      | true =>
        rw [hm1] at h
        cases h
        rw [Nat.ble_eq] at hm1
        have hm0' : m ≠ 0 := by simpa using hm0
        obtain ⟨C, zc, g1, g2, g3, g4⟩ := append_grows (w := w) (ty := ty) (olds := #[]) hi hd hj hxi hxd h0 h1 a0 a1 hlen (by omega) (by omega) c3 (fun w' _ => rfl) hv1
        rw [Nat.zero_add] at g1 g4
        refine grown_ok hs hv2 c1' c4 g1 g2 (g3.trans c2) ?_
        rw [g4]
        simp
  case slc b off len cap =>
    obtain ⟨nb, tt, c, hbe, rfl, hlc, hcap⟩ := hx
    have fits : ∀ {s' : St}, len + m ≤ c → storeAt s lo b (off + len * j.size) news = some s' → SG P (Builtin.append_ ts ty as) lo β s w (.slc b off (len + m) cap) s' := by
      intro s' hle hst
      obtain ⟨w', q1, q2⟩ := storeAt_ok (P := P) hs hst hbe hv2
      refine ⟨_, w', β, append_fits hi hd hj hxi hxd h0 h1 a0 a1 hlen hle (hv1 w rfl) (by rw [addr_add]; simpa using q1), q2, nb, tt, c, hbe, rfl, hle, hcap⟩
    cases cap with
    | fix cap =>
      obtain rfl : c = cap := hcap
      simp only at h
      cases hle : Nat.ble (len + m) c with
      | true =>
        rw [hle] at h
        simp only [cond_true] at h
        rw [Nat.ble_eq] at hle
        split at h
        · rename_i s1 hst
          cases h
          exact fits hle hst
        · cases h
      | false =>
        rw [hle] at h
        simp only [cond_false] at h
        have hgt : c < len + m := by
          rcases Nat.lt_or_ge c (len + m) with g | g
          · exact g
          · rw [show Nat.ble (len + m) c = true by rw [Nat.ble_eq]; exact g] at hle; cases hle
        split at h
        · cases h
        · rename_i old hold
          cases hlim : Nat.ble (len + m) 1048576 with
          | false => rw [hlim] at h; cases h
          | true =>
            rw [hlim] at h
            cases h
            rw [Nat.ble_eq] at hlim
            obtain ⟨os, ho1, ho2⟩ := firstAV_ok (P := P) hs hold (x := .slc b off len (.fix c)) (u := .slice (some ⟨nb, off, none⟩) len c) ⟨nb, tt, c, hbe, rfl, hlc, rfl⟩
            obtain ⟨C, zc, g1, g2, g3, g4⟩ := append_grows (w := w) (ty := ty) hi hd hj hxi hxd h0 h1 a0 a1 hlen hgt hlim c3 ho1 hv1
            have hol : old.length = len * j.size := by
              simp only [firstAV] at hold
              split at hold
              · exact loadN_length hold
              · cases hold
            refine grown_ok hs (ho2.append hv2) c1' (by rw [List.length_append, hol, c4, Nat.add_mul]) g1 g2 (g3.trans c2) ?_
            rw [g4]
            simp
    | opn size least =>
      obtain ⟨k1, k2, k3, k4⟩ := hcap
      simp only at h
      cases hsz : (size == j.size) with
      | false => rw [hsz] at h; cases h
      | true =>
      rw [hsz] at h
      obtain rfl := eq_of_beq hsz
      simp only [Bool.not_true, cond_false] at h
      cases hle : Nat.ble (len + m) least with
      | true =>
        rw [hle] at h
        simp only [cond_true] at h
        rw [Nat.ble_eq] at hle
        split at h
        · rename_i s1 hst
          cases h
          exact fits (by omega) hst
        · cases h
      | false =>
        rw [hle] at h
        simp only [cond_false] at h
        split at h
        case h_2 => cases h
        case h_1 T n zs tr hb =>
        cases hq : (Nat.ble lo b && (off == 0) && (n == len * j.size) && (T == e) && Nat.ble (len + m) 1048576) with
        | false => rw [hq] at h; cases h
        | true =>
        rw [hq] at h
        cases h
        simp only [Bool.and_eq_true, beq_iff_eq, Nat.ble_eq] at hq
        obtain ⟨⟨⟨⟨q1, rfl⟩, rfl⟩, rfl⟩, q5⟩ := hq
        obtain ⟨p, hp, cs, T', fr, hw, hcs, hn, _, hfr, hcell⟩ := hs.blk _ _ hb
        rw [hbe] at hp
        cases hp
        obtain ⟨rfl, rfl⟩ := hfr rfl
        rw [Nat.zero_add] at k2
        have hlow := (hs.low b _ hbe).2
        -- what is known of the longer row
        have known : ∀ (cs' : Array Value) (i : Nat) (a : AV), len * j.size + m * j.size ≤ cs'.size → (∀ k, k < len * j.size → cs'[k]? = cs[k]?) → (∀ k, k < m * j.size → cs'[len * j.size + k]? = vs[k]?) → cellAt (len * j.size + m * j.size) zs (storeL tr (len * j.size) news) i = some a →
            ∀ β' : Beta, β.le β' → ∃ u, cs'[i]? = some u ∧ Rep β' a u := by
          intro cs' i a hsz h1 h2 hi' β' hβ
          have hin := cellAt_lt hi'
          rcases cellAt_storeL hi' with ⟨g1, g2, g3⟩ | ⟨g1, g2⟩
          · obtain ⟨u, hu, hr⟩ := hv2.at (i - len * j.size) a g3
            refine ⟨u, ?_, hr.mono' hβ⟩
            have := h2 (i - len * j.size) (by omega)
            rw [show len * j.size + (i - len * j.size) = i by omega] at this
            rw [this]; exact hu
          · have hlt : i < len * j.size := by omega
            have g2' : cellAt (len * j.size) zs tr i = some a := by
              unfold cellAt at g2 ⊢
              rw [blt_of hin] at g2
              rw [blt_of hlt]
              exact g2
            obtain ⟨u, hu, hr⟩ := hcell i a g2'
            exact ⟨u, by rw [h1 i hlt]; exact hu, hr.mono' hβ⟩
        have htt : len * j.size ≤ tt := by rw [← k2]; exact Nat.mul_le_mul_right _ hlc
        have hvs : vs.length = m * j.size := by rw [hvl, c4]
        rcases Nat.lt_or_ge c (len + m) with hgt | hge
        · -- a new row
          have hold : ∀ w' : World, w'.heap = w.heap → (Builtin.firstCells j.size len (.slice (some ⟨nb, 0, none⟩) len c)).run P w' = .ok ((cs.toList.take (len * j.size)).toArray) w' := by
            intro w' hw'
            simp only [Builtin.firstCells, loadCells]
            have := run_loads_raw (P := P) (T := T') (fr := (0, 0)) (nb := nb) (off := 0) (cs := cs) (len * j.size) 0 #[] (by omega) w' (by rw [hw']; exact hw)
            simpa using this
          obtain ⟨C, zc, g1, g2, g3, g4⟩ := append_grows (w := w) (ty := ty) hi hd hj hxi hxd h0 h1 a0 a1 hlen hgt q5 c3 hold hv1
          have htk : (cs.toList.take (len * j.size)).length = len * j.size := by rw [List.length_take, Array.length_toList]; omega
          have hbound : (len + m) * j.size ≤ C * j.size := Nat.mul_le_mul_right _ g1
          rw [Nat.add_mul] at hbound
          have hsize : ((cs.toList.take (len * j.size)).toArray ++ vs.toArray ++ Builtin.zeroCells zc (C - (len + m))).size = C * j.size := by
            rw [Array.size_append, Array.size_append, zeroCells_size, List.size_toArray, List.size_toArray, htk, hvs, g3, c2, ← Nat.add_mul, ← Nat.add_mul]
            congr 1; omega
          have hnew : (w.drew.alloc (.cells ((cs.toList.take (len * j.size)).toArray ++ vs.toArray ++ Builtin.zeroCells zc (C - (len + m))) T')).heap[w.heap.size]? = some (.cells ((cs.toList.take (len * j.size)).toArray ++ vs.toArray ++ Builtin.zeroCells zc (C - (len + m))) T' (0, 0)) := heap_alloc_new w.drew _
          refine ⟨_, _, upd β s.n (w.heap.size, C * j.size), g4, ext_move hs ⟨_, hb⟩ q1 hbe ?_ (by rw [World.size_alloc]; show w.heap.size < w.heap.size + 1; omega) (.inr (Nat.le_refl _)) ⟨rfl, rfl, rfl, by rw [World.size_alloc]; show w.heap.size ≤ w.heap.size + 1; omega, fun k hk _ => Below.heap_alloc w.drew _ k hk⟩, ⟨_, _, C, upd_at _ _ _, rfl, g1, g1, by rw [Nat.zero_add], c1', g2⟩⟩
          rw [hnew]
          refine ⟨_, _, _, rfl, hsize, by omega, fun e => (by cases e), fun _ => ⟨rfl, rfl⟩, fun i a ha => known _ i a (by rw [hsize]; omega) ?_ ?_ ha _ (hs.upd_le _)⟩
          · intro k hk
            rw [Array.append_assoc, Array.getElem?_append_left (by rw [List.size_toArray, htk]; exact hk), List.getElem?_toArray, List.getElem?_take_of_lt hk, Array.getElem?_toList]
          · intro k hk
            rw [Array.append_assoc, Array.getElem?_append_right (by rw [List.size_toArray, htk]; omega), List.size_toArray, htk, Array.getElem?_append_left (by rw [List.size_toArray, hvs]; omega), List.getElem?_toArray]
            congr 1; omega
        · -- in its place
          have hbound : (len + m) * j.size ≤ tt := by rw [← k2]; exact Nat.mul_le_mul_right _ hge
          rw [Nat.add_mul] at hbound
          obtain ⟨w', q, qh, qo, qt, qu⟩ := run_stores (P := P) (nb := nb) (T := T') (off := len * j.size) vs 0 w cs hw (by omega) (oneCells c5 hv2)
          have hget : w'.heap[nb]? = some (.cells (wr cs (len * j.size) vs) T' (0, 0)) := by
            rw [qh, Array.getElem?_setIfInBounds, if_pos rfl, if_pos hlow]; rfl
          have hst : (storeCells (Addr.add ⟨nb, 0, none⟩ (len * j.size)) vs.toArray.toList).run P w = .ok () w' := by rw [addr_add, Nat.zero_add]; simpa using q
          refine ⟨_, w', upd β s.n (nb, tt), append_fits hi hd hj hxi hxd h0 h1 a0 a1 hlen hge (hv1 w rfl) hst, ext_move hs ⟨_, hb⟩ q1 hbe ?_ (by rw [qh]; simpa using hlow) (.inl rfl) ⟨qo, qt, qu, by rw [qh]; simp, fun k hk hne => by rw [qh, Array.getElem?_setIfInBounds, if_neg (fun e => hne (by rw [e]))]⟩, ⟨_, _, c, upd_at _ _ _, rfl, hge, hge, by rw [Nat.zero_add]; exact k2, c1', k4⟩⟩
          rw [hget]
          refine ⟨_, _, _, rfl, by rw [wr_size]; exact hcs, by omega, fun e => (by cases e), fun _ => ⟨rfl, rfl⟩, fun i a ha => known _ i a (by rw [wr_size]; omega) ?_ ?_ ha _ (hs.upd_le _)⟩
          · intro k hk
            exact wr_out _ _ _ _ (.inl hk)
          · intro k hk
            exact wr_in _ _ _ _ (by omega) (by omega)
end
end Ev
end Go.Proofs.Ytnajbogmhhlpcaa
namespace Go.Proofs.Ytnajbogmhhlpcaa
open Go.RowKit
namespace Ev
set_option linter.unusedSectionVars false
variable [Env]
section
variable {P : Program} {β : Beta} {w : World} {s : St} {lo : Nat}
theorem at0 {α : Type} {a : Array α} {x : α} {l : List α} (h : a.toList = x :: l) : a[0]? = some x := by
  rw [← Array.getElem?_toList, h]; rfl
theorem at1 {α : Type} {a : Array α} {x y : α} {l : List α} (h : a.toList = x :: y :: l) : a[1]? = some y := by
  rw [← Array.getElem?_toList, h]; rfl
theorem builtin_ok (hs : Sit β s w) {b : Builtin} {ts : Array TypeId} {ty : TypeId} {cs : Array Bool} {as : Array Value} {l : List AV} (hl : Reps β l as.toList) {r : AV} {s' : St} (h : callBuiltin P s lo b ts.toList l = some (r, s')) :
    ∃ u w' β', (builtin b ts ty cs as).run P w = .ok (.value u) w' ∧ Ext lo β s w β' s' w' ∧ Rep β' r u := by
  have wrapv : ∀ {x : Sem Value}, SG P x lo β s w r s' → ∃ u w' β', ((do pure (Next.value (← x)) : Sem Next)).run P w = .ok (.value u) w' ∧ Ext lo β s w β' s' w' ∧ Rep β' r u := by
    rintro x ⟨u, w', β', h1, h2, h3⟩
    exact ⟨u, w', β', by rw [Sem.run_bind, h1]; rfl, h2, h3⟩
  unfold callBuiltin at h
  generalize hts : ts.toList = tl at h
  split at h
  case h_1 t xt rest x y rest' =>
    obtain ⟨u, m, e1, hx, v, m', e2, hy, _⟩ := hl
    exact wrapv (append_ok hs (at0 hts) (at1 hts) (at0 e1) (at1 (by rw [e1, e2])) hx hy h)
  case h_2 t rest x rest' =>
    obtain ⟨u, m, e1, hx, _⟩ := hl
    split at h
    case h_1 => cases h
    case h_2 i hi =>
    have hun := run_under hi w
    have ht := at0 hts
    have ha := at0 e1
    refine wrapv ?_
    split at h
    case h_1 bs hd =>
      cases h; cases hx
      rw [hd] at hun
      exact .stay hs (u := goInt bs.length) (by simp only [Builtin.len_, ht, ha, Sem.run_bind, hun, Result.andThen_ok, size_mk, Sem.run_pure]) rfl
    case h_2 n e hd =>
      cases h
      rw [hd] at hun
      exact .stay hs (u := goInt n) (by simp only [Builtin.len_, ht, ha, Sem.run_bind, hun, Result.andThen_ok, Sem.run_pure]) rfl
    case h_3 e b off n cap hd =>
      cases h
      obtain ⟨nb, tt, c, _, rfl, _⟩ := hx
      rw [hd] at hun
      exact .stay hs (u := goInt n) (by simp only [Builtin.len_, ht, ha, Sem.run_bind, hun, Result.andThen_ok, Sem.run_pure]) rfl
    case h_4 e hd =>
      cases h; cases hx
      rw [hd] at hun
      exact .stay hs (u := goInt (0 : Nat)) (by simp only [Builtin.len_, ht, ha, Sem.run_bind, hun, Result.andThen_ok, Sem.run_pure]) rfl
    case h_5 e hd =>
      cases h
      obtain ⟨a, c, rfl⟩ := hx
      rw [hd] at hun
      exact .stay hs (u := goInt (0 : Nat)) (by simp only [Builtin.len_, ht, ha, Sem.run_bind, hun, Result.andThen_ok, Sem.run_pure]) rfl
    case h_6 k e hd =>
      cases h; cases hx
      rw [hd] at hun
      exact .stay hs (u := goInt 0) (by simp only [Builtin.len_, ht, ha, Sem.run_bind, hun, Result.andThen_ok, Sem.run_pure]) rfl
    case h_7 k e r' hd =>
      split at h
      case h_2 => cases h
      case h_1 l' hb =>
      cases h
      obtain ⟨nb, tt, hbe, rfl⟩ := hx
      obtain ⟨p, hp, es, clock, hw, hl'⟩ := hs.blk _ _ hb
      rw [hbe] at hp
      cases hp
      rw [hd] at hun
      have := MapRep.length hl'
      rw [Array.length_toList] at this
      refine .stay hs (u := goInt es.size) (by simp only [Builtin.len_, ht, ha, Sem.run_bind, hun, Result.andThen_ok, MapKept.run_getObj_map hw, Sem.run_pure]) ?_
      rw [this]; rfl
    case h_8 => cases h
  case h_3 t rest x rest' =>
    obtain ⟨u, m, e1, hx, _⟩ := hl
    split at h
    case h_1 => cases h
    case h_2 i hi =>
    have hun := run_under hi w
    have ht := at0 hts
    have ha := at0 e1
    refine wrapv ?_
    split at h
    case h_1 n e hd =>
      cases h
      rw [hd] at hun
      exact .stay hs (u := goInt n) (by simp only [Builtin.cap_, ht, ha, Sem.run_bind, hun, Result.andThen_ok, Sem.run_pure]) rfl
    case h_2 e b off n c hd =>
      cases h
      obtain ⟨nb, tt, c, _, rfl, _, rfl⟩ := hx
      rw [hd] at hun
      exact .stay hs (u := goInt c) (by simp only [Builtin.cap_, ht, ha, Sem.run_bind, hun, Result.andThen_ok, Sem.run_pure]) rfl
    case h_3 e hd =>
      cases h; cases hx
      rw [hd] at hun
      exact .stay hs (u := goInt (0 : Nat)) (by simp only [Builtin.cap_, ht, ha, Sem.run_bind, hun, Result.andThen_ok, Sem.run_pure]) rfl
    case h_4 => cases h
  case h_4 k x k' y =>
    obtain ⟨u, m, e1, rfl, v, m', rfl, rfl, rfl⟩ := hl
    cases hk : (k == k') with
    | false => rw [hk] at h; cases h
    | true =>
      rw [hk] at h
      cases h
      refine wrapv (.stay hs (u := .int k (if y < x then y else x)) ?_ ?_)
      · simp only [Builtin.min_, e1, List.foldlM_cons, List.foldlM_nil, Builtin.min2, Sem.run_bind, Sem.run_pure, Result.andThen_ok]
      · by_cases hlt : y < x <;> simp [hlt, Rep]
  case h_5 k x k' y =>
    obtain ⟨u, m, e1, rfl, v, m', rfl, rfl, rfl⟩ := hl
    cases hk : (k == k') with
    | false => rw [hk] at h; cases h
    | true =>
      rw [hk] at h
      cases h
      refine wrapv (.stay hs (u := .int k (if y > x then y else x)) ?_ ?_)
      · simp only [Builtin.max_, e1, List.foldlM_cons, List.foldlM_nil, Builtin.max2, Sem.run_bind, Sem.run_pure, Result.andThen_ok]
      · by_cases hlt : y > x <;> simp [hlt, Rep]
  case h_6 t rest x y rest' =>
    obtain ⟨u, m, e1, hx, v, m', e2, hy, _⟩ := hl
    have ht := at0 hts
    have ha := at0 e1
    have hb := at1 (by rw [e1, e2] : as.toList = u :: v :: m')
    split at h
    case h_1 => cases h
    case h_2 i hi =>
    split at h
    case h_2 => cases h
    case h_1 e hd =>
    split at h
    case h_1 => cases h
    case h_2 j hj =>
    split at h
    case h_2 => cases h
    case h_1 dl sl hdl hsl =>
    split at h
    case h_1 => cases h
    case h_2 news hnews =>
    have hun := run_under hi w
    rw [hd] at hun
    obtain ⟨vs, hv1, hv2⟩ := firstAV_ok (P := P) hs hnews hy
    have hlen := lenAV_ok (P := P) hsl hy w
    refine wrapv ?_
    split at h
    case h_1 =>
      cases h
      cases hx
      cases hdl
      refine .stay hs (u := goInt (0 : Nat)) ?_ rfl
      have hv1' : (Builtin.firstCells j.size (Nat.min sl 0) v).run P w = .ok vs.toArray w := hv1 w rfl
      simp only [Builtin.copy_, ht, ha, hb, Sem.run_bind, hun, Result.andThen_ok, Sem.run_pure, hlen, run_size hj, hv1']
      simp
    case h_2 b' off len cap =>
      split at h
      case h_2 => cases h
      case h_1 s1 hst =>
      cases h
      cases hdl
      obtain ⟨nb, tt, c, hbe, rfl, _⟩ := hx
      obtain ⟨w', q1, q2⟩ := storeAt_ok (P := P) hs hst hbe hv2
      refine ⟨goInt (Nat.min sl dl : Nat), w', β, ?_, q2, rfl⟩
      have hv1' : (Builtin.firstCells j.size (Nat.min sl dl) v).run P w = .ok vs.toArray w := hv1 w rfl
      simp only [Builtin.copy_, ht, ha, hb, Sem.run_bind, hun, Result.andThen_ok, Sem.run_pure, hlen, run_size hj, hv1', q1]
    case h_3 => cases h
  case h_7 t rest x =>
    obtain ⟨u, m, e1, hx, _⟩ := hl
    have ht := at0 hts
    have ha := at0 e1
    split at h
    case h_1 => cases h
    case h_2 i hi =>
    split at h
    case h_2 => cases h
    case h_1 e hd =>
    split at h
    case h_1 => cases h
    case h_2 j hj =>
    have hun := run_under hi w
    rw [hd] at hun
    refine wrapv ?_
    split at h
    case h_1 =>
      cases h; cases hx
      exact .stay hs (u := .tuple #[]) (by simp only [Builtin.clear_, ht, ha, Sem.run_bind, hun, Result.andThen_ok, Sem.run_pure]) ⟨_, rfl, rfl⟩
    case h_2 =>
      cases h
      obtain ⟨a, c, rfl⟩ := hx
      exact .stay hs (u := .tuple #[]) (by simp only [Builtin.clear_, ht, ha, Sem.run_bind, hun, Result.andThen_ok, Sem.run_pure]) ⟨_, rfl, rfl⟩
    case h_3 b' off len cap =>
      split at h
      case h_2 => cases h
      case h_1 s1 hst =>
      cases h
      obtain ⟨nb, tt, c, hbe, rfl, _⟩ := hx
      obtain ⟨z, hz⟩ := run_zero hj
      have hcyc := cycle_reps ((hz w).2 β) len
      have hzl := Reps.length ((hz w).2 β)
      rw [Array.length_toList] at hzl
      have hzc : Builtin.zeroCells z.cells len = (Array.range (len * j.zero.length)).map (z.cells[· % z.cells.size]!) := by unfold Builtin.zeroCells; rw [hzl]
      obtain ⟨w', q1, q2⟩ := storeAt_ok (P := P) hs hst hbe hcyc
      rw [← hzc] at q1
      refine ⟨.tuple #[], w', β, ?_, q2, ⟨_, rfl, rfl⟩⟩
      cases len with
      | zero =>
        have hnil : (Builtin.zeroCells z.cells 0).toList = [] := by simp [Builtin.zeroCells]
        rw [hnil] at q1
        cases q1
        simp only [Builtin.clear_, ht, ha, Sem.run_bind, hun, Result.andThen_ok, Sem.run_pure]
      | succ len =>
        simp only [Builtin.clear_, ht, ha, Sem.run_bind, hun, Result.andThen_ok, Sem.run_pure, (hz _).1, q1]
    case h_4 => cases h
  case h_8 => cases h
end
end Ev
end Go.Proofs.Ytnajbogmhhlpcaa
namespace Go.Proofs.Ytnajbogmhhlpcaa
open Go.RowKit
namespace Ev
set_option linter.unusedSectionVars false
variable [Env]
/-- An operation's run: what the runner says comes of it. -/
def OG (P : Program) (x : Sem Next) (lo : Nat) (β : Beta) (s : St) (w : World) (v : AV) (s' : St) : Prop :=
  ∃ u w' β', (x.run P w = .ok (.value u) w' ∨ (x.run P w = .ok .skip w' ∧ u = undef)) ∧ Ext lo β s w β' s' w' ∧ Rep β' v u
section
variable {P : Program} {β : Beta} {w : World} {s : St} {lo : Nat} {ρ : Operand → Value} {fr : Tr AV}
theorem OG.val {x : Sem Value} {v : AV} {s' : St} (h : SG P x lo β s w v s') : OG P (do pure (Next.value (← x))) lo β s w v s' := by
  obtain ⟨u, w', β', h1, h2, h3⟩ := h
  exact ⟨u, w', β', .inl (by rw [Sem.run_bind, h1]; rfl), h2, h3⟩
theorem OG.look (hs : Sit β s w) {x : Sem Value} {v : AV} (h : VG P x β w v) : OG P (do pure (Next.value (← x))) lo β s w v s := by
  obtain ⟨u, h1, h2⟩ := h
  exact .val (.stay hs h1 h2)
theorem OG.unit {x : Sem Unit} {s' : St} (h : SU P x lo β s w s') : OG P (do x; pure Next.skip) lo β s w (.tup []) s' := by
  obtain ⟨w', β', h1, h2⟩ := h
  exact ⟨undef, w', β', .inr ⟨by rw [Sem.run_bind, h1]; rfl, rfl⟩, h2, _, rfl, rfl⟩
/-- The operands' values. -/
def OpsRep (P : Program) (β : Beta) (fr : Tr AV) (ρ : Operand → Value) (l : List Operand) : Prop := ∀ x ∈ l, ∀ v, opnd P fr x = some v → Rep β v (ρ x)
theorem opnds_ok : ∀ {l : List Operand} {as : List AV}, OpsRep P β fr ρ l → opnds P fr l = some as → Reps β as (l.map ρ)
  | [], _, _, h => by cases h; rfl
  | x :: l, as, hρ, h => by
    simp only [opnds] at h
    split at h
    · rename_i v hv
      split at h
      · rename_i r hr
        cases h
        exact ⟨ρ x, l.map ρ, rfl, hρ x (by simp) v hv, opnds_ok (fun y hy => hρ y (by simp [hy])) hr⟩
      · cases h
    · cases h
theorem opndParts_ok : ∀ {l : List (Nat × Operand)} {as : List (Nat × AV)}, OpsRep P β fr ρ (l.map (·.2)) → opndParts P fr l = some as → PartsRep β as (l.map fun (i, x) => (i, ρ x))
  | [], _, _, h => by cases h; rfl
  | (i, x) :: l, as, hρ, h => by
    simp only [opndParts] at h
    split at h
    · rename_i v hv
      split at h
      · rename_i r hr
        cases h
        exact ⟨ρ x, _, rfl, hρ x (by simp) v hv, opndParts_ok (fun y hy => hρ y (by simp [hy])) hr⟩
      · cases h
    · cases h
theorem opndOpt_ok {x : Option Operand} {v : Option AV} (hρ : OpsRep P β fr ρ x.toList) (h : opndOpt P fr x = some v) : OptRep β v (x.map ρ) := by
  cases x with
  | none => cases h; rfl
  | some x =>
    simp only [opndOpt] at h
    split at h
    · rename_i u hu
      cases h
      exact ⟨ρ x, rfl, hρ x (by simp) u hu⟩
    · cases h
theorem evOp_ok (hs : Sit β s w) {dst : Option Tmp} {op : Op} {ty : TypeId} {pos : String} {after : Array Edge} {guard : Option (Nat × Bool)} (hρ : OpsRep P β fr ρ op.operands.toList) {v : AV} {s' : St} (h : evOp P lo fr s op = some (v, s')) :
    OG P (execOp ρ ⟨dst, op, ty, pos, after, guard⟩) lo β s w v s' := by
  cases op <;> try (simp [evOp] at h; done)
  case move x =>
    simp only [evOp, evMove] at h
    split at h
    case h_2 => cases h
    case h_1 a ha =>
    cases h
    exact ⟨ρ x, w, β, .inl rfl, Ext.refl hs, hρ x (by simp [Op.operands]) _ ha⟩
  case assign x =>
    simp only [evOp, evAssign] at h
    split at h
    case h_2 => cases h
    case h_1 a ha =>
    cases h
    exact ⟨ρ x, w, β, .inl rfl, Ext.refl hs, hρ x (by simp [Op.operands]) _ ha⟩
  case pick c a b =>
    simp only [evOp, evPick] at h
    split at h
    case h_2 => cases h
    case h_1 t ht =>
    split at h
    case h_2 => cases h
    case h_1 r hr =>
    cases h
    have hc : ρ c = .bool t := hρ c (by simp [Op.operands]) _ ht
    refine ⟨if t then ρ a else ρ b, w, β, .inl ?_, Ext.refl hs, ?_⟩
    · simp [execOp, hc, asBool]
    · cases t
      · exact hρ b (by simp [Op.operands]) _ hr
      · exact hρ a (by simp [Op.operands]) _ hr
  case alloc T =>
    simp only [evOp, evAlloc] at h
    split at h
    case h_2 => cases h
    case h_1 i hi =>
    cases h
    exact .val (alloc_ok hs hi)
  case box T x =>
    simp only [evOp, evBox] at h
    split at h
    case h_2 => cases h
    case h_1 a ha =>
    cases h
    exact .val (box_ok hs (hρ x (by simp [Op.operands]) _ ha))
  case build t parts =>
    simp only [evOp, evBuild] at h
    split at h
    case h_1 => cases h
    case h_2 i hi =>
    split at h
    case h_1 => cases h
    case h_2 ps hps =>
    have hq : PartsRep β ps (parts.map fun (i, x) => (i, ρ x)).toList := by
      rw [Array.toList_map]; exact opndParts_ok (by simpa [Op.operands] using hρ) hps
    split at h
    case h_1 fs hd =>
      split at h
      case h_1 => cases h
      case h_2 pl hpl =>
      split at h
      case h_1 => cases h
      case h_2 l hl =>
      cases h
      exact .val (build_struct_ok hs hi hd hpl hq hl)
    case h_2 n e hd =>
      split at h
      case h_1 => cases h
      case h_2 j hj =>
      split at h
      case h_1 => cases h
      case h_2 l hl =>
      cases h
      exact .val (build_array_ok hs hi hd hj hq hl)
    case h_3 => cases h
  case buildSlice t len parts =>
    simp only [evOp, evBuildSlice] at h
    split at h
    case h_1 => cases h
    case h_2 i hi =>
    split at h
    case h_1 => cases h
    case h_2 ps hps =>
    have hq : PartsRep β ps (parts.map fun (i, x) => (i, ρ x)).toList := by
      rw [Array.toList_map]; exact opndParts_ok (by simpa [Op.operands] using hρ) hps
    split at h
    case h_2 => cases h
    case h_1 e hd =>
    split at h
    case h_1 => cases h
    case h_2 j hj =>
    cases hc : (Nat.ble (len * j.size) 1048576 && (j.zero.length == j.size)) with
    | false => rw [hc] at h; cases h
    | true =>
      rw [hc] at h
      simp only [cond_true] at h
      simp only [Bool.and_eq_true] at hc
      split at h
      case h_1 => cases h
      case h_2 l hl =>
      cases h
      exact .val (buildSlice_ok hs hi hd hj hc.1 hc.2 hq hl)
  case load t a =>
    simp only [evOp, evLoad] at h
    split at h
    case h_2 => cases h
    case h_1 b off ha =>
    split at h
    case h_1 => cases h
    case h_2 i hi =>
    split at h
    case h_2 => cases h
    case h_1 r hr =>
    cases h
    exact .look hs (load_ok hs hi (hρ a (by simp [Op.operands]) _ ha) hr)
  case store t a x =>
    simp only [evOp, evStore] at h
    split at h
    case h_2 => cases h
    case h_1 b off ha =>
    split at h
    case h_1 => cases h
    case h_2 i hi =>
    split at h
    case h_1 => cases h
    case h_2 r hr =>
    cases hc : (r.cells.length == i.size) with
    | false => rw [hc] at h; cases h
    | true =>
      rw [hc] at h
      simp only [cond_true] at h
      split at h
      case h_2 => cases h
      case h_1 s1 hst =>
      cases h
      exact .unit (store_ok hs hi (hρ a (by simp [Op.operands]) _ ha) (hρ x (by simp [Op.operands]) _ hr) hc hst)
  case nilCheck x =>
    simp only [evOp, evNilCheck] at h
    split at h
    case h_5 => cases h
    case h_1 b off ha =>
      cases h
      obtain ⟨n, t, e, hx⟩ := hρ x (by simp [Op.operands]) _ ha
      exact ⟨_, w, β, .inl (by simp only [execOp, hx]; rfl), Ext.refl hs, n, t, e, rfl⟩
    case h_2 f cap ha =>
      cases h
      obtain ⟨vs, hx, hr⟩ := hρ x (by simp [Op.operands]) _ ha
      exact ⟨_, w, β, .inl (by simp only [execOp, hx]; rfl), Ext.refl hs, vs, rfl, hr⟩
    case h_3 b o l c ha =>
      cases h
      obtain ⟨n, t, c', e, hx, hr⟩ := hρ x (by simp [Op.operands]) _ ha
      exact ⟨_, w, β, .inl (by simp only [execOp, hx]; rfl), Ext.refl hs, n, t, c', e, rfl, hr⟩
    case h_4 b ha =>
      cases h
      obtain ⟨n, t, e, hx⟩ := hρ x (by simp [Op.operands]) _ ha
      exact ⟨_, w, β, .inl (by simp only [execOp, hx]; rfl), Ext.refl hs, n, t, e, rfl⟩
  case binOp op t x y yt =>
    simp only [evOp, evBinOp] at h
    split at h
    case h_1 => cases h
    case h_2 a ha =>
    split at h
    case h_1 => cases h
    case h_2 b hb =>
    split at h
    case h_2 => cases h
    case h_1 r hr =>
    cases h
    exact .look hs (binAV_ok hr (hρ x (by simp [Op.operands]) _ ha) (hρ y (by simp [Op.operands]) _ hb))
  case unOp op t x =>
    simp only [evOp, evUnOp] at h
    split at h
    case h_1 => cases h
    case h_2 a ha =>
    split at h
    case h_2 => cases h
    case h_1 r hr =>
    cases h
    exact .look hs (un_ok hr (hρ x (by simp [Op.operands]) _ ha))
  case convert src dst x =>
    simp only [evOp, evConvert] at h
    split at h
    case h_1 => cases h
    case h_2 a ha =>
    have hx := hρ x (by simp [Op.operands]) _ ha
    split at h
    case h_1 b off n cap =>
      split at h
      case h_2 => cases h
      case h_1 i j hi hj =>
      split at h
      case h_2 => cases h
      case h_1 e hid hjd =>
      split at h
      case h_2 => cases h
      case h_1 k hk =>
      split at h
      case h_2 => cases h
      case h_1 hkd =>
      split at h
      case h_2 => cases h
      case h_1 l hl =>
      split at h
      case h_2 => cases h
      case h_1 bs hbs =>
      cases h
      obtain ⟨vs, hv1, hv2⟩ := firstAV_ok (P := P) hs hl hx
      obtain ⟨nb, tt, c, hbe, hxe, _⟩ := hx
      have hl' : (loadCells ⟨nb, off, none⟩ n).run P w = .ok vs.toArray w := by
        have := hv1 w rfl
        rw [hxe] at this
        simpa only [Builtin.firstCells, Nat.mul_one] using this
      have := conv_bytes_ok (β := β) hi hj hk hid hjd hkd (cap := c) hl' hv2 hbs
      rw [← hxe] at this
      exact .look hs this
    case h_2 =>
      split at h
      case h_2 => cases h
      case h_1 r hr =>
      cases h
      exact .look hs (conv_ok hr hx)
  case makeInterface t x =>
    simp only [evOp, evMakeInterface] at h
    split at h
    case h_1 => cases h
    case h_2 i hi =>
    split at h
    case h_1 => cases h
    case h_2 hd =>
    split at h
    case h_2 => cases h
    case h_1 a ha =>
    cases h
    have hx := hρ x (by simp [Op.operands]) _ ha
    refine .look hs ⟨.iface t (ρ x), ?_, _, rfl, hx⟩
    have hun := run_under hi w
    simp only [Instr.makeInterface, Sem.run_bind, hun, Result.andThen_ok]
    first | rfl | (split <;> first | rfl | exact absurd ‹_› (hd _))
  case makeFunc fn first captured =>
    cases fn <;> try (simp [evOp] at h; done)
    case func f =>
    simp only [evOp, evMakeFunc] at h
    cases hf : first.isEmpty with
    | false => rw [hf] at h; cases h
    | true =>
      rw [hf] at h
      simp only [cond_true] at h
      split at h
      case h_2 => cases h
      case h_1 l hl =>
      cases h
      have hfe : first = #[] := by simpa using hf
      subst hfe
      have hr := opnds_ok (l := captured.toList) (by simpa [Op.operands] using hρ) hl
      exact .look hs ⟨.func (.func f) #[] (captured.map ρ), by simp [Instr.makeFunc], _, rfl, by rw [Array.toList_map]; exact hr⟩
  case makeMap t r =>
    cases r with
    | some x => simp [evOp] at h
    | none =>
      simp only [evOp, evMakeMap] at h
      split at h
      case h_1 => cases h
      case h_2 i hi =>
      cases h
      exact .val (makeMap_ok hs t)
  case makeSlice t l c =>
    simp only [evOp, evMakeSlice] at h
    split at h
    case h_1 => cases h
    case h_2 i hi =>
    split at h
    case h_2 => cases h
    case h_1 e hd =>
    split at h
    case h_1 => cases h
    case h_2 j hj =>
    split at h
    case h_2 => cases h
    case h_1 kl len kc cap hl hc =>
    cases hq : (decide (0 ≤ len) && decide (len ≤ cap) && decide (cap ≤ 1048576) && Nat.ble j.bytes 1048576 && (Nat.blt 0 j.zero.length && (j.zero.length == j.size))) with
    | false => rw [hq] at h; cases h
    | true =>
      rw [hq] at h
      cases h
      simp only [Bool.and_eq_true, decide_eq_true_eq, Nat.ble_eq, beq_iff_eq] at hq
      obtain ⟨⟨⟨⟨q1, q2⟩, q3⟩, q4⟩, q5, q6⟩ := hq
      have e1 : ρ l = .int kl len := hρ l (by simp [Op.operands]) _ hl
      have e2 : ρ c = .int kc cap := hρ c (by simp [Op.operands]) _ hc
      have q5' : 0 < j.zero.length := by
        have : 0 + 1 ≤ j.zero.length := by simpa [Nat.blt, Nat.ble_eq] using q5
        omega
      have := makeSlice_ok (P := P) (lo := lo) hs hi hd hj (kl := kl) (kc := kc) q1 q2 q3 q4 q5' q6
      rw [← e1, ← e2] at this
      exact .val this
  case slice t x lo' hi mx =>
    simp only [evOp, evSlice] at h
    split at h
    case h_1 => cases h
    case h_2 a ha =>
    split at h
    case h_1 => cases h
    case h_2 l hl =>
    split at h
    case h_1 => cases h
    case h_2 hh hhh =>
    split at h
    case h_1 => cases h
    case h_2 m hm =>
    split at h
    case h_2 => cases h
    case h_1 r hr =>
    cases h
    have hx := hρ x (by simp [Op.operands]) _ ha
    exact .look hs (slice_ok hr hx (opndOpt_ok (fun y hy => hρ y (by simp [Op.operands]; simp at hy; simp [hy])) hl) (opndOpt_ok (fun y hy => hρ y (by simp [Op.operands]; simp at hy; simp [hy])) hhh) (opndOpt_ok (fun y hy => hρ y (by simp [Op.operands]; simp at hy; simp [hy])) hm))
  case fieldAddr st x f =>
    simp only [evOp, evFieldAddr] at h
    split at h
    case h_1 => cases h
    case h_2 i hi =>
    split at h
    case h_2 => cases h
    case h_1 fs hd =>
    split at h
    case h_1 => cases h
    case h_2 fd hf =>
    split at h
    case h_1 => cases h
    case h_2 j hj =>
    cases hz : (j.size == 0) with
    | true => rw [hz] at h; cases h
    | false =>
      rw [hz] at h
      simp only [cond_false] at h
      split at h
      case h_2 => cases h
      case h_1 b off ha =>
      cases h
      exact .look hs (field_addr_ok hi hd hf hj hz (hρ x (by simp [Op.operands]) _ ha))
  case field t x f =>
    simp only [evOp, evField] at h
    split at h
    case h_1 => cases h
    case h_2 i hi =>
    split at h
    case h_2 => cases h
    case h_1 fs hd =>
    split at h
    case h_1 => cases h
    case h_2 fd hf =>
    split at h
    case h_1 => cases h
    case h_2 j hj =>
    split at h
    case h_2 => cases h
    case h_1 cs ha =>
    split at h
    case h_2 => cases h
    case h_1 r hr =>
    cases h
    exact .look hs (field_ok hi hd hf hj (hρ x (by simp [Op.operands]) _ ha) hr)
  case indexAddr t x ix =>
    simp only [evOp, evIndexAddr] at h
    split at h
    case h_2 => cases h
    case h_1 kk k hk =>
    have e1 : ρ ix = .int kk k := hρ ix (by simp [Op.operands]) _ hk
    split at h
    case h_1 => cases h
    case h_2 i hi =>
    split at h
    case h_1 n e b off hd ha =>
      split at h
      case h_1 => cases h
      case h_2 j hj =>
      cases hq : (decide (0 ≤ k) && decide (k < (n : Int))) with
      | false => rw [hq] at h; cases h
      | true =>
        rw [hq] at h
        cases h
        simp only [Bool.and_eq_true, decide_eq_true_eq] at hq
        have := index_addr_arr_ok (w := w) hi hd hj (hρ x (by simp [Op.operands]) _ ha) (kk := kk) hq.1 hq.2
        rw [← e1] at this
        exact .look hs this
    case h_2 e b off len cap hd ha =>
      split at h
      case h_1 => cases h
      case h_2 j hj =>
      cases hq : (decide (0 ≤ k) && decide (k < (len : Int))) with
      | false => rw [hq] at h; cases h
      | true =>
        rw [hq] at h
        cases h
        simp only [Bool.and_eq_true, decide_eq_true_eq] at hq
        have := index_addr_slc_ok (w := w) hi hd hj (hρ x (by simp [Op.operands]) _ ha) (kk := kk) hq.1 hq.2
        rw [← e1] at this
        exact .look hs this
    case h_3 => cases h
  case index t x ix =>
    simp only [evOp, evIndex] at h
    split at h
    case h_2 => cases h
    case h_1 kk k hk =>
    have e1 : ρ ix = .int kk k := hρ ix (by simp [Op.operands]) _ hk
    split at h
    case h_1 => cases h
    case h_2 i hi =>
    split at h
    case h_1 n e cs hd ha =>
      split at h
      case h_1 => cases h
      case h_2 j hj =>
      cases hq : (decide (0 ≤ k) && decide (k < (n : Int))) with
      | false => rw [hq] at h; cases h
      | true =>
        rw [hq] at h
        simp only [cond_true] at h
        simp only [Bool.and_eq_true, decide_eq_true_eq] at hq
        split at h
        case h_2 => cases h
        case h_1 r hr =>
        cases h
        have := index_arr_ok (w := w) hi hd hj (hρ x (by simp [Op.operands]) _ ha) (kk := kk) hq.1 hq.2 hr
        rw [← e1] at this
        exact .look hs this
    case h_2 bs hd ha =>
      cases hq : decide (0 ≤ k) with
      | false => rw [hq] at h; cases h
      | true =>
        rw [hq] at h
        simp only [cond_true] at h
        split at h
        case h_2 => cases h
        case h_1 c hc =>
        cases h
        have := index_str_ok (w := w) hi hd (hρ x (by simp [Op.operands]) _ ha) (kk := kk) (of_decide_eq_true hq) hc
        rw [← e1] at this
        exact .look hs this
    case h_3 => cases h
  case lookup t x ix ok =>
    simp only [evOp, evLookup] at h
    split at h
    case h_1 => cases h
    case h_2 i hi =>
    split at h
    case h_2 => cases h
    case h_1 kt et hd =>
    split at h
    case h_2 => cases h
    case h_1 ki ei m k hki hei hm hk =>
    cases hq : keyDesc ki.d k with
    | false => rw [hq] at h; cases h
    | true =>
      rw [hq] at h
      simp only [cond_true] at h
      have hx := hρ x (by simp [Op.operands]) _ hm
      have hkx := hρ ix (by simp [Op.operands]) _ hk
      split at h
      case h_1 => cases h
      case h_2 r hf =>
        cases h
        exact .look hs (lookup_ok hs hi hd hki hei hx hkx hq hf)
      case h_3 hf =>
        cases h
        exact .look hs (lookup_ok hs hi hd hki hei hx hkx hq hf)
  case mapUpdate t m k x =>
    simp only [evOp, evMapUpdate] at h
    split at h
    case h_2 => cases h
    case h_1 r kv a hm hk ha =>
    obtain ⟨rfl, h2⟩ := upd_ok hs h (hρ m (by simp [Op.operands]) _ hm) (hρ k (by simp [Op.operands]) _ hk) (hρ x (by simp [Op.operands]) _ ha)
    exact .unit h2
  case insert t m k x =>
    simp only [evOp, evMapUpdate] at h
    split at h
    case h_2 => cases h
    case h_1 r kv a hm hk ha =>
    obtain ⟨rfl, h2⟩ := upd_ok hs h (hρ m (by simp [Op.operands]) _ hm) (hρ k (by simp [Op.operands]) _ hk) (hρ x (by simp [Op.operands]) _ ha)
    exact .unit h2
  case range t x =>
    simp only [evOp, evRange] at h
    split at h
    case h_1 => cases h
    case h_2 i hi =>
    split at h
    case h_2 => cases h
    case h_1 bs hd ha =>
    cases h
    exact .val (range_ok hs hi hd (hρ x (by simp [Op.operands]) _ ha))
  case next it isS =>
    cases isS with
    | false => simp [evOp] at h
    | true =>
      simp only [evOp, evNext] at h
      split at h
      case h_2 => cases h
      case h_1 b ha =>
      cases hq : Nat.ble lo b with
      | false => rw [hq] at h; cases h
      | true =>
        rw [hq] at h
        simp only [cond_true] at h
        rw [Nat.ble_eq] at hq
        split at h
        case h_2 => cases h
        case h_1 bs p hb =>
        exact .val (next_ok hs (hρ it (by simp [Op.operands]) _ ha) hb hq ty h)
  case extract x k =>
    simp only [evOp, evExtract] at h
    split at h
    case h_2 => cases h
    case h_1 l ha =>
    split at h
    case h_2 => cases h
    case h_1 r hr =>
    cases h
    exact .look hs (extract_ok (hρ x (by simp [Op.operands]) _ ha) hr)
  case call c =>
    obtain ⟨callee, args, ats⟩ := c
    cases callee <;> try (simp [evOp, evCall] at h; done)
    case builtin b =>
    simp only [evOp, evCall] at h
    split at h
    case h_2 => cases h
    case h_1 l hl =>
    have hr := opnds_ok (l := args.toList) (by simpa [Op.operands, Call.operands] using hρ) hl
    obtain ⟨u, w', β', h1, h2, h3⟩ := builtin_ok hs (ty := ty) (cs := args.map fun | .const _ => true | _ => false) (as := args.map ρ) (by rw [Array.toList_map]; exact hr) h
    exact ⟨u, w', β', .inl (by simp only [execOp, resolve, Sem.run_bind, Sem.run_pure, Result.andThen_ok, invoke]; exact h1), h2, h3⟩
end
end Ev
end Go.Proofs.Ytnajbogmhhlpcaa
namespace Go.Proofs.Ytnajbogmhhlpcaa
open Go.RowKit
namespace Ev
set_option linter.unusedSectionVars false
variable [Env]
structure FRep (β : Beta) (nt : Nat) (fr : Tr AV) (a : Act) : Prop where
  size : a.tmps.size = nt
  defers : a.defers = []
  at_ : ∀ t, Rep β (slotV (fr.get (path t))) (a.tmps.getD t undef)
def Globs (P : Program) (β : Beta) : Prop := ∀ g, g < P.globals.size → ∃ t, β g = some (g, t)
theorem FRep.mono {β β' : Beta} {nt : Nat} {fr : Tr AV} {a : Act} (h : FRep β nt fr a) (hb : β.le β') : FRep β' nt fr a := ⟨h.size, h.defers, fun t => (h.at_ t).mono' hb⟩
theorem Globs.mono {P : Program} {β β' : Beta} (h : Globs P β) (hb : β.le β') : Globs P β' := fun g hg => let ⟨t, e⟩ := h g hg; ⟨t, hb _ _ e⟩
section
variable {P : Program} {β : Beta} {w : World} {s : St} {lo nt : Nat} {fr : Tr AV} {a : Act}
theorem opnd_ok (hf : FRep β nt fr a) (hg : Globs P β) {x : Operand} {v : AV} (h : opnd P fr x = some v) : Rep β v (a.eval x) := by
  cases x with
  | tmp t => cases h; exact hf.at_ t
  | const c => exact ofV_rep h
  | global g =>
    simp only [opnd] at h
    cases hc : Nat.blt g P.globals.size with
    | false => rw [hc] at h; cases h
    | true =>
      rw [hc] at h
      cases h
      have : g + 1 ≤ P.globals.size := by simpa [Nat.blt, Nat.ble_eq] using hc
      obtain ⟨t, e⟩ := hg g (by omega)
      exact ⟨g, t, e, rfl⟩
  | func f => cases h; exact ⟨#[], rfl, rfl⟩
theorem opsRep (hf : FRep β nt fr a) (hg : Globs P β) (l : List Operand) : OpsRep P β fr a.eval l := fun _ _ _ h => opnd_ok hf hg h
theorem put_ok (hf : FRep β nt fr a) {dst : Option Tmp} {v : AV} {u : Value} (hv : Rep β v u) {fr' : Tr AV} (h : put nt fr dst v = some fr') : FRep β nt fr' (a.put dst u) := by
  cases dst with
  | none => cases h; exact hf
  | some d =>
    simp only [put] at h
    cases hc : Nat.blt d nt with
    | false => rw [hc] at h; cases h
    | true =>
      rw [hc] at h
      cases h
      have hd : d + 1 ≤ nt := by simpa [Nat.blt, Nat.ble_eq] using hc
      refine ⟨by simp [Act.put, hf.size], hf.defers, fun t => ?_⟩
      rw [get_put]
      have hsz := hf.size
      by_cases e : t = d
      · subst e
        rw [if_pos rfl]
        have hlt : t < a.tmps.size := by rw [hsz]; exact hd
        have : (a.tmps.setIfInBounds t u).getD t undef = u := by
          rw [Array.getD_eq_getD_getElem?, Array.getElem?_setIfInBounds, if_pos rfl, if_pos hlt]; rfl
        simp only [Act.put, this]
        exact hv
      · rw [if_neg e]
        have : (a.tmps.setIfInBounds d u).getD t undef = a.tmps.getD t undef := by
          rw [Array.getD_eq_getD_getElem?, Array.getD_eq_getD_getElem?, Array.getElem?_setIfInBounds, if_neg (fun h => e h.symm)]
        simp only [Act.put, this]
        exact hf.at_ t
theorem rep_bool {v : AV} {b : Bool} (h : Rep β v (.bool b)) : v = .bool b := by
  cases v with
  | sym s =>
    exfalso
    cases s with
    | txt i l => obtain ⟨e, _⟩ := h; cases e
    | lin l a b => cases h
    | res n r => obtain ⟨z, e, _⟩ := h; cases e
    | rng k lo hi => obtain ⟨z, e, _⟩ := h; cases e
  | bool c => cases h; rfl
  | _ => exfalso; simp [Rep] at h
theorem wanted_at {ops : Array Oper} {o : Oper} {b : Bool} (hat : ∀ d ∈ o.looksAt ops, Rep β (slotV (fr.get (path d))) (a.tmps.getD d undef)) (h : wantedOp fr ops o = some b) : Region.wanted o (yielded ops a.tmps) = b := by
  unfold wantedOp at h
  unfold Region.wanted
  split at h
  case h_1 hg => rw [hg]; cases h; rfl
  case h_2 j want hg =>
  rw [hg]
  simp only [yielded]
  split at h
  case h_2 hj => cases h; rw [hj]; rfl
  case h_1 g hj =>
  split at h
  case h_2 hd => cases h; rw [hj]; simp [hd]
  case h_1 d hd =>
  rw [hj]
  simp only [Option.bind_some, hd]
  have hat := hat d (by simp [Oper.looksAt, hg, hj, hd])
  split at h
  case h_1 c hc =>
    cases h
    rw [hc] at hat
    have hv : a.tmps.getD d undef = .bool c := hat
    rw [Array.getD_eq_getD_getElem?] at hv
    cases ht : a.tmps[d]? with
    | none => rw [ht] at hv; cases hv
    | some u =>
      rw [ht] at hv
      cases hv
      simp
  case h_2 hne =>
    cases h
    cases ht : a.tmps[d]? with
    | none => simp
    | some u =>
      cases u <;> try (simp; done)
      rename_i c
      rw [Array.getD_eq_getD_getElem?, ht] at hat
      have := rep_bool hat
      exfalso
      cases hx : fr.get (path d) with
      | none => rw [hx] at this; cases this
      | some x =>
        rw [hx] at this
        exact hne c (by rw [hx]; exact congrArg some this)
theorem wanted_ok (hf : FRep β nt fr a) {ops : Array Oper} {o : Oper} {b : Bool} (h : wantedOp fr ops o = some b) : Region.wanted o (yielded ops a.tmps) = b := wanted_at (fun d _ => hf.at_ d) h
/-- What the runner says of calls, as it is so in the model. -/
def CallOk (P : Program) (ih : Nat → Job → Option Out) : Prop :=
  ∀ lo f args s v s', ih lo (.call f args s) = some (.call v s') → ∀ (β : Beta) (w : World) (vs : Array Value), Sit β s w → Globs P β → Reps β args vs.toList →
    Calls P f vs w fun e w' => ∃ u β', e = .returned u ∧ Ext lo β s w β' s' w' ∧ Rep β' v u
def exOf : Ex → Exit
  | .nrm => .normal
  | .exit k => .exit k
  | .ret => .ret
def CodeOk (P : Program) (ih : Nat → Job → Option Out) : Prop :=
  ∀ lo nt c fr s e fr' s', ih lo (.code nt c fr s) = some (.code e fr' s') → ∀ (β : Beta) (w : World) (a : Act), Sit β s w → Globs P β → FRep β nt fr a →
    ∀ Q : Exit → Act → World → Prop, (∀ a' w' β', Ext lo β s w β' s' w' → FRep β' nt fr' a' → Q (exOf e) a' w') → c.wp P Q a w
theorem indexB_ok (c : Nat) (hc : c < 256) : ∀ (l : List UInt8) (i : Nat), indexB c l i = (if Lib.indexByte l (UInt8.ofNat c) == -1 then -1 else (i : Int) + Lib.indexByte l (UInt8.ofNat c)) ∧ -1 ≤ Lib.indexByte l (UInt8.ofNat c)
  | [], i => ⟨rfl, by simp [Lib.indexByte]⟩
  | x :: l, i => by
    have ih := indexB_ok c hc l (i + 1)
    have hx : Nat.beq x.toNat c = (x == UInt8.ofNat c) := by
      rw [Bool.eq_iff_iff, Nat.beq_eq, beq_iff_eq]
      constructor
      · intro h
        apply UInt8.toNat_inj.1
        rw [h, UInt8.toNat_ofNat', Nat.mod_eq_of_lt hc]
      · intro h
        rw [h, UInt8.toNat_ofNat', Nat.mod_eq_of_lt hc]
    simp only [indexB, Lib.indexByte, hx]
    by_cases hxx : (x == UInt8.ofNat c) = true
    · simp [hxx]
    · have hxf : (x == UInt8.ofNat c) = false := by simpa using hxx
      simp only [hxf, cond_false, Bool.false_eq_true, if_false]
      rw [ih.1]
      generalize Lib.indexByte l (UInt8.ofNat c) = k at *
      have h2 := ih.2
      by_cases hk : k = -1
      · subst hk; simp
      · have e1 : (k == -1) = false := by simpa using hk
        have e2 : (k + 1 == -1) = false := by simp; omega
        simp only [e1, e2, Bool.false_eq_true, if_false]
        omega
theorem rows_next : Extern.allNextRows.lookup "internal/bytealg.IndexByteString" = none ∧ Extern.allNextRows.lookup "" = none := ⟨by kernel_rfl, by kernel_rfl⟩
theorem rows_find : Extern.allGenericRows.lookup "internal/bytealg.IndexByteString" = none ∧ Extern.allTypedRows.lookup "internal/bytealg.IndexByteString" = none ∧ Extern.allRows.lookup "internal/bytealg.IndexByteString" = some Extern.BytealgIndexByte.indexByte := ⟨by kernel_rfl, by kernel_rfl, by kernel_rfl⟩
theorem extern_ok {fn : Func} {l : List AV} {v : AV} (h : evExtern fn l = some v) (hb : fn.body = none) {vs : Array Value} (hl : Reps β l vs.toList) {f : FuncId} (hf : P.funcs[f]? = some fn) :
    ∃ u, (callFunc f vs).run P w = .ok (.value u) w ∧ Rep β v u := by
  unfold evExtern at h
  cases hc : (fn.name == "internal/bytealg.IndexByteString" && fn.origin == "") with
  | false => rw [hc] at h; cases h
  | true =>
    rw [hc] at h
    simp only [Bool.and_eq_true, beq_iff_eq] at hc
    simp only [cond_true] at h
    split at h
    case h_2 => cases h
    case h_1 bs c =>
    cases hlt : Nat.blt c 256 with
    | false => rw [hlt] at h; cases h
    | true =>
      rw [hlt] at h
      cases h
      have hc' : c + 1 ≤ 256 := by simpa [Nat.blt, Nat.ble_eq] using hlt
      obtain ⟨u1, m1, e1, rfl, u2, m2, e2, rfl, e3⟩ := hl
      have hvs : vs = #[.string ⟨bs.toArray⟩, .int .u8 (Int.ofNat c)] := by
        apply Array.ext'
        rw [e1, e2, e3]
      have hnm : (fn.name == "runtime.NumGoroutine") = false := by rw [hc.1]; decide
      have hn : Extern.findNext fn = none := by
        unfold Extern.findNext
        simp only [hc.1, hc.2, rows_next.1, rows_next.2, Option.map_none]
        rfl
      have hfd : Extern.find fn = some Extern.BytealgIndexByte.indexByte := by
        unfold Extern.find
        simp only [hc.1, rows_find.1, rows_find.2.1, rows_find.2.2, Option.map_none]
        rfl
      refine ⟨.int .i64 (Lib.indexByte bs (UInt8.ofNat c)), ?_, ?_⟩
      · have hr := Lib.run_indexByteString (P := P) ⟨bs.toArray⟩ (Int.ofNat c) w
        rw [← hvs] at hr
        simp only [callFunc, Sem.run_bind, run_program, Result.andThen_ok, hf, hnm, Bool.false_eq_true, if_false, hb, Option.isNone_none, if_true, run_mark, hn, hfd, hr, Sem.run_pure]
        rfl
      · have := indexB_ok c (by omega) bs 0
        simp only [Rep]
        rw [this.1]
        by_cases hk : Lib.indexByte bs (UInt8.ofNat c) = -1
        · simp [hk]
        · have e1 : (Lib.indexByte bs (UInt8.ofNat c) == -1) = false := by simpa using hk
          simp only [e1, Bool.false_eq_true, if_false]
          simp
/-- One operation. -/
theorem evOper_ok {ih : Nat → Job → Option Out} (hcall : CallOk P ih) (hs : Sit β s w) (hg : Globs P β) {o : Oper} (hρ : OpsRep P β fr a.eval o.op.operands.toList) {v : AV} {s' : St} (h : evOper P lo ih fr s o = some (v, s')) {next : Act → World → Prop} {Q : Exit → Act → World → Prop}
    (hn : ∀ u w' β', Ext lo β s w β' s' w' → Rep β' v u → next (a.put o.dst u) w') : o.wp P a w next Q := by
  obtain ⟨dst, op, ty, pos, after, guard⟩ := o
  have plain : evOp P lo fr s op = some (v, s') → Oper.wp P ⟨dst, op, ty, pos, after, guard⟩ a w next Q := by
    intro h
    obtain ⟨u, w', β', h1, h2, h3⟩ := evOp_ok hs (dst := dst) (ty := ty) (pos := pos) (after := after) (guard := guard) hρ h
    unfold Oper.wp
    rcases h1 with h1 | ⟨h1, rfl⟩
    · rw [h1]; exact hn u w' β' h2 h3
    · rw [h1]; exact hn undef w' β' h2 h3
  unfold evOper at h
  split at h
  case h_2 => exact plain h
  case h_1 c hop =>
  simp only at hop
  split at h
  case h_2 => exact plain h
  case h_1 fo hco =>
  split at h
  case h_2 => cases h
  case h_1 f l hcal =>
  unfold callee at hcal
  rw [hco] at hcal
  simp only at hcal
  split at hcal
  case h_2 => cases hcal
  case h_1 g cap hfo =>
  split at hcal
  case h_2 => cases hcal
  case h_1 as has =>
  cases hcal
  subst hop
  simp only [Op.operands, Call.operands, hco] at hρ
  obtain ⟨cv, hv1, hv2⟩ := hρ fo (by simp) _ hfo
  have hargs := opnds_ok (l := c.args.toList) (fun x hx => hρ x (by simp [hx])) has
  have hall : Reps β (as ++ cap) ((c.args.map a.eval) ++ cv).toList := by
    rw [Array.toList_append, Array.toList_map]; exact hargs.append hv2
  have hrun : ∀ w : World, (execOp a.eval ⟨dst, .call c, ty, pos, after, guard⟩).run P w = (callFunc f (c.args.map a.eval ++ cv)).run P w := by
    intro w
    simp only [execOp, resolve, hco, hv1, Deferred.ofValue, Sem.run_bind, Sem.run_pure, Result.andThen_ok, invoke, Array.empty_append]
  split at h
  case h_1 => cases h
  case h_2 fn hfn =>
  split at h
  case h_1 hb =>
    split at h
    case h_2 => cases h
    case h_1 r hr =>
    cases h
    obtain ⟨u, h1, h2⟩ := extern_ok (w := w) hr hb hall hfn
    unfold Oper.wp
    rw [hrun, h1]
    exact hn u w β (Ext.refl hs) h2
  case h_2 body hb =>
    cases hnm : (fn.name == "runtime.NumGoroutine") with
    | true => rw [hnm] at h; cases h
    | false =>
    rw [hnm] at h
    simp only [cond_false] at h
    split at h
    case h_2 => cases h
    case h_1 r s1 hih =>
    cases h
    have h1 : (callFunc f (c.args.map a.eval ++ cv)).run P w = .ok (.enter f (c.args.map a.eval ++ cv)) w := by
      simp only [callFunc, Sem.run_bind, run_program, Result.andThen_ok, hfn, hnm, Bool.false_eq_true, if_false, hb, Option.isNone_some, Sem.run_pure]
    unfold Oper.wp
    rw [hrun, h1]
    refine (hcall lo f _ s v s' hih β w _ hs hg hall).mono ?_
    rintro e w' ⟨u, β', rfl, h2, h3⟩
    exact hn u w' β' h2 h3
/-! Regions whose order is the text's. -/
theorem evOps_ok {ih : Nat → Job → Option Out} (hcall : CallOk P ih) (ops : Array Oper) {Q : Exit → Act → World → Prop} : ∀ (l : List Oper) (is : List Nat) (fr : Tr AV) (s : St) (e : Ex) (fr' : Tr AV) (s' : St), is.map (ops[·]?) = l.map some →
    evOps P lo nt ih ops l fr s = some (.code e fr' s') → ∀ (β : Beta) (w : World) (a : Act), Sit β s w → Globs P β → FRep β nt fr a →
    (∀ a' w' β', Ext lo β s w β' s' w' → FRep β' nt fr' a' → e = .nrm → Q .normal a' w') → wpOps P ops Q is a w
  | [], is, fr, s, e, fr', s', hi, h, β, w, a, hs, hg, hf, hQ => by
    cases is with
    | cons i is => simp at hi
    | nil => cases h; exact hQ a w β (Ext.refl hs) hf rfl
  | o :: l, is, fr, s, e, fr', s', hi, h, β, w, a, hs, hg, hf, hQ => by
    cases is with
    | nil => simp at hi
    | cons i is =>
    simp only [List.map_cons, List.cons.injEq] at hi
    obtain ⟨hio, hil⟩ := hi
    simp only [evOps] at h
    simp only [wpOps, hio]
    split at h
    case h_3 => cases h
    case h_1 hw =>
      rw [if_pos (wanted_ok hf hw)]
      split at h
      case h_2 => cases h
      case h_1 v s1 ho =>
      split at h
      case h_2 => cases h
      case h_1 fr1 hp =>
      refine .inl (evOper_ok hcall hs hg (opsRep hf hg _) ho ?_)
      intro u w1 β1 hx hr
      have hle := hx.beta hs
      refine evOps_ok hcall ops l is fr1 s1 e fr' s' hil h β1 w1 _ hx.sit (hg.mono hle) (put_ok (hf.mono hle) hr hp) ?_
      intro a' w' β' hx' hf' he
      exact hQ a' w' β' (hx.trans hs hx') hf' he
    case h_2 hw =>
      rw [if_neg (by rw [wanted_ok hf hw]; simp)]
      split at h
      case h_2 => cases h
      case h_1 fr1 hp =>
      exact evOps_ok hcall ops l is fr1 s e fr' s' hil h β w _ hs hg (put_ok hf (show Rep β (.tup []) undef from ⟨#[], rfl, rfl⟩) hp) hQ
theorem range_map (ops : Array Oper) : (List.range ops.size).map (ops[·]?) = ops.toList.map some := by
  apply List.ext_getElem?
  intro i
  by_cases h : i < ops.size
  · simp [h]
  · simp [h]
theorem region_ok {ih : Nat → Job → Option Out} (hcall : CallOk P ih) {id : Nat} {ops : Array Oper} {e : Ex} {fr' : Tr AV} {s' : St} (h : evOps P lo nt ih ops ops.toList fr s = some (.code e fr' s')) (hs : Sit β s w) (hg : Globs P β) (hf : FRep β nt fr a)
    {Q : Exit → Act → World → Prop} (hQ : ∀ a' w' β', Ext lo β s w β' s' w' → FRep β' nt fr' a' → Q (exOf e) a' w') : (Code.region id ops false).wp P Q a w :=
  wp_region (evOps_ok hcall ops ops.toList _ fr s e fr' s' (range_map ops) h β w a hs hg hf fun a' w' β' hx hf' he => by have := hQ a' w' β' hx hf'; rw [he] at this; exact this)
/-! Results. -/
theorem ress_ok (hs : Sit β s w) (hf : FRep β nt fr a) : ∀ {l : List ResultVar} {as : List AV}, ress P s fr l = some as →
    ∃ vs : List Value, (l.mapM fun (x : ResultVar) => match x with
      | .tmp t => (pure (a.tmps.getD t undef) : Sem Value)
      | .cell p t => do loadVar t (← asAddr (a.tmps.getD p undef))).run P w = .ok vs w ∧ Reps β as vs
  | [], as, h => by cases h; exact ⟨[], rfl, rfl⟩
  | .tmp t :: l, as, h => by
    simp only [ress] at h
    split at h
    case h_2 => cases h
    case h_1 r hr =>
    cases h
    obtain ⟨vs, h1, h2⟩ := ress_ok hs hf hr
    refine ⟨a.tmps.getD t undef :: vs, ?_, _, vs, rfl, hf.at_ t, h2⟩
    rw [List.mapM_cons, Sem.run_bind]
    simp only [Sem.run_pure, Result.andThen_ok, Sem.run_bind, h1]
  | .cell p t :: l, as, h => by
    simp only [ress] at h
    split at h
    case h_2 => cases h
    case h_1 b off hb =>
    split at h
    case h_2 => cases h
    case h_1 i hi =>
    split at h
    case h_2 => cases h
    case h_1 v hv =>
    split at h
    case h_2 => cases h
    case h_1 r hr =>
    cases h
    obtain ⟨vs, h1, h2⟩ := ress_ok hs hf hr
    have hat := hf.at_ p
    rw [hb] at hat
    obtain ⟨u, q1, q3⟩ := load_ok (P := P) hs hi hat hv
    obtain ⟨nb, tt, hbe, hpe⟩ := hat
    have hpe' : a.tmps.getD p undef = .pointer (some ⟨nb, off, none⟩) := hpe
    have q1' : (loadVar t ⟨nb, off, none⟩).run P w = .ok u w := by
      have : (Instr.loadAt t (.pointer (some ⟨nb, off, none⟩))).run P w = (loadVar t ⟨nb, off, none⟩).run P w := by
        simp only [Instr.loadAt, Instr.sureAddr, Sem.run_bind, Sem.run_pure, Result.andThen_ok]
      rw [← this, ← hpe]; exact q1
    refine ⟨u :: vs, ?_, _, vs, rfl, q3, h2⟩
    rw [List.mapM_cons, Sem.run_bind]
    have hA : (asAddr (a.tmps.getD p undef)).run P w = .ok ⟨nb, off, none⟩ w := by rw [hpe']; rfl
    simp only [hA, Sem.run_pure, Result.andThen_ok, Sem.run_bind, q1', h1]
theorem results_ok {fn : Func} (hs : Sit β s w) (hf : FRep β nt fr a) {as : List AV} (h : ress P s fr fn.results.toList = some as) :
    ∃ u, (results fn a.tmps).run P w = .ok u w ∧ Rep β (oneOf as) u := by
  obtain ⟨vs, h1, h2⟩ := ress_ok hs hf h
  have hl := Reps.length h2
  have e : (fn.results.mapM fun (x : ResultVar) => match x with
      | .tmp t => (pure (a.tmps.getD t undef) : Sem Value)
      | .cell p t => do loadVar t (← asAddr (a.tmps.getD p undef))).run P w = .ok vs.toArray w := by
    rw [Array.mapM_eq_mapM_toList, Sem.run_map, h1]
    rfl
  refine ⟨if h : vs.toArray.size = 1 then vs.toArray[0] else .tuple vs.toArray, ?_, ?_⟩
  · unfold results
    rw [Sem.run_bind]
    refine (congrArg (fun r => Result.andThen r _) e).trans ?_
    rfl
  · match as, vs, h2, hl with
    | [v], [u], h2, _ =>
      obtain ⟨u', r, e, hr, _⟩ := h2
      cases e
      simpa [oneOf] using hr
    | [], [], h2, _ => exact ⟨#[], by simp, rfl⟩
    | v :: v' :: l, u :: u' :: r, h2, _ => exact ⟨(u :: u' :: r).toArray, by simp, h2⟩
end
end Ev
end Go.Proofs.Ytnajbogmhhlpcaa
namespace Go.Proofs.Ytnajbogmhhlpcaa
open Go.RowKit
namespace Ev
set_option linter.unusedSectionVars false
variable [Env]
/-! What one step of the runner says. -/
inductive How (P : Program) (lo : Nat) (ih : Nat → Job → Option Out) (ops : Array Oper) (o : Oper) (d d' : DSt) (v : AV) (r : Rec) : Prop where
  | skip (hw : wantedOp d.fr ops o = some false) (hv : v = .tup []) (hr : r.news = [] ∧ r.kind = .calm) (hc : d'.cores = d.cores) (hn : d'.n = d.n)
  | calm (s' : St) (hw : wantedOp d.fr ops o = some true) (he : evOp P d.n d.fr ⟨.lf, d.n⟩ o.op = some (v, s')) (hr : r.news = newsOf s'.h d.n (s'.n - d.n) ∧ r.kind = .calm) (hc : d'.cores = d.cores) (hn : d'.n = s'.n) (hle : d.n ≤ s'.n)
  | look (t : TypeId) (x : Operand) (b off : Nat) (hw : wantedOp d.fr ops o = some true) (ho : o.op = .load t x) (hx : opnd P d.fr x = some (.ptr b off))
      (hl : lookFirst P r.mask d.recs d.n t b off (d.cores.take (d.cores.length - writesIn r.mask d.recs 0)) = some v) (hb : belowAV d.n v = true) (hr : r.news = [] ∧ r.kind = .look ⟨t, b, off, v⟩) (hc : d'.cores = d.cores) (hn : d'.n = d.n)
  | writes (s' : St) (hw : wantedOp d.fr ops o = some true) (ha : allWrites r.mask d.recs 0 = true) (he : evOper P lo ih d.fr ⟨memOf d.core.h d.core.held r.mask d.recs 0, d.n⟩ o = some (v, s')) (hr : r.news = [] ∧ r.kind = .writes)
      (hc : d'.cores = ⟨s'.h, Nat.lor (Nat.lor d.core.held r.mask) (2 ^ d.recs.length)⟩ :: d.cores) (hn : d'.n = s'.n) (hle : d.n ≤ s'.n)
      (hs : looksStay P ⟨s'.h, Nat.lor (Nat.lor d.core.held r.mask) (2 ^ d.recs.length)⟩ r.mask (d.recs ++ [r]) s'.n d.recs 0 = true)
structure StepC (P : Program) (lo nt : Nat) (ih : Nat → Job → Option Out) (ops : Array Oper) (o : Oper) (d d' : DSt) (v : AV) (r : Rec) : Prop where
  mask : r.mask = maskOf (d.recs.map (·.mask)) o.after.toList
  apart : allApart ops o r.mask d.done 0 = true
  lt : r.mask < 2 ^ d.recs.length
  done : d'.done = d.done ++ [o]
  recs : d'.recs = d.recs ++ [r]
  fr : put nt d.fr o.dst v = some d'.fr
  how : How P lo ih ops o d d' v r
section
variable {P : Program} {lo nt : Nat} {ih : Nat → Job → Option Out} {ops : Array Oper}
theorem forceN_eq (n : Nat) : forceN n = n := by cases n <;> rfl
theorem step_of {o : Oper} {m : Nat} {d d' : DSt} (h : evDrawOp P lo nt ih ops o m d = some d') (hmask : m = maskOf (d.recs.map (·.mask)) o.after.toList) (hc1 : allApart ops o m d.done 0 = true) (hlt : m < 2 ^ d.recs.length) : ∃ v r, StepC P lo nt ih ops o d d' v r := by
  unfold evDrawOp at h
  split at h
  case h_1 => cases h
  case h_2 hw =>
    split at h
    case h_2 => cases h
    case h_1 fr' hp =>
    cases h
    exact ⟨.tup [], ⟨_, [], .calm⟩, hmask, hc1, hlt, rfl, rfl, hp, .skip hw rfl ⟨rfl, rfl⟩ rfl rfl⟩
  case h_3 hw =>
    split at h
    case h_1 v s' he =>
      cases hle : (!Nat.ble d.n s'.n) with
      | true => rw [hle] at h; cases h
      | false =>
      rw [hle] at h
      simp only [cond_false] at h
      split at h
      case h_2 => cases h
      case h_1 fr' hp =>
      cases h
      have hle' : d.n ≤ s'.n := by simpa [Nat.ble_eq] using hle
      exact ⟨v, ⟨_, newsOf s'.h d.n (s'.n - d.n), .calm⟩, hmask, hc1, hlt, rfl, rfl, hp, .calm s' hw he ⟨rfl, rfl⟩ rfl (forceN_eq _) hle'⟩
    case h_2 he =>
      split at h
      case h_1 t x ho =>
        split at h
        case h_2 => cases h
        case h_1 b off hx =>
        split at h
        case h_2 => cases h
        case h_1 v hl =>
        cases hb : belowAV d.n v with
        | false => rw [hb] at h; cases h
        | true =>
        rw [hb] at h
        simp only [Bool.not_true, cond_false] at h
        split at h
        case h_2 => cases h
        case h_1 fr' hp =>
        cases h
        exact ⟨v, ⟨_, [], .look ⟨t, b, off, v⟩⟩, hmask, hc1, hlt, rfl, rfl, hp, .look t x b off hw ho hx hl hb ⟨rfl, rfl⟩ rfl rfl⟩
      case h_2 ho =>
        cases ha : allWrites (m) d.recs 0 with
        | false => rw [ha] at h; cases h
        | true =>
        rw [ha] at h
        simp only [Bool.not_true, cond_false] at h
        split at h
        case h_2 => cases h
        case h_1 v s' he =>
        cases hle : (!Nat.ble d.n s'.n) with
        | true => rw [hle] at h; cases h
        | false =>
        rw [hle] at h
        simp only [cond_false] at h
        have hle' : d.n ≤ s'.n := by simpa [Nat.ble_eq] using hle
        split at h
        case h_2 => cases h
        case h_1 fr' hp =>
        rw [Bool.cond_eq_ite] at h
        split at h
        case isFalse => cases h
        case isTrue hst =>
        cases h
        exact ⟨v, ⟨_, [], .writes⟩, hmask, hc1, hlt, rfl, rfl, hp, .writes s' hw ha he ⟨rfl, rfl⟩ rfl (forceN_eq _) hle' hst⟩
theorem trace_of : ∀ (l : List Oper) (pl : List (Oper × Nat)) (d : DSt) (e : Ex) (fr' : Tr AV) (s' : St), planGo ops d.done (d.recs.map (·.mask)) l = some pl → evDraw P lo nt ih ops pl d = some (.code e fr' s') →
    ∃ (D : Nat → DSt) (V : Nat → AV) (R : Nat → Rec), D 0 = d ∧ (∀ k o, l[k]? = some o → StepC P lo nt ih ops o (D k) (D (k + 1)) (V k) (R k)) ∧
      e = .nrm ∧ fr' = (D l.length).fr ∧ s' = ⟨memOf (D l.length).core.h (D l.length).core.held (2 ^ (D l.length).recs.length - 1) (D l.length).recs 0, (D l.length).n⟩
  | [], pl, d, e, fr', s', hp, h => by
    cases hp
    cases h
    exact ⟨fun _ => d, fun _ => .nilp, fun _ => ⟨0, [], .calm⟩, rfl, fun k o ho => by simp at ho, rfl, rfl, rfl⟩
  | o :: l, pl, d, e, fr', s', hp, h => by
    simp only [planGo] at hp
    rw [Bool.cond_eq_ite] at hp
    split at hp
    case isTrue => cases hp
    case isFalse hc =>
    simp only [Bool.or_eq_true, Bool.not_eq_true', not_or, Bool.not_eq_false] at hc
    have hlt : maskOf (d.recs.map (·.mask)) o.after.toList < 2 ^ d.recs.length := by
      have : maskOf (d.recs.map (·.mask)) o.after.toList + 1 ≤ 2 ^ (d.recs.map (·.mask)).length := by simpa [Nat.blt, Nat.ble_eq] using hc.2
      rw [List.length_map] at this
      omega
    split at hp
    case h_2 => cases hp
    case h_1 r hr =>
    cases hp
    simp only [evDraw] at h
    split at h
    case h_2 => cases h
    case h_1 d1 h1 =>
    obtain ⟨v, rc, hst⟩ := step_of h1 rfl hc.1 hlt
    obtain ⟨D, V, R, q0, q1, q2, q3, q4⟩ := trace_of l r d1 e fr' s' (by rw [hst.done, hst.recs, List.map_append, List.map_cons, List.map_nil, hst.mask]; exact hr) h
    refine ⟨fun | 0 => d | k + 1 => D k, fun | 0 => v | k + 1 => V k, fun | 0 => rc | k + 1 => R k, rfl, ?_, q2, q3, q4⟩
    intro k o' ho
    cases k with
    | zero =>
      simp at ho
      subst ho
      show StepC P lo nt ih ops o d (D 0) v rc
      rw [q0]; exact hst
    | succ k => exact q1 k o' (by simpa using ho)
/-! Small facts: masks, memories, news. -/
theorem testBit_lor (a b k : Nat) : Nat.testBit (Nat.lor a b) k = (Nat.testBit a k || Nat.testBit b k) := Nat.testBit_or a b k
theorem testBit_two (i k : Nat) : Nat.testBit (2 ^ i) k = decide (i = k) := Nat.testBit_two_pow
theorem maskOf_mem {recs : List Nat} : ∀ {l : List Edge} {e : Edge}, e ∈ l → Region.binds .any e = true → Nat.testBit (maskOf recs l) e.on = true ∧ ∀ k, Nat.testBit (recMask recs e.on) k = true → Nat.testBit (maskOf recs l) k = true
  | [], _, he, _ => by cases he
  | x :: l, e, he, hb => by
    simp only [maskOf]
    cases he with
    | head =>
      rw [hb]
      simp only [cond_true, testBit_lor, testBit_two]
      exact ⟨by simp, fun k hk => by simp [hk]⟩
    | tail _ he =>
      have ih := maskOf_mem (recs := recs) he hb
      cases hx : Region.binds .any x with
      | false => exact ih
      | true =>
        simp only [cond_true, testBit_lor]
        exact ⟨by rw [ih.1]; simp, fun k hk => by rw [ih.2 k hk]; simp⟩
theorem maskOf_of {recs : List Nat} : ∀ {l : List Edge} {k : Nat}, Nat.testBit (maskOf recs l) k = true → ∃ e ∈ l, Region.binds .any e = true ∧ (e.on = k ∨ Nat.testBit (recMask recs e.on) k = true)
  | [], k, h => by simp [maskOf] at h
  | x :: l, k, h => by
    simp only [maskOf] at h
    cases hx : Region.binds .any x with
    | false =>
      rw [hx] at h
      obtain ⟨e, h1, h2⟩ := maskOf_of h
      exact ⟨e, by simp [h1], h2⟩
    | true =>
      rw [hx] at h
      simp only [cond_true, testBit_lor, testBit_two, Bool.or_eq_true, decide_eq_true_eq] at h
      rcases h with (h | h) | h
      · exact ⟨x, by simp, hx, .inl h⟩
      · exact ⟨x, by simp, hx, .inr h⟩
      · obtain ⟨e, h1, h2⟩ := maskOf_of h
        exact ⟨e, by simp [h1], h2⟩
theorem recMask_eq : ∀ (l : List Nat) (k : Nat), recMask l k = (match l[k]? with | some r => r | none => 0)
  | [], k => by simp [recMask]
  | _ :: _, 0 => rfl
  | _ :: l, k + 1 => by simpa [recMask] using recMask_eq l k
theorem testBit_lt {m n k : Nat} (h : m < 2 ^ n) (hk : Nat.testBit m k = true) : k < n := by
  rcases Nat.lt_or_ge k n with g | g
  · exact g
  · have : m < 2 ^ k := Nat.lt_of_lt_of_le h (Nat.pow_le_pow_right (by omega) g)
    rw [Nat.testBit_lt_two_pow this] at hk
    cases hk
theorem allApart_at {o : Oper} {mask : Nat} : ∀ {l : List Oper} {k0 : Nat}, allApart ops o mask l k0 = true → ∀ (j : Nat) (p : Oper), l[j]? = some p → Nat.testBit mask (k0 + j) = true ∨ o.apart ops p = true
  | [], _, _, _, _, hp => by simp at hp
  | x :: l, k0, h, 0, p, hp => by
    simp only [allApart, Bool.and_eq_true, Bool.or_eq_true] at h
    simp at hp
    subst hp
    exact h.1
  | x :: l, k0, h, j + 1, p, hp => by
    simp only [allApart, Bool.and_eq_true] at h
    have := allApart_at h.2 j p (by simpa using hp)
    rw [show k0 + (j + 1) = k0 + 1 + j by omega]
    exact this
theorem addNews_get : ∀ {l : List (Nat × Blk)} {h : Tr Blk} {i : Nat} {b : Blk}, (addNews h l).get (path i) = some b → (i, b) ∈ l ∨ h.get (path i) = some b
  | [], _, _, _, e => .inr e
  | (j, c) :: l, h, i, b, e => by
    simp only [addNews] at e
    rcases addNews_get e with g | g
    · exact .inl (by simp [g])
    · rw [get_put] at g
      by_cases hij : i = j
      · rw [if_pos hij] at g
        cases g
        exact .inl (by simp [hij])
      · rw [if_neg hij] at g
        exact .inr g
theorem memOf_get {held mask : Nat} : ∀ {l : List Rec} {k0 : Nat} {h : Tr Blk} {i : Nat} {b : Blk}, (memOf h held mask l k0).get (path i) = some b →
    h.get (path i) = some b ∨ ∃ j r, l[j]? = some r ∧ Nat.testBit mask (k0 + j) = true ∧ Nat.testBit held (k0 + j) = false ∧ (i, b) ∈ r.news
  | [], _, _, _, _, e => .inl e
  | r :: l, k0, h, i, b, e => by
    simp only [memOf] at e
    rcases memOf_get e with g | ⟨j, r', h1, h2, h3, h4⟩
    · split at g
      · exact .inl g
      · rename_i x xs hx
        cases hc : (Nat.testBit mask k0 && !Nat.testBit held k0) with
        | false => rw [hc] at g; exact .inl g
        | true =>
          rw [hc] at g
          simp only [Bool.and_eq_true, Bool.not_eq_true'] at hc
          rcases addNews_get g with g | g
          · exact .inr ⟨0, r, rfl, by simpa using hc.1, by simpa using hc.2, by rw [hx]; exact g⟩
          · exact .inl g
    · exact .inr ⟨j + 1, r', by simpa using h1, by rw [show k0 + (j + 1) = k0 + 1 + j by omega]; exact h2, by rw [show k0 + (j + 1) = k0 + 1 + j by omega]; exact h3, h4⟩
theorem newsOf_mem {h : Tr Blk} : ∀ {k n i : Nat} {b : Blk}, (i, b) ∈ newsOf h n k → n ≤ i ∧ i < n + k ∧ h.get (path i) = some b
  | 0, _, _, _, e => by cases e
  | k + 1, n, i, b, e => by
    simp only [newsOf] at e
    split at e
    · rename_i c hc
      cases e with
      | head => exact ⟨Nat.le_refl _, by omega, hc⟩
      | tail _ e =>
        have := newsOf_mem e
        exact ⟨by omega, by omega, this.2.2⟩
    · have := newsOf_mem e
      exact ⟨by omega, by omega, this.2.2⟩
theorem allWrites_at {mask : Nat} : ∀ {l : List Rec} {k0 : Nat}, allWrites mask l k0 = true → ∀ (j : Nat) (r : Rec), l[j]? = some r → r.kind = .writes → Nat.testBit mask (k0 + j) = true
  | [], _, _, _, _, hp, _ => by simp at hp
  | r :: l, k0, h, 0, r', hr, hk => by
    simp at hr
    subst hr
    simp only [allWrites, hk, Bool.and_eq_true] at h
    exact h.1
  | r :: l, k0, h, j + 1, r', hr, hk => by
    simp only [allWrites, Bool.and_eq_true] at h
    have := allWrites_at h.2 j r' (by simpa using hr) hk
    rw [show k0 + (j + 1) = k0 + 1 + j by omega]
    exact this
theorem looksStay_at {c : Core} {mask n : Nat} {all : List Rec} : ∀ {l : List Rec} {k0 : Nat}, looksStay P c mask all n l k0 = true → ∀ (j : Nat) (r : Rec) (x : Look), l[j]? = some r → r.kind = .look x → Nat.testBit mask (k0 + j) = true ∨ lookAll P r.mask all n x [c] = true
  | [], _, _, _, _, _, hp, _ => by simp at hp
  | r :: l, k0, h, 0, r', x, hr, hk => by
    simp at hr
    subst hr
    simp only [looksStay, hk, Bool.and_eq_true, Bool.or_eq_true] at h
    exact h.1
  | r :: l, k0, h, j + 1, r', x, hr, hk => by
    simp only [looksStay, Bool.and_eq_true] at h
    have := looksStay_at h.2 j r' x (by simpa using hr) hk
    rw [show k0 + (j + 1) = k0 + 1 + j by omega]
    exact this
theorem sameCap_eq : ∀ {a b : ACap}, sameCap a b = true → a = b
  | .fix a, .fix b, h => by simp [sameCap] at h; rw [h]
  | .opn a i, .opn b j, h => by simp [sameCap] at h; rw [h.1, h.2]
  | .fix _, .opn _ _, h => by simp [sameCap] at h
  | .opn _ _, .fix _, h => by simp [sameCap] at h
theorem sameTxts_eq : ∀ {l r : List (List UInt8)}, sameTxts l r = true → l = r
  | [], [], _ => rfl
  | a :: l, b :: r, h => by
    simp only [sameTxts, Bool.and_eq_true, sameBytes_eq, beq_iff_eq] at h
    rw [h.1, sameTxts_eq h.2]
  | [], _ :: _, h => by simp [sameTxts] at h
  | _ :: _, [], h => by simp [sameTxts] at h
theorem sameSym_eq {a b : Sym} (h : sameSym a b = true) : a = b := by
  cases a <;> cases b <;> simp only [sameSym, Bool.and_eq_true, beq_iff_eq, Nat.beq_eq, Bool.false_eq_true] at h
  · rw [h.1, sameTxts_eq h.2]
  · rw [h.1.1, h.1.2, h.2]
  · rw [h.1, h.2]
  · rw [h.1.1, h.1.2, h.2]
theorem sameSc_eq {a b : AV} (h : sameSc a b = true) : a = b := by
  cases a <;> cases b <;> simp [sameSc] at h <;> first
    | rfl
    | rw [sameSym_eq h]
    | (obtain ⟨⟨⟨h1, h2⟩, h3⟩, h4⟩ := h; rw [h1, h2, h3, sameCap_eq h4])
    | (obtain ⟨h1, h2⟩ := h; rw [h1, h2])
    | rw [h]
theorem sameScs_eq : ∀ {l r : List AV}, sameScs l r = true → l = r
  | [], [], _ => rfl
  | a :: l, b :: r, h => by
    simp only [sameScs, Bool.and_eq_true] at h
    rw [sameSc_eq h.1, sameScs_eq h.2]
  | [], _ :: _, h => by simp [sameScs] at h
  | _ :: _, [], h => by simp [sameScs] at h
theorem sameAV_eq {a b : AV} (h : sameAV a b = true) : a = b := by
  unfold sameAV at h
  split at h
  · rw [sameScs_eq h]
  · simp only [Bool.and_eq_true, beq_iff_eq] at h
    rw [h.1, sameScs_eq h.2]
  · exact sameSc_eq h
theorem lookAll_mem {mask n : Nat} {recs : List Rec} {x : Look} : ∀ {l : List Core}, lookAll P mask recs n x l = true → ∀ c ∈ l, lookAt P c mask recs n x.t x.b x.off = some x.v
  | [], _, _, hc => by cases hc
  | c :: l, h, c', hc => by
    simp only [lookAll, Bool.and_eq_true] at h
    cases hc with
    | head =>
      have := h.1
      split at this
      · rename_i v hv
        rw [hv, sameAV_eq this]
      · cases this
    | tail _ hc => exact lookAll_mem h.2 c' hc
theorem lookFirst_mem {mask n : Nat} {recs : List Rec} {t : TypeId} {b off : Nat} {v : AV} : ∀ {l : List Core}, lookFirst P mask recs n t b off l = some v → ∀ c ∈ l, lookAt P c mask recs n t b off = some v
  | [], _, _, hc => by cases hc
  | c :: l, h, c', hc => by
    simp only [lookFirst] at h
    split at h
    case h_2 => cases h
    case h_1 u hu =>
    rw [Bool.cond_eq_ite] at h
    split at h
    case isFalse => cases h
    case isTrue hall =>
    cases h
    cases hc with
    | head => exact hu
    | tail _ hc => exact lookAll_mem hall c' hc
/-! A part of the names. -/
def res (β : Beta) (n : Nat) : Beta := fun i => if i < n then β i else none
theorem res_some {β : Beta} {n i : Nat} {p : Nat × Nat} (h : res β n i = some p) : i < n ∧ β i = some p := by
  unfold res at h
  by_cases e : i < n
  · rw [if_pos e] at h; exact ⟨e, h⟩
  · rw [if_neg e] at h; cases h
theorem res_of {β : Beta} {n i : Nat} {p : Nat × Nat} (hi : i < n) (h : β i = some p) : res β n i = some p := by unfold res; rw [if_pos hi, h]
theorem res_le (β : Beta) (n : Nat) : (res β n).le β := fun _ _ h => (res_some h).2
theorem res_mono {β β' : Beta} {n m : Nat} (h : β.le β') (hn : n ≤ m) : (res β n).le (res β' m) := fun i p e => res_of (by have := (res_some e).1; omega) (h i p (res_some e).2)
theorem belowSc_rep {β : Beta} {n : Nat} {v : AV} {u : Value} (h : belowSc n v = true) (hr : Rep β v u) : Rep (res β n) v u := by
  have hb : ∀ {b : Nat}, Nat.blt b n = true → b < n := fun {b} g => by
    have : b + 1 ≤ n := by simpa [Nat.blt, Nat.ble_eq] using g
    omega
  cases v with
  | ptr b off => obtain ⟨x, t, e, r⟩ := hr; exact ⟨x, t, res_of (hb h) e, r⟩
  | slc b off len cap => obtain ⟨x, t, c, e, r⟩ := hr; exact ⟨x, t, c, res_of (hb h) e, r⟩
  | map b => obtain ⟨x, t, e, r⟩ := hr; exact ⟨x, t, res_of (hb h) e, r⟩
  | fn f l =>
    cases l with
    | nil => obtain ⟨vs, e, r⟩ := hr; exact ⟨vs, e, r⟩
    | cons a l => simp [belowSc] at h
  | ifc t a => simp [belowSc] at h
  | agg l => simp [belowSc] at h
  | tup l => simp [belowSc] at h
  | _ => exact hr
theorem belowScs_rep {β : Beta} {n : Nat} : ∀ {l : List AV} {vs : List Value}, belowScs n l = true → Reps β l vs → Reps (res β n) l vs
  | [], _, _, e => e
  | a :: l, _, h, ⟨u, r, e, ha, hl⟩ => by
    simp only [belowScs, Bool.and_eq_true] at h
    exact ⟨u, r, e, belowSc_rep h.1 ha, belowScs_rep h.2 hl⟩
theorem below_rep {β : Beta} {n : Nat} {v : AV} {u : Value} (h : belowAV n v = true) (hr : Rep β v u) : Rep (res β n) v u := by
  unfold belowAV at h
  split at h
  · obtain ⟨vs, e, r⟩ := hr; exact ⟨vs, e, belowScs_rep h r⟩
  · obtain ⟨vs, e, r⟩ := hr; exact ⟨vs, e, belowScs_rep h r⟩
  · exact belowSc_rep h hr
end
end Ev
end Go.Proofs.Ytnajbogmhhlpcaa
namespace Go.Proofs.Ytnajbogmhhlpcaa
open Go.RowKit
namespace Ev
set_option linter.unusedSectionVars false
variable [Env]
structure Plan (P : Program) (lo nt : Nat) (ih : Nat → Job → Option Out) (ops : Array Oper) (s0 : St) (fr0 : Tr AV) (D : Nat → DSt) (V : Nat → AV) (R : Nat → Rec) : Prop where
  d0 : D 0 = ⟨[], [], [⟨s0.h, 0⟩], fr0, s0.n⟩
  st : ∀ k o, ops.toList[k]? = some o → StepC P lo nt ih ops o (D k) (D (k + 1)) (V k) (R k)
section
variable {P : Program} {lo nt : Nat} {ih : Nat → Job → Option Out} {ops : Array Oper} {s0 : St} {fr0 : Tr AV} {D : Nat → DSt} {V : Nat → AV} {R : Nat → Rec}
theorem op_some {k : Nat} (hk : k < ops.size) : ops.toList[k]? = some ops[k] := by simp [hk]
theorem Plan.step (h : Plan P lo nt ih ops s0 fr0 D V R) {k : Nat} (hk : k < ops.size) : StepC P lo nt ih ops ops[k] (D k) (D (k + 1)) (V k) (R k) := h.st k _ (op_some hk)
theorem Plan.recs (h : Plan P lo nt ih ops s0 fr0 D V R) : ∀ k, k ≤ ops.size → (D k).recs = (List.range k).map R
  | 0, _ => by rw [h.d0]; rfl
  | k + 1, hk => by rw [(h.step (k := k) (by omega)).recs, h.recs k (by omega), List.range_succ, List.map_append]; rfl
theorem Plan.len (h : Plan P lo nt ih ops s0 fr0 D V R) {k : Nat} (hk : k ≤ ops.size) : (D k).recs.length = k := by rw [h.recs k hk]; simp
theorem Plan.rec_at (h : Plan P lo nt ih ops s0 fr0 D V R) {k j : Nat} (hk : k ≤ ops.size) (hj : j < k) : (D k).recs[j]? = some (R j) := by rw [h.recs k hk]; simp [hj]
theorem Plan.done (h : Plan P lo nt ih ops s0 fr0 D V R) : ∀ k, k ≤ ops.size → (D k).done = ops.toList.take k
  | 0, _ => by rw [h.d0]; rfl
  | k + 1, hk => by
    rw [(h.step (k := k) (by omega)).done, h.done k (by omega)]
    have hk' : k < ops.toList.length := by rw [Array.length_toList]; omega
    rw [List.take_succ_eq_append_getElem hk']
    simp
theorem Plan.n1 (h : Plan P lo nt ih ops s0 fr0 D V R) {k : Nat} (hk : k < ops.size) : (D k).n ≤ (D (k + 1)).n := by
  cases (h.step hk).how with
  | skip _ _ _ _ hn => omega
  | calm _ _ _ _ _ hn hle => omega
  | look _ _ _ _ _ _ _ _ _ _ _ hn => omega
  | writes _ _ _ _ _ _ hn hle _ => omega
theorem Plan.nle (h : Plan P lo nt ih ops s0 fr0 D V R) {j : Nat} : ∀ {k : Nat}, j ≤ k → k ≤ ops.size → (D j).n ≤ (D k).n
  | 0, hj, _ => by obtain rfl : j = 0 := by omega
                   exact Nat.le_refl _
  | k + 1, hj, hk => by
    by_cases e : j = k + 1
    · rw [e]; exact Nat.le_refl _
    · exact Nat.le_trans (h.nle (k := k) (by omega) (by omega)) (h.n1 (by omega))
theorem Plan.n0 (h : Plan P lo nt ih ops s0 fr0 D V R) : (D 0).n = s0.n := by rw [h.d0]
theorem Plan.mask_lt (h : Plan P lo nt ih ops s0 fr0 D V R) {k j : Nat} (hk : k < ops.size) (hj : Nat.testBit (R k).mask j = true) : j < k := by
  have := (h.step hk).lt
  rw [h.len (by omega)] at this
  exact testBit_lt this hj
theorem Plan.edge (h : Plan P lo nt ih ops s0 fr0 D V R) {k : Nat} (hk : k < ops.size) {e : Edge} (he : e ∈ ops[k].after.toList) (hb : Region.binds .any e = true) : Nat.testBit (R k).mask e.on = true := by
  rw [(h.step hk).mask]; exact (maskOf_mem he hb).1
theorem Plan.mask_of (h : Plan P lo nt ih ops s0 fr0 D V R) {k j : Nat} (hk : k < ops.size) (hj : Nat.testBit (R k).mask j = true) :
    ∃ e ∈ ops[k].after.toList, Region.binds .any e = true ∧ e.on < k ∧ (e.on = j ∨ Nat.testBit (R e.on).mask j = true) := by
  have hj' := hj
  rw [(h.step hk).mask] at hj'
  obtain ⟨e, h1, h2, h3⟩ := maskOf_of hj'
  have hlt := h.mask_lt hk (h.edge hk h1 h2)
  refine ⟨e, h1, h2, hlt, h3.imp id fun g => ?_⟩
  rw [recMask_eq, List.getElem?_map, h.rec_at (by omega) hlt] at g
  exact g
theorem Plan.closed (h : Plan P lo nt ih ops s0 fr0 D V R) : ∀ (k j i : Nat), k < ops.size → Nat.testBit (R k).mask j = true → Nat.testBit (R j).mask i = true → Nat.testBit (R k).mask i = true := by
  intro k
  induction k using Nat.strongRecOn with
  | _ k ihk =>
    intro j i hk hj hi
    obtain ⟨e, h1, h2, h3, h4⟩ := h.mask_of hk hj
    have hsub : ∀ x, Nat.testBit (R e.on).mask x = true → Nat.testBit (R k).mask x = true := fun x hx => by
      rw [(h.step hk).mask]
      refine (maskOf_mem h1 h2).2 x ?_
      rw [recMask_eq, List.getElem?_map, h.rec_at (by omega) h3]
      exact hx
    rcases h4 with h4 | h4
    · rw [← h4] at hi; exact hsub i hi
    · exact hsub i (ihk e.on h3 j i (by omega) h4 hi)
theorem Plan.apart (h : Plan P lo nt ih ops s0 fr0 D V R) {k j : Nat} (hk : k < ops.size) (hj : j < k) : Nat.testBit (R k).mask j = true ∨ ops[k].apart ops ops[j] = true := by
  have ha := (h.step hk).apart
  have := allApart_at ha j ops[j] (by rw [h.done k (by omega)]; simp [hj])
  simpa using this
/-! Who wrote a slot last. -/
def dstAt (ops : Array Oper) (k : Nat) : Option Tmp := (ops[k]?).bind (·.dst)
def writer (ops : Array Oper) (L : Nat → Bool) (t : Tmp) : Nat → Option Nat
  | 0 => none
  | k + 1 => if L k = true ∧ dstAt ops k = some t then some k else writer ops L t k
theorem writer_lt {L : Nat → Bool} {t : Tmp} : ∀ {k j : Nat}, writer ops L t k = some j → j < k ∧ L j = true ∧ dstAt ops j = some t
  | k + 1, j, h => by
    simp only [writer] at h
    by_cases c : L k = true ∧ dstAt ops k = some t
    · rw [if_pos c] at h; cases h; exact ⟨by omega, c⟩
    · rw [if_neg c] at h; have := writer_lt h; exact ⟨by omega, this.2⟩
theorem writer_cut {L : Nat → Bool} {t : Tmp} {i : Nat} : ∀ {k : Nat}, i ≤ k → (∀ j, i ≤ j → j < k → ¬ (L j = true ∧ dstAt ops j = some t)) → writer ops L t k = writer ops L t i
  | 0, hi, _ => by obtain rfl : i = 0 := by omega
                   rfl
  | k + 1, hi, h => by
    by_cases e : i = k + 1
    · rw [e]
    · rw [writer, if_neg (h k (by omega) (by omega)), writer_cut (k := k) (by omega) fun j a b => h j a (by omega)]
theorem writer_same {L M : Nat → Bool} {t : Tmp} : ∀ {k : Nat}, (∀ j, j < k → dstAt ops j = some t → L j = M j) → writer ops L t k = writer ops M t k
  | 0, _ => rfl
  | k + 1, h => by
    have ih := writer_same (L := L) (M := M) (t := t) (k := k) fun j hj => h j (by omega)
    by_cases c : dstAt ops k = some t
    · simp only [writer, h k (by omega) c, ih]
    · simp only [writer, c, and_false, if_false, ih]
theorem put_get {nt : Nat} {fr fr' : Tr AV} {dst : Option Tmp} {v : AV} (h : put nt fr dst v = some fr') (t : Tmp) : fr'.get (path t) = if dst = some t then some v else fr.get (path t) := by
  cases dst with
  | none => cases h; simp
  | some d =>
    simp only [put] at h
    rw [Bool.cond_eq_ite] at h
    split at h
    case isFalse => cases h
    case isTrue => 
      cases h
      rw [get_put]
      by_cases e : t = d
      · simp [e]
      · have : ¬ (some d = some t) := fun g => e (by cases g; rfl)
        rw [if_neg e, if_neg this]
theorem put_lt {nt : Nat} {fr fr' : Tr AV} {d : Tmp} {v : AV} (h : put nt fr (some d) v = some fr') : d < nt := by
  simp only [put] at h
  rw [Bool.cond_eq_ite] at h
  split at h
  case isFalse => cases h
  case isTrue c => 
    have : d + 1 ≤ nt := by simpa [Nat.blt, Nat.ble_eq] using c
    exact this
theorem Plan.frame (h : Plan P lo nt ih ops s0 fr0 D V R) (t : Tmp) : ∀ k, k ≤ ops.size → (D k).fr.get (path t) = (match writer ops (fun _ => true) t k with | some j => some (V j) | none => fr0.get (path t))
  | 0, _ => by rw [h.d0]; rfl
  | k + 1, hk => by
    rw [put_get (h.step (k := k) (by omega)).fr, writer]
    have e : dstAt ops k = ops[k].dst := by simp [dstAt, show k < ops.size by omega]
    by_cases c : dstAt ops k = some t
    · rw [if_pos (by rw [← e]; exact c), if_pos ⟨rfl, c⟩]
    · rw [if_neg (by rw [← e]; exact c), if_neg (fun g => c g.2)]
      exact h.frame t k (by omega)
def Down (R : Nat → Rec) (L : Nat → Bool) : Prop := ∀ i j, L i = true → Nat.testBit (R i).mask j = true → L j = true
/-- What an operation looks at was written, last, by whom the text says. -/
theorem Plan.sees (h : Plan P lo nt ih ops s0 fr0 D V R) {L : Nat → Bool} (hd : Down R L) {i : Nat} (hi : i < ops.size) (hn : L i = false) (hm : ∀ j, Nat.testBit (R i).mask j = true → L j = true) {t : Tmp} (ht : t ∈ ops[i].looksAt ops) :
    writer ops L t ops.size = writer ops (fun _ => true) t i := by
  have h1 : writer ops L t ops.size = writer ops L t i := by
    refine writer_cut (by omega) ?_
    intro k hik hk ⟨hl, hdst⟩
    have hne : k ≠ i := fun e => by rw [e, hn] at hl; cases hl
    rcases h.apart hk (show i < k by omega) with g | g
    · rw [hd k i hl g] at hn; cases hn
    · have hdk : ops[k].dst = some t := by simpa [dstAt, hk] using hdst
      exact (Oper.apart_spec g).1 t hdk ht
  rw [h1]
  refine writer_same ?_
  intro j hj hdst
  rcases h.apart hi hj with g | g
  · exact hm j g
  · have hdj : ops[j].dst = some t := by simpa [dstAt, show j < ops.size by omega] using hdst
    exact absurd ht ((Oper.apart_spec g).2.2 t hdj)
def add (L : Nat → Bool) (i : Nat) : Nat → Bool := fun j => L j || j == i
theorem add_of {L : Nat → Bool} {i j : Nat} : add L i j = true ↔ L j = true ∨ j = i := by simp [add]
theorem Plan.wrote (h : Plan P lo nt ih ops s0 fr0 D V R) {L : Nat → Bool} (hd : Down R L) {i : Nat} (hi : i < ops.size) (hn : L i = false) (t : Tmp) :
    writer ops (add L i) t ops.size = if ops[i].dst = some t then some i else writer ops L t ops.size := by
  have hdi : dstAt ops i = ops[i].dst := by simp [dstAt, hi]
  by_cases c : ops[i].dst = some t
  · rw [if_pos c]
    have h1 : writer ops (add L i) t ops.size = writer ops (add L i) t (i + 1) := by
      refine writer_cut (by omega) ?_
      intro k hik hk ⟨hl, hdst⟩
      have hne : k ≠ i := by omega
      have hl' : L k = true := by simpa [add, hne] using hl
      rcases h.apart hk (show i < k by omega) with g | g
      · rw [hd k i hl' g] at hn; cases hn
      · have hdk : ops[k].dst = some t := by simpa [dstAt, hk] using hdst
        exact (Oper.apart_spec g).2.1 t hdk c
    rw [h1, writer, if_pos ⟨by simp [add], by rw [hdi]; exact c⟩]
  · rw [if_neg c]
    refine writer_same ?_
    intro j _ hdst
    have : j ≠ i := fun e => c (by rw [← hdi, ← e]; exact hdst)
    simp [add, this]
/-! The memories on the way. -/
def isW (r : Rec) : Bool := match r.kind with | .writes => true | _ => false
def topW (R : Nat → Rec) (L : Nat → Bool) : Nat → Nat
  | 0 => 0
  | k + 1 => if L k = true ∧ isW (R k) = true then k + 1 else topW R L k
theorem topW_le {L : Nat → Bool} : ∀ k, topW R L k ≤ k
  | 0 => Nat.le_refl _
  | k + 1 => by
    simp only [topW]
    by_cases c : L k = true ∧ isW (R k) = true
    · rw [if_pos c]; exact Nat.le_refl _
    · rw [if_neg c]; have := topW_le (L := L) k; omega
theorem topW_cut {L : Nat → Bool} {i : Nat} : ∀ {k : Nat}, i ≤ k → (∀ j, i ≤ j → j < k → ¬ (L j = true ∧ isW (R j) = true)) → topW R L k = topW R L i
  | 0, hi, _ => by obtain rfl : i = 0 := by omega
                   rfl
  | k + 1, hi, h => by
    by_cases e : i = k + 1
    · rw [e]
    · rw [topW, if_neg (h k (by omega) (by omega)), topW_cut (k := k) (by omega) fun j a b => h j a (by omega)]
theorem topW_same {L M : Nat → Bool} : ∀ {k : Nat}, (∀ j, j < k → isW (R j) = true → L j = M j) → topW R L k = topW R M k
  | 0, _ => rfl
  | k + 1, h => by
    have ih := topW_same (L := L) (M := M) (k := k) fun j hj => h j (by omega)
    by_cases c : isW (R k) = true
    · simp only [topW, h k (by omega) c, ih]
    · simp only [topW, c, and_false, Bool.false_eq_true, if_false, ih]
theorem topW_pos {L : Nat → Bool} : ∀ {k : Nat}, topW R L k = 0 ∨ ∃ j, topW R L k = j + 1 ∧ j < k ∧ L j = true ∧ isW (R j) = true
  | 0 => .inl rfl
  | k + 1 => by
    simp only [topW]
    by_cases c : L k = true ∧ isW (R k) = true
    · rw [if_pos c]; exact .inr ⟨k, rfl, by omega, c⟩
    · rw [if_neg c]
      rcases topW_pos (L := L) (k := k) with g | ⟨j, g1, g2, g3⟩
      · exact .inl g
      · exact .inr ⟨j, g1, by omega, g3⟩
theorem Plan.core1 (h : Plan P lo nt ih ops s0 fr0 D V R) {k : Nat} (hk : k < ops.size) (hw : isW (R k) = false) : (D (k + 1)).cores = (D k).cores := by
  cases (h.step hk).how with
  | skip _ _ _ hc _ => exact hc
  | calm _ _ _ _ hc _ _ => exact hc
  | look _ _ _ _ _ _ _ _ _ _ hc _ => exact hc
  | writes _ _ _ _ hr _ _ _ _ => simp [isW, hr.2] at hw
theorem Plan.core_top (h : Plan P lo nt ih ops s0 fr0 D V R) : ∀ k, k ≤ ops.size → (D k).core = (D (topW R (fun _ => true) k)).core
  | 0, _ => rfl
  | k + 1, hk => by
    simp only [topW]
    cases hw : isW (R k) with
    | true => simp
    | false =>
      simp only [Bool.false_eq_true, and_false, if_false]
      rw [← h.core_top k (by omega)]
      simp only [DSt.core, h.core1 (by omega) hw]
theorem Plan.passed (h : Plan P lo nt ih ops s0 fr0 D V R) {k i : Nat} (hk : k < ops.size) (hi : i < k) (hwk : isW (R k) = true) (hwi : isW (R i) = true) : Nat.testBit (R k).mask i = true := by
  have hki : (R i).kind = .writes := by
    unfold isW at hwi
    split at hwi
    · assumption
    · cases hwi
  cases (h.step hk).how with
  | skip _ _ hr _ _ => simp [isW, hr.2] at hwk
  | calm _ _ _ hr _ _ _ => simp [isW, hr.2] at hwk
  | look _ _ _ _ _ _ _ _ _ hr _ _ => simp [isW, hr.2] at hwk
  | writes _ _ ha _ _ _ _ _ _ =>
    have := allWrites_at ha i (R i) (h.rec_at (by omega) hi) hki
    simpa using this
/-- At an operation that writes the memory is that of the text. -/
theorem Plan.top_writes (h : Plan P lo nt ih ops s0 fr0 D V R) {L : Nat → Bool} (hd : Down R L) {i : Nat} (hi : i < ops.size) (hn : L i = false) (hm : ∀ j, Nat.testBit (R i).mask j = true → L j = true) (hw : isW (R i) = true) :
    topW R L ops.size ≤ i ∧ (D (topW R L ops.size)).core = (D i).core := by
  have h1 : topW R L ops.size = topW R L i := by
    refine topW_cut (by omega) ?_
    intro k hik hk ⟨hl, hwk⟩
    have hne : k ≠ i := fun e => by rw [e, hn] at hl; cases hl
    have := hd k i hl (h.passed hk (by omega) hwk hw)
    rw [hn] at this; cases this
  have h2 : topW R L i = topW R (fun _ => true) i := topW_same fun j hj hwj => hm j (h.passed hi hj hw hwj)
  rw [h1]
  exact ⟨topW_le i, by rw [h2, h.core_top i (by omega)]⟩
theorem writesIn_append {mask : Nat} {r : Rec} : ∀ {l : List Rec} {k0 : Nat}, writesIn mask (l ++ [r]) k0 = writesIn mask l k0 + (if isW r = true ∧ Nat.testBit mask (k0 + l.length) = true then 1 else 0)
  | [], k0 => by
    obtain ⟨m1, n1, kk⟩ := r
    cases kk <;> simp [writesIn, isW] <;> cases Nat.testBit mask k0 <;> simp
  | x :: l, k0 => by
    have ih := writesIn_append (mask := mask) (r := r) (l := l) (k0 := k0 + 1)
    have e : k0 + 1 + l.length = k0 + (x :: l).length := by simp; omega
    rw [e] at ih
    obtain ⟨m1, n1, kk⟩ := x
    simp only [List.cons_append, writesIn, ih]
    cases kk <;> simp
    cases Nat.testBit mask k0 <;> simp <;> omega
/-- The memory at hand is one of those at which a load was looked at. -/
theorem Plan.mem_cores (h : Plan P lo nt ih ops s0 fr0 D V R) {L : Nat → Bool} {mask : Nat} (hm : ∀ j, Nat.testBit mask j = true → L j = true) : ∀ k, k ≤ ops.size →
    writesIn mask (D k).recs 0 < (D k).cores.length ∧ (D (topW R L k)).core ∈ (D k).cores.take ((D k).cores.length - writesIn mask (D k).recs 0)
  | 0, _ => by rw [h.d0]; simp [writesIn, topW, h.d0, DSt.core]
  | k + 1, hk => by
    have ih := h.mem_cores hm k (by omega)
    have hst := h.step (k := k) (by omega)
    rw [hst.recs, writesIn_append, h.len (by omega), Nat.zero_add]
    cases hw : isW (R k) with
    | false =>
      rw [h.core1 (by omega) hw]
      simp only [Bool.false_eq_true, false_and, if_false, Nat.add_zero, topW, hw, and_false]
      exact ih
    | true =>
      have hcs : (D (k + 1)).cores = (D (k + 1)).core :: (D k).cores := by
        cases hst.how with
        | skip _ _ hr _ _ => simp [isW, hr.2] at hw
        | calm _ _ _ hr _ _ _ => simp [isW, hr.2] at hw
        | look _ _ _ _ _ _ _ _ _ hr _ _ => simp [isW, hr.2] at hw
        | writes _ _ _ _ _ hc _ _ _ => simp only [DSt.core, hc]
      rw [hcs, List.length_cons]
      cases hb : Nat.testBit mask k with
      | true =>
        simp only [and_self, if_true, topW, hm k hb, hw]
        refine ⟨by omega, ?_⟩
        rw [show (D k).cores.length + 1 - (writesIn mask (D k).recs 0 + 1) = ((D k).cores.length - writesIn mask (D k).recs 0 - 1) + 1 by omega, List.take_succ_cons]
        simp
      | false =>
        simp only [Bool.false_eq_true, and_false, if_false, Nat.add_zero]
        refine ⟨by omega, ?_⟩
        rw [show (D k).cores.length + 1 - writesIn mask (D k).recs 0 = ((D k).cores.length - writesIn mask (D k).recs 0) + 1 by omega, List.take_succ_cons]
        simp only [topW, hw, and_true]
        by_cases c : L k = true
        · rw [if_pos c]; simp
        · rw [if_neg c]; exact List.mem_cons_of_mem _ ih.2
/-- What a load reads at the memory at hand. -/
theorem Plan.look_at (h : Plan P lo nt ih ops s0 fr0 D V R) {L : Nat → Bool} (hd : Down R L) {i : Nat} (hi : i < ops.size) (hn : L i = false) (hm : ∀ j, Nat.testBit (R i).mask j = true → L j = true) {t : TypeId} {b off : Nat} {v : AV}
    (hr : (R i).kind = .look ⟨t, b, off, v⟩) (hl : lookFirst P (R i).mask (D i).recs (D i).n t b off ((D i).cores.take ((D i).cores.length - writesIn (R i).mask (D i).recs 0)) = some v) :
    ∃ (m n : Nat), m ≤ ops.size ∧ i ≤ m ∧ lookAt P (D (topW R L ops.size)).core (R i).mask ((List.range m).map R) n t b off = some v := by
  rcases Nat.lt_or_ge i (topW R L ops.size) with g | g
  · rcases topW_pos (R := R) (L := L) (k := ops.size) with e | ⟨k, e, hk, hlk, hwk⟩
    · omega
    · rw [e] at g
      have hne : i ≠ k := fun e' => by rw [e', hlk] at hn; cases hn
      cases (h.step hk).how with
      | skip _ _ hr _ _ => simp [isW, hr.2] at hwk
      | calm _ _ _ hr _ _ _ => simp [isW, hr.2] at hwk
      | look _ _ _ _ _ _ _ _ _ hr _ _ => simp [isW, hr.2] at hwk
      | writes s' _ _ _ _ hc _ _ hs =>
        rcases looksStay_at hs i (R i) _ (h.rec_at (by omega) (by omega)) hr with q | q
        · rw [Nat.zero_add] at q
          have := hd k i hlk q
          rw [hn] at this; cases this
        · have := lookAll_mem q _ (List.mem_singleton.2 rfl)
          refine ⟨k + 1, s'.n, by omega, by omega, ?_⟩
          rw [e]
          have e1 : (D (k + 1)).core = ⟨s'.h, Nat.lor (Nat.lor (D k).core.held (R k).mask) (2 ^ (D k).recs.length)⟩ := by simp only [DSt.core, hc]
          have e2 : (List.range (k + 1)).map R = (D k).recs ++ [R k] := by rw [h.recs k (by omega), List.range_succ, List.map_append]; rfl
          rw [e1, e2]
          exact this
  · have e : topW R L ops.size = topW R L i := by
      refine topW_cut (by omega) ?_
      intro k hik hk ⟨hlk, hwk⟩
      have : k + 1 ≤ topW R L ops.size := by
        have key : ∀ n, k < n → k + 1 ≤ topW R L n := by
          intro n
          induction n with
          | zero => intro hk; omega
          | succ n ihn =>
            intro hkn
            simp only [topW]
            by_cases c : L n = true ∧ isW (R n) = true
            · rw [if_pos c]; omega
            · rw [if_neg c]
              by_cases e' : k = n
              · subst e'; exact absurd ⟨hlk, hwk⟩ c
              · exact ihn (by omega)
        exact key _ hk
      omega
    have := lookFirst_mem hl _ (h.mem_cores hm i (by omega)).2
    rw [e]
    exact ⟨i, (D i).n, by omega, Nat.le_refl _, by rw [← h.recs i (by omega)]; exact this⟩
end
end Ev
end Go.Proofs.Ytnajbogmhhlpcaa
namespace Go.Proofs.Ytnajbogmhhlpcaa
open Go.RowKit
namespace Ev
set_option linter.unusedSectionVars false
variable [Env]
section
variable {P : Program} {lo nt : Nat} {ih : Nat → Job → Option Out} {ops : Array Oper} {s0 : St} {fr0 : Tr AV} {D : Nat → DSt} {V : Nat → AV} {R : Nat → Rec}
/-- A name that stands for a block, at hand. -/
def LiveAt (C : Core) (R : Nat → Rec) (L : Nat → Bool) (i : Nat) : Prop := Live C.h i ∨ ∃ j b, L j = true ∧ Nat.testBit C.held j = false ∧ (i, b) ∈ (R j).news
def valRep (ops : Array Oper) (D : Nat → DSt) (V : Nat → AV) (fr0 : Tr AV) (n0 : Nat) (β : Beta) (t : Tmp) (u : Value) : Option Nat → Prop
  | some j => Rep (res β (D (j + 1)).n) (V j) u
  | none => Rep (res β n0) (slotV (fr0.get (path t))) u
structure Inv (lo nt : Nat) (ops : Array Oper) (s0 : St) (fr0 : Tr AV) (D : Nat → DSt) (V : Nat → AV) (R : Nat → Rec) (β0 : Beta) (w0 : World) (C : Core) (n : Nat) (L : Nat → Bool) (a : Act) (w : World) (β : Beta) : Prop where
  down : Down R L
  lt : ∀ i, L i = true → i < ops.size
  size : a.tmps.size = nt
  defers : a.defers = []
  vals : ∀ t, valRep ops D V fr0 s0.n β t (a.tmps.getD t undef) (writer ops L t ops.size)
  core : Sit (res β n) ⟨C.h, n⟩ w
  held : ∀ j, Nat.testBit C.held j = true → L j = true
  prov : ∀ i, Live C.h i → i < s0.n ∨ ∃ j, Nat.testBit C.held j = true ∧ (D j).n ≤ i ∧ i < (D (j + 1)).n
  news : ∀ j, L j = true → Nat.testBit C.held j = false → ∀ i b, (i, b) ∈ (R j).news → (D j).n ≤ i ∧ i < (D (j + 1)).n ∧ ∃ p, β i = some p ∧ BRep (res β (D (j + 1)).n) b w.heap[p.1]? p.2
  inj : ∀ i j p q, LiveAt C R L i → LiveAt C R L j → β i = some p → β j = some q → p.1 = q.1 → i = j
  low : ∀ i p, β i = some p → p.1 < w.heap.size ∧ (i < s0.n ∨ ∃ j, L j = true ∧ (D j).n ≤ i ∧ i < (D (j + 1)).n)
  same : ∀ i, i < s0.n → β i = β0 i
  os : w.os = w0.os
  tape : w.tape = w0.tape
  output : w.output = w0.output
  hsize : w0.heap.size ≤ w.heap.size
  keep : ∀ b, b < w0.heap.size → (∀ i p, lo ≤ i → Live s0.h i → β0 i = some p → p.1 ≠ b) → w.heap[b]? = w0.heap[b]?
  fresh : ∀ i p, s0.n ≤ i → β i = some p → w0.heap.size ≤ p.1 ∨ ∃ j q, lo ≤ j ∧ Live s0.h j ∧ β0 j = some q ∧ q.1 = p.1
  old : ∀ i, i < s0.n → Live C.h i → Live s0.h i
/-- the numbers of two operations do not meet. -/
theorem Plan.one (h : Plan P lo nt ih ops s0 fr0 D V R) {i j x : Nat} (hi : i < ops.size) (hj : j < ops.size) (h1 : (D i).n ≤ x) (h2 : x < (D (i + 1)).n) (h3 : (D j).n ≤ x) (h4 : x < (D (j + 1)).n) : i = j := by
  rcases Nat.lt_trichotomy i j with g | g | g
  · have := h.nle (j := i + 1) (k := j) (by omega) (by omega); omega
  · exact g
  · have := h.nle (j := j + 1) (k := i) (by omega) (by omega); omega
theorem Plan.ahead (h : Plan P lo nt ih ops s0 fr0 D V R) {i : Nat} (hi : i ≤ ops.size) : s0.n ≤ (D i).n := by rw [← h.n0]; exact h.nle (Nat.zero_le _) hi
variable {β0 β : Beta} {w0 w : World} {C : Core} {n : Nat} {L : Nat → Bool} {a : Act}
/-- A memory of the core and of what some operations made: it stands for what is there. -/
theorem Inv.sub (h : Plan P lo nt ih ops s0 fr0 D V R) (I : Inv lo nt ops s0 fr0 D V R β0 w0 C n L a w β) {mask m N : Nat} (hm : ∀ j, Nat.testBit mask j = true → L j = true ∧ (D (j + 1)).n ≤ N) (hn : n ≤ N) :
    Sit (res β N) ⟨memOf C.h C.held mask ((List.range m).map R) 0, N⟩ w ∧ ∀ i, Live (memOf C.h C.held mask ((List.range m).map R) 0) i → LiveAt C R L i ∧ (Live C.h i ∨ ∃ j, Nat.testBit mask j = true ∧ Nat.testBit C.held j = false ∧ (D j).n ≤ i ∧ i < (D (j + 1)).n) := by
  have key : ∀ i b, (memOf C.h C.held mask ((List.range m).map R) 0).get (path i) = some b → C.h.get (path i) = some b ∨ ∃ j, Nat.testBit mask j = true ∧ Nat.testBit C.held j = false ∧ (i, b) ∈ (R j).news := by
    intro i b e
    rcases memOf_get e with g | ⟨j, r, h1, h2, h3, h4⟩
    · exact .inl g
    · rw [Nat.zero_add] at h2 h3
      have : r = R j := by
        simp only [List.getElem?_map] at h1
        by_cases hj : j < m
        · rw [List.getElem?_range hj] at h1; simpa using h1.symm
        · rw [List.getElem?_eq_none (by simpa using hj)] at h1; cases h1
      rw [this] at h4
      exact .inr ⟨j, h2, h3, h4⟩
  have live : ∀ i, Live (memOf C.h C.held mask ((List.range m).map R) 0) i → LiveAt C R L i ∧ (Live C.h i ∨ ∃ j, Nat.testBit mask j = true ∧ Nat.testBit C.held j = false ∧ (D j).n ≤ i ∧ i < (D (j + 1)).n) := by
    rintro i ⟨b, e⟩
    rcases key i b e with g | ⟨j, h1, h2, h3⟩
    · exact ⟨.inl ⟨b, g⟩, .inl ⟨b, g⟩⟩
    · have := I.news j (hm j h1).1 h2 i b h3
      exact ⟨.inr ⟨j, b, (hm j h1).1, h2, h3⟩, .inr ⟨j, h1, h2, this.1, this.2.1⟩⟩
  refine ⟨⟨?_, ?_, ?_⟩, live⟩
  · intro i b e
    rcases key i b e with g | ⟨j, h1, h2, h3⟩
    · obtain ⟨p, hp, hr⟩ := I.core.blk i b g
      exact ⟨p, res_of (by have := (res_some hp).1; omega) (res_some hp).2, hr.mono (res_mono (Beta.le_refl β) hn)⟩
    · obtain ⟨g1, g2, p, g3, g4⟩ := I.news j (hm j h1).1 h2 i b h3
      have := (hm j h1).2
      exact ⟨p, res_of (by omega) g3, g4.mono (res_mono (Beta.le_refl β) this)⟩
  · intro i j p q hi hj hp hq hpq
    exact I.inj i j p q (live i hi).1 (live j hj).1 (res_some hp).2 (res_some hq).2 hpq
  · intro i p hp
    exact ⟨(res_some hp).1, (I.low i p (res_some hp).2).1⟩
/-- What an operation at hand looks at. -/
theorem Inv.sees (h : Plan P lo nt ih ops s0 fr0 D V R) (I : Inv lo nt ops s0 fr0 D V R β0 w0 C n L a w β) {i : Nat} (hi : i < ops.size) (hn : L i = false) (hm : ∀ j, Nat.testBit (R i).mask j = true → L j = true) :
    ∀ t ∈ ops[i].looksAt ops, Rep (res β (D i).n) (slotV ((D i).fr.get (path t))) (a.tmps.getD t undef) := by
  intro t ht
  have hv := I.vals t
  rw [h.sees I.down hi hn hm ht] at hv
  rw [h.frame t i (by omega)]
  cases hw : writer ops (fun _ => true) t i with
  | none =>
    rw [hw] at hv
    exact Rep.mono' hv (res_mono (Beta.le_refl β) (h.ahead (by omega)))
  | some j =>
    rw [hw] at hv
    have := writer_lt hw
    exact Rep.mono' hv (res_mono (Beta.le_refl β) (h.nle (by omega) (by omega)))
theorem Inv.opsRep (h : Plan P lo nt ih ops s0 fr0 D V R) (I : Inv lo nt ops s0 fr0 D V R β0 w0 C n L a w β) (hg : Globs P β0) (hg0 : ∀ g, g < P.globals.size → g < s0.n) {i : Nat} (hi : i < ops.size) (hn : L i = false) (hm : ∀ j, Nat.testBit (R i).mask j = true → L j = true) :
    OpsRep P (res β (D i).n) (D i).fr a.eval ops[i].op.operands.toList := by
  intro x hx v hv
  cases x with
  | tmp t =>
    cases hv
    refine I.sees h hi hn hm t ?_
    simp only [Oper.looksAt, List.mem_append, List.mem_filterMap]
    exact .inl ⟨.tmp t, hx, rfl⟩
  | const c => exact ofV_rep hv
  | global g =>
    simp only [opnd] at hv
    rw [Bool.cond_eq_ite] at hv
    split at hv
    case isFalse => cases hv
    case isTrue c =>
    cases hv
    have hc : g + 1 ≤ P.globals.size := by simpa [Nat.blt, Nat.ble_eq] using c
    obtain ⟨t, e⟩ := hg g hc
    have := hg0 g hc
    have := h.ahead (i := i) (by omega)
    exact ⟨g, t, res_of (by omega) (by rw [I.same g (by omega)]; exact e), rfl⟩
  | func f => cases hv; exact ⟨#[], rfl, rfl⟩
/-- The names' growth by one operation. -/
def grow (β β1 : Beta) (m n : Nat) : Beta := fun i => if m ≤ i ∧ i < n then β1 i else β i
theorem grow_in {β β1 : Beta} {m n i : Nat} (h : m ≤ i ∧ i < n) : grow β β1 m n i = β1 i := if_pos h
theorem grow_out {β β1 : Beta} {m n i : Nat} (h : ¬ (m ≤ i ∧ i < n)) : grow β β1 m n i = β i := if_neg h
theorem Inv.grow_le (h : Plan P lo nt ih ops s0 fr0 D V R) (I : Inv lo nt ops s0 fr0 D V R β0 w0 C n L a w β) {i : Nat} (hi : i < ops.size) (hn : L i = false) (β1 : Beta) : β.le (grow β β1 (D i).n (D (i + 1)).n) := by
  intro x p e
  rw [grow_out]
  · exact e
  · intro g
    rcases (I.low x p e).2 with c | ⟨j, hj, c1, c2⟩
    · have := h.ahead (i := i) (by omega); omega
    · have := h.one hi (I.lt j hj) g.1 g.2 c1 c2
      rw [this, hj] at hn; cases hn
theorem res_grow {β β1 : Beta} {m n : Nat} (hmn : m ≤ n) (h1 : ∀ i, i < m → β1 i = res β m i) (h2 : ∀ i p, β1 i = some p → i < n) : res (grow β β1 m n) n = β1 := by
  funext i
  unfold res
  by_cases e : i < n
  · rw [if_pos e]
    by_cases g : m ≤ i
    · rw [grow_in ⟨g, e⟩]
    · rw [grow_out (fun c => g c.1), h1 i (by omega)]
      unfold res
      rw [if_pos (by omega)]
  · rw [if_neg e]
    cases hc : β1 i with
    | none => rfl
    | some p => exact absurd (h2 i p hc) e
/-- An operation that writes nothing has been carried out. -/
theorem Inv.calm (h : Plan P lo nt ih ops s0 fr0 D V R) (I : Inv lo nt ops s0 fr0 D V R β0 w0 C n L a w β) {i : Nat} (hi : i < ops.size) (hn : L i = false) (hm : ∀ j, Nat.testBit (R i).mask j = true → L j = true) {β1 : Beta} {w1 : World} {u : Value}
    (h1 : ∀ x, x < (D i).n → β1 x = res β (D i).n x) (h2 : ∀ x p, β1 x = some p → x < (D (i + 1)).n ∧ p.1 < w1.heap.size) (ho : w1.os = w.os) (ht : w1.tape = w.tape) (hu : w1.output = w.output) (hsz : w.heap.size ≤ w1.heap.size) (hk : ∀ b, b < w.heap.size → w1.heap[b]? = w.heap[b]?)
    (h3 : ∀ x p, (D i).n ≤ x → β1 x = some p → w.heap.size ≤ p.1) (h4 : ∀ x b, (x, b) ∈ (R i).news → (D i).n ≤ x ∧ x < (D (i + 1)).n ∧ ∃ p, β1 x = some p ∧ BRep β1 b w1.heap[p.1]? p.2)
    (h5 : ∀ x y p q b c, (x, b) ∈ (R i).news → (y, c) ∈ (R i).news → β1 x = some p → β1 y = some q → p.1 = q.1 → x = y) (hv : Rep β1 (V i) u) (hC : Nat.testBit C.held i = false) :
    Inv lo nt ops s0 fr0 D V R β0 w0 C n (add L i) (a.put ops[i].dst u) w1 (grow β β1 (D i).n (D (i + 1)).n) := by
  have hle := I.grow_le h hi hn β1
  have hn1 := h.n1 hi
  have hres := res_grow (β := β) (β1 := β1) hn1 h1 (fun x p e => (h2 x p e).1)
  have hblk : ∀ x p, β x = some p → w1.heap[p.1]? = w.heap[p.1]? := fun x p e => hk p.1 (I.low x p e).1
  have hlive : ∀ x, LiveAt C R (add L i) x → LiveAt C R L x ∨ ∃ b, (x, b) ∈ (R i).news := by
    rintro x (g | ⟨j, b, g1, g2, g3⟩)
    · exact .inl (.inl g)
    · rcases add_of.1 g1 with g1 | rfl
      · exact .inl (.inr ⟨j, b, g1, g2, g3⟩)
      · exact .inr ⟨b, g3⟩
  -- a name at hand is no new one
  have hold : ∀ x, LiveAt C R L x → ∃ p, β x = some p ∧ grow β β1 (D i).n (D (i + 1)).n x = some p := by
    rintro x (⟨b, g⟩ | ⟨j, b, g1, g2, g3⟩)
    · obtain ⟨p, hp, _⟩ := I.core.blk x b g
      exact ⟨p, (res_some hp).2, hle _ _ (res_some hp).2⟩
    · obtain ⟨_, _, p, hp, _⟩ := I.news j g1 g2 x b g3
      exact ⟨p, hp, hle _ _ hp⟩
  refine ⟨?_, ?_, ?_, ?_, ?_, ?_, ?_, I.prov, ?_, ?_, ?_, ?_, ho.trans I.os, ht.trans I.tape, hu.trans I.output, Nat.le_trans I.hsize hsz, ?_, ?_, I.old⟩
  · intro x j hx hj
    rcases add_of.1 hx with g | rfl
    · exact add_of.2 (.inl (I.down x j g hj))
    · exact add_of.2 (.inl (hm j hj))
  · intro x hx
    rcases add_of.1 hx with g | rfl
    · exact I.lt x g
    · exact hi
  · cases hd : ops[i].dst with
    | none => exact I.size
    | some d => simp only [Act.put, Array.size_setIfInBounds]; exact I.size
  · cases hd : ops[i].dst <;> exact I.defers
  · intro t
    rw [h.wrote I.down hi hn t]
    by_cases c : ops[i].dst = some t
    · rw [if_pos c]
      have hlt := h.step hi
      have hp := hlt.fr
      rw [c] at hp
      have htn := put_lt hp
      have e : (a.put ops[i].dst u).tmps.getD t undef = u := by
        rw [c]
        simp only [Act.put]
        rw [Array.getD_eq_getD_getElem?, Array.getElem?_setIfInBounds, if_pos rfl, if_pos (by rw [I.size]; exact htn)]
        rfl
      rw [e]
      show Rep (res (grow β β1 (D i).n (D (i + 1)).n) (D (i + 1)).n) (V i) u
      rw [hres]; exact hv
    · rw [if_neg c]
      have e : (a.put ops[i].dst u).tmps.getD t undef = a.tmps.getD t undef := by
        cases hd : ops[i].dst with
        | none => rfl
        | some d =>
          simp only [Act.put]
          rw [Array.getD_eq_getD_getElem?, Array.getD_eq_getD_getElem?, Array.getElem?_setIfInBounds, if_neg (fun g => c (by rw [hd, g]))]
      rw [e]
      have := I.vals t
      cases hw : writer ops L t ops.size with
      | none => rw [hw] at this; exact Rep.mono' this (res_mono hle (Nat.le_refl _))
      | some j => rw [hw] at this; exact Rep.mono' this (res_mono hle (Nat.le_refl _))
  · refine ⟨?_, ?_, ?_⟩
    · intro x b e
      obtain ⟨p, hp, hr⟩ := I.core.blk x b e
      refine ⟨p, (res_mono hle (Nat.le_refl _)) _ _ hp, ?_⟩
      rw [hblk x p (res_some hp).2]
      exact hr.mono (res_mono hle (Nat.le_refl _))
    · intro x y p q hx hy hp hq hpq
      obtain ⟨p', hp1, hp2⟩ := hold x (.inl hx)
      obtain ⟨q', hq1, hq2⟩ := hold y (.inl hy)
      have e1 := (res_some hp).2
      have e2 := (res_some hq).2
      rw [hp2] at e1
      rw [hq2] at e2
      cases e1
      cases e2
      exact I.inj x y p q (.inl hx) (.inl hy) hp1 hq1 hpq
    · intro x p hp
      obtain ⟨g1, g2⟩ := res_some hp
      refine ⟨g1, ?_⟩
      by_cases c : (D i).n ≤ x ∧ x < (D (i + 1)).n
      · rw [grow_in c] at g2; exact (h2 x p g2).2
      · rw [grow_out c] at g2; have := (I.low x p g2).1; omega
  · intro j hj
    exact add_of.2 (.inl (I.held j hj))
  · intro j hj hh x b hx
    rcases add_of.1 hj with g | rfl
    · obtain ⟨g1, g2, p, g3, g4⟩ := I.news j g hh x b hx
      refine ⟨g1, g2, p, hle _ _ g3, ?_⟩
      rw [hblk x p g3]
      exact g4.mono (res_mono hle (Nat.le_refl _))
    · obtain ⟨g1, g2, p, g3, g4⟩ := h4 x b hx
      refine ⟨g1, g2, p, by rw [grow_in ⟨g1, g2⟩]; exact g3, ?_⟩
      rw [hres]; exact g4
  · intro x y p q hx hy hp hq hpq
    have newp : ∀ x b p, (x, b) ∈ (R i).news → grow β β1 (D i).n (D (i + 1)).n x = some p → β1 x = some p ∧ w.heap.size ≤ p.1 := by
      intro x b p hx hp
      obtain ⟨g1, g2, _⟩ := h4 x b hx
      rw [grow_in ⟨g1, g2⟩] at hp
      exact ⟨hp, h3 x p g1 hp⟩
    rcases hlive x hx with gx | ⟨b, gx⟩
    · obtain ⟨p', hp1, hp2⟩ := hold x gx
      rw [hp2] at hp
      cases hp
      rcases hlive y hy with gy | ⟨c, gy⟩
      · obtain ⟨q', hq1, hq2⟩ := hold y gy
        rw [hq2] at hq
        cases hq
        exact I.inj x y p q gx gy hp1 hq1 hpq
      · have := (I.low x p hp1).1
        have := (newp y c q gy hq).2
        omega
    · rcases hlive y hy with gy | ⟨c, gy⟩
      · obtain ⟨q', hq1, hq2⟩ := hold y gy
        rw [hq2] at hq
        cases hq
        have := (I.low y q hq1).1
        have := (newp x b p gx hp).2
        omega
      · exact h5 x y p q b c gx gy (newp x b p gx hp).1 (newp y c q gy hq).1 hpq
  · intro x p hp
    by_cases c : (D i).n ≤ x ∧ x < (D (i + 1)).n
    · rw [grow_in c] at hp
      exact ⟨(h2 x p hp).2, .inr ⟨i, add_of.2 (.inr rfl), c⟩⟩
    · rw [grow_out c] at hp
      obtain ⟨g1, g2⟩ := I.low x p hp
      exact ⟨by omega, g2.imp id fun ⟨j, q1, q2⟩ => ⟨j, add_of.2 (.inl q1), q2⟩⟩
  · intro x hx
    have := h.ahead (i := i) (by omega)
    rw [grow_out (by omega)]
    exact I.same x hx
  · intro b hb hnb
    rw [hk b (by have := I.hsize; omega)]
    exact I.keep b hb hnb
  · intro x p hx hp
    by_cases c : (D i).n ≤ x ∧ x < (D (i + 1)).n
    · rw [grow_in c] at hp
      have := h3 x p c.1 hp
      exact .inl (Nat.le_trans I.hsize this)
    · rw [grow_out c] at hp
      exact I.fresh x p hx hp
end
end Ev
end Go.Proofs.Ytnajbogmhhlpcaa
namespace Go.Proofs.Ytnajbogmhhlpcaa
open Go.RowKit
namespace Ev
set_option linter.unusedSectionVars false
variable [Env]
section
variable {P : Program} {lo nt : Nat} {ih : Nat → Job → Option Out} {ops : Array Oper} {s0 : St} {fr0 : Tr AV} {D : Nat → DSt} {V : Nat → AV} {R : Nat → Rec}
variable {β0 β : Beta} {w0 w : World} {C : Core} {n : Nat} {L : Nat → Bool} {a : Act}
/-- An operation that writes has been carried out. -/
theorem Inv.wrote (h : Plan P lo nt ih ops s0 fr0 D V R) (I : Inv lo nt ops s0 fr0 D V R β0 w0 C n L a w β) {i : Nat} (hi : i < ops.size) (hn : L i = false) (hm : ∀ j, Nat.testBit (R i).mask j = true → L j = true) {β1 : Beta} {w1 : World} {u : Value} {s' : St}
    (hnn : n ≤ (D i).n) (hx : Ext lo (res β (D i).n) ⟨memOf C.h C.held (R i).mask ((List.range i).map R) 0, (D i).n⟩ w β1 s' w1) (hs' : s'.n = (D (i + 1)).n) (hv : Rep β1 (V i) u) (hnews : (R i).news = []) :
    Inv lo nt ops s0 fr0 D V R β0 w0 ⟨s'.h, Nat.lor (Nat.lor C.held (R i).mask) (2 ^ i)⟩ (D (i + 1)).n (add L i) (a.put ops[i].dst u) w1 (grow β β1 (D i).n (D (i + 1)).n) := by
  have hn1 := h.n1 hi
  have hlow2 : ∀ x p, β1 x = some p → x < (D (i + 1)).n ∧ p.1 < w1.heap.size := fun x p e => by
    have := hx.sit.low x p e; rw [hs'] at this; exact this
  have h1 : ∀ x, x < (D i).n → β1 x = res β (D i).n x := fun x hlt => hx.same x hlt
  have hle := I.grow_le h hi hn β1
  have hres := res_grow (β := β) (β1 := β1) hn1 h1 (fun x p e => (hlow2 x p e).1)
  have hahead := h.ahead (i := i) (by omega)
  obtain ⟨hX, hXl⟩ := I.sub h (mask := (R i).mask) (m := i) (N := (D i).n) (fun j hj => ⟨hm j hj, h.nle (by have := h.mask_lt hi hj; omega) (by omega)⟩) hnn
  have bits : ∀ j, Nat.testBit (Nat.lor (Nat.lor C.held (R i).mask) (2 ^ i)) j = (Nat.testBit C.held j || Nat.testBit (R i).mask j || decide (i = j)) := fun j => by rw [testBit_lor, testBit_lor, testBit_two]
  -- what others made is not in the memory that this one was given
  have apartX : ∀ j x b, L j = true → Nat.testBit C.held j = false → Nat.testBit (R i).mask j = false → (x, b) ∈ (R j).news → ¬ Live (memOf C.h C.held (R i).mask ((List.range i).map R) 0) x := by
    intro j x b hj h2 h3 hxb hl
    obtain ⟨g1, g2, _⟩ := I.news j hj h2 x b hxb
    have := h.ahead (i := j) (by have := I.lt j hj; omega)
    rcases (hXl x hl).2 with g | ⟨k, k1, k2, k3, k4⟩
    · rcases I.prov x g with q | ⟨k, k1, k2, k3⟩
      · omega
      · have := h.one (I.lt j hj) (I.lt k (I.held k k1)) g1 g2 k2 k3
        rw [this, k1] at h2; cases h2
    · have := h.one (I.lt j hj) (I.lt k (hm k k1)) g1 g2 k3 k4
      rw [this, k1] at h3; cases h3
  -- and stands as it stood
  have stays : ∀ j x b p, L j = true → Nat.testBit C.held j = false → Nat.testBit (R i).mask j = false → (x, b) ∈ (R j).news → β x = some p → w1.heap[p.1]? = w.heap[p.1]? := by
    intro j x b p hj h2 h3 hxb hp
    refine hx.keep p.1 (I.low x p hp).1 ?_
    intro y q _ hy hq hqp
    have : y = x := I.inj y x q p (hXl y hy).1 (.inr ⟨j, b, hj, h2, hxb⟩) (res_some hq).2 hp hqp
    rw [this] at hy
    exact apartX j x b hj h2 h3 hxb hy
  have g1of : ∀ x, x < (D (i + 1)).n → grow β β1 (D i).n (D (i + 1)).n x = β1 x := fun x hlt => by
    by_cases c : (D i).n ≤ x
    · rw [grow_in ⟨c, hlt⟩]
    · rw [grow_out (fun g => c g.1), h1 x (by omega)]
      unfold res
      rw [if_pos (by omega)]
  -- one live name in the new memory, one of the others'
  have cross : ∀ x y p q j c, Live s'.h x → L j = true → Nat.testBit C.held j = false → Nat.testBit (R i).mask j = false → (y, c) ∈ (R j).news → β1 x = some p → β y = some q → p.1 = q.1 → x = y := by
    intro x y p q j c hlx hj h2 h3 hyc hp hq hpq
    by_cases cx : x < (D i).n
    · have hl := hx.old x cx hlx
      rw [h1 x cx] at hp
      exact I.inj x y p q (hXl x hl).1 (.inr ⟨j, c, hj, h2, hyc⟩) (res_some hp).2 hq hpq
    · rcases hx.new x p (show (D i).n ≤ x by omega) hp with g | ⟨y', q', _, hl, hq', e⟩
      · have := (I.low y q hq).1; omega
      · have : y' = y := I.inj y' y q' q (hXl y' hl).1 (.inr ⟨j, c, hj, h2, hyc⟩) (res_some hq').2 hq (by omega)
        rw [this] at hl
        exact absurd hl (apartX j y c hj h2 h3 hyc)
  have other : ∀ j, add L i j = true → Nat.testBit (Nat.lor (Nat.lor C.held (R i).mask) (2 ^ i)) j = false → L j = true ∧ Nat.testBit C.held j = false ∧ Nat.testBit (R i).mask j = false ∧ j ≠ i := by
    intro j hj hb
    rw [bits] at hb
    simp only [Bool.or_eq_false_iff, decide_eq_false_iff_not] at hb
    exact ⟨(add_of.1 hj).resolve_right (fun e => hb.2 e.symm), hb.1.1, hb.1.2, fun e => hb.2 e.symm⟩
  have rangeout : ∀ j x b, L j = true → Nat.testBit C.held j = false → j ≠ i → (x, b) ∈ (R j).news → grow β β1 (D i).n (D (i + 1)).n x = β x := by
    intro j x b hj h2 hne hxb
    obtain ⟨g1, g2, _⟩ := I.news j hj h2 x b hxb
    refine grow_out fun g => hne ?_
    exact h.one (I.lt j hj) hi g1 g2 g.1 g.2
  refine ⟨?_, ?_, ?_, ?_, ?_, ?_, ?_, ?_, ?_, ?_, ?_, ?_, hx.os.trans I.os, hx.tape.trans I.tape, hx.output.trans I.output, Nat.le_trans I.hsize hx.size, ?_, ?_, ?_⟩
  · intro x j hx' hj
    rcases add_of.1 hx' with g | rfl
    · exact add_of.2 (.inl (I.down x j g hj))
    · exact add_of.2 (.inl (hm j hj))
  · intro x hx'
    rcases add_of.1 hx' with g | rfl
    · exact I.lt x g
    · exact hi
  · cases hd : ops[i].dst with
    | none => exact I.size
    | some d => simp only [Act.put, Array.size_setIfInBounds]; exact I.size
  · cases hd : ops[i].dst <;> exact I.defers
  · intro t
    rw [h.wrote I.down hi hn t]
    by_cases c : ops[i].dst = some t
    · rw [if_pos c]
      have hp := (h.step hi).fr
      rw [c] at hp
      have htn := put_lt hp
      have e : (a.put ops[i].dst u).tmps.getD t undef = u := by
        rw [c]
        simp only [Act.put]
        rw [Array.getD_eq_getD_getElem?, Array.getElem?_setIfInBounds, if_pos rfl, if_pos (by rw [I.size]; exact htn)]
        rfl
      rw [e]
      show Rep (res (grow β β1 (D i).n (D (i + 1)).n) (D (i + 1)).n) (V i) u
      rw [hres]; exact hv
    · rw [if_neg c]
      have e : (a.put ops[i].dst u).tmps.getD t undef = a.tmps.getD t undef := by
        cases hd : ops[i].dst with
        | none => rfl
        | some d =>
          simp only [Act.put]
          rw [Array.getD_eq_getD_getElem?, Array.getD_eq_getD_getElem?, Array.getElem?_setIfInBounds, if_neg (fun g => c (by rw [hd, g]))]
      rw [e]
      have := I.vals t
      cases hw : writer ops L t ops.size with
      | none => rw [hw] at this; exact Rep.mono' this (res_mono hle (Nat.le_refl _))
      | some j => rw [hw] at this; exact Rep.mono' this (res_mono hle (Nat.le_refl _))
  · rw [hres]
    have := hx.sit
    rw [show s' = ⟨s'.h, (D (i + 1)).n⟩ by rw [← hs']] at this
    exact this
  · intro j hj
    rw [bits] at hj
    simp only [Bool.or_eq_true, decide_eq_true_eq] at hj
    rcases hj with (g | g) | g
    · exact add_of.2 (.inl (I.held j g))
    · exact add_of.2 (.inl (hm j g))
    · exact add_of.2 (.inr g.symm)
  · intro x hlx
    by_cases cx : x < (D i).n
    · rcases (hXl x (hx.old x cx hlx)).2 with g | ⟨k, k1, k2, k3, k4⟩
      · rcases I.prov x g with q | ⟨k, k1, k2, k3⟩
        · exact .inl q
        · exact .inr ⟨k, by rw [bits, k1]; rfl, k2, k3⟩
      · exact .inr ⟨k, by rw [bits, k1]; simp, k3, k4⟩
    · obtain ⟨b, hb⟩ := hlx
      obtain ⟨p, hp, _⟩ := hx.sit.blk x b hb
      exact .inr ⟨i, by rw [bits]; simp, by omega, (hlow2 x p hp).1⟩
  · intro j hj hb x b hxb
    obtain ⟨j1, j2, j3, j4⟩ := other j hj hb
    obtain ⟨g1, g2, p, g3, g4⟩ := I.news j j1 j2 x b hxb
    refine ⟨g1, g2, p, hle _ _ g3, ?_⟩
    rw [stays j x b p j1 j2 j3 hxb g3]
    exact g4.mono (res_mono hle (Nat.le_refl _))
  · intro x y p q hlx hly hp hq hpq
    rcases hlx with gx | ⟨j, b, x1, x2, x3⟩
    · have hxn : x < (D (i + 1)).n := by
        obtain ⟨b, hb⟩ := gx
        obtain ⟨p', hp', _⟩ := hx.sit.blk x b hb
        exact (hlow2 x p' hp').1
      rw [g1of x hxn] at hp
      rcases hly with gy | ⟨k, c, y1, y2, y3⟩
      · have hyn : y < (D (i + 1)).n := by
          obtain ⟨b, hb⟩ := gy
          obtain ⟨p', hp', _⟩ := hx.sit.blk y b hb
          exact (hlow2 y p' hp').1
        rw [g1of y hyn] at hq
        exact hx.sit.inj x y p q gx gy hp hq hpq
      · obtain ⟨j1, j2, j3, j4⟩ := other k y1 y2
        rw [rangeout k y c j1 j2 j4 y3] at hq
        exact cross x y p q k c gx j1 j2 j3 y3 hp hq hpq
    · obtain ⟨j1, j2, j3, j4⟩ := other j x1 x2
      rw [rangeout j x b j1 j2 j4 x3] at hp
      rcases hly with gy | ⟨k, c, y1, y2, y3⟩
      · have hyn : y < (D (i + 1)).n := by
          obtain ⟨b, hb⟩ := gy
          obtain ⟨p', hp', _⟩ := hx.sit.blk y b hb
          exact (hlow2 y p' hp').1
        rw [g1of y hyn] at hq
        exact (cross y x q p j b gy j1 j2 j3 x3 hq hp hpq.symm).symm
      · obtain ⟨k1, k2, k3, k4⟩ := other k y1 y2
        rw [rangeout k y c k1 k2 k4 y3] at hq
        exact I.inj x y p q (.inr ⟨j, b, j1, j2, x3⟩) (.inr ⟨k, c, k1, k2, y3⟩) hp hq hpq
  · intro x p hp
    by_cases c : (D i).n ≤ x ∧ x < (D (i + 1)).n
    · rw [grow_in c] at hp
      exact ⟨(hlow2 x p hp).2, .inr ⟨i, add_of.2 (.inr rfl), c⟩⟩
    · rw [grow_out c] at hp
      obtain ⟨g1, g2⟩ := I.low x p hp
      have := hx.size
      exact ⟨by omega, g2.imp id fun ⟨j, q1, q2⟩ => ⟨j, add_of.2 (.inl q1), q2⟩⟩
  · intro x hx'
    rw [grow_out (by omega)]
    exact I.same x hx'
  · intro b hb hnb
    rw [hx.keep b (by have := I.hsize; omega) ?_]
    · exact I.keep b hb hnb
    · intro y q hloy hly hq
      obtain ⟨q1, q2⟩ := res_some hq
      by_cases cy : y < s0.n
      · have hl0 : Live s0.h y := by
          rcases (hXl y hly).2 with g | ⟨k, k1, k2, k3, k4⟩
          · exact I.old y cy g
          · have := h.ahead (i := k) (by have := I.lt k (hm k k1); omega); omega
        exact hnb y q hloy hl0 (by rw [← I.same y cy]; exact q2)
      · rcases I.fresh y q (by omega) q2 with g | ⟨j, q', g1, g2, g3, g4⟩
        · omega
        · rw [← g4]; exact hnb j q' g1 g2 g3
  · intro x p hx' hp
    by_cases c : (D i).n ≤ x ∧ x < (D (i + 1)).n
    · rw [grow_in c] at hp
      rcases hx.new x p c.1 hp with g | ⟨y, q, g1, g2, g3, g4⟩
      · exact .inl (Nat.le_trans I.hsize g)
      · obtain ⟨q1, q2⟩ := res_some g3
        by_cases cy : y < s0.n
        · have hl0 : Live s0.h y := by
            rcases (hXl y g2).2 with g | ⟨k, k1, k2, k3, k4⟩
            · exact I.old y cy g
            · have := h.ahead (i := k) (by have := I.lt k (hm k k1); omega); omega
          exact .inr ⟨y, q, g1, hl0, by rw [← I.same y cy]; exact q2, g4⟩
        · rcases I.fresh y q (by omega) q2 with g | ⟨j, q', e1, e2, e3, e4⟩
          · exact .inl (by omega)
          · exact .inr ⟨j, q', e1, e2, e3, by omega⟩
    · rw [grow_out c] at hp
      exact I.fresh x p hx' hp
  · intro x hx' hlx
    rcases (hXl x (hx.old x (show x < (D i).n by omega) hlx)).2 with g | ⟨k, k1, k2, k3, k4⟩
    · exact I.old x hx' g
    · have := h.ahead (i := k) (by have := I.lt k (hm k k1); omega); omega
/-- The invariant at the memory of those that are done. -/
abbrev At (lo nt : Nat) (ops : Array Oper) (s0 : St) (fr0 : Tr AV) (D : Nat → DSt) (V : Nat → AV) (R : Nat → Rec) (β0 : Beta) (w0 : World) (L : Nat → Bool) (a : Act) (w : World) (β : Beta) : Prop :=
  Inv lo nt ops s0 fr0 D V R β0 w0 (D (topW R L ops.size)).core (D (topW R L ops.size)).n L a w β
theorem topW_add_calm {i : Nat} (hw : isW (R i) = false) : topW R (add L i) ops.size = topW R L ops.size :=
  topW_same fun j _ hj => by
    have : j ≠ i := fun e => by rw [e, hw] at hj; cases hj
    simp [add, this]
theorem Plan.topW_add (h : Plan P lo nt ih ops s0 fr0 D V R) (hd : Down R L) {i : Nat} (hi : i < ops.size) (hn : L i = false) (hw : isW (R i) = true) : topW R (add L i) ops.size = i + 1 := by
  have h1 : topW R (add L i) ops.size = topW R (add L i) (i + 1) := by
    refine topW_cut (by omega) ?_
    intro k hik hk ⟨hl, hwk⟩
    have hl' : L k = true := (add_of.1 hl).resolve_right (by omega)
    have := hd k i hl' (h.passed hk (by omega) hwk hw)
    rw [hn] at this; cases this
  rw [h1, topW, if_pos ⟨by simp [add], hw⟩]
theorem Inv.heldi (I : Inv lo nt ops s0 fr0 D V R β0 w0 C n L a w β) {i : Nat} (hn : L i = false) : Nat.testBit C.held i = false := by
  cases hc : Nat.testBit C.held i with
  | false => rfl
  | true => have := I.held i hc; rw [hn] at this; cases this
/-- One operation, at whatever time its turn comes. -/
theorem one_op (hcall : CallOk P ih) (h : Plan P lo nt ih ops s0 fr0 D V R) (hg : Globs P β0) (hg0 : ∀ g, g < P.globals.size → g < s0.n) (I : At lo nt ops s0 fr0 D V R β0 w0 L a w β) {i : Nat} (hi : i < ops.size) (hn : L i = false) (hm : ∀ j, Nat.testBit (R i).mask j = true → L j = true)
    {K : Act → World → Prop} {Q : Exit → Act → World → Prop} (hK : ∀ a' w' β', At lo nt ops s0 fr0 D V R β0 w0 (add L i) a' w' β' → K a' w') : wpOp P ops Q i K a w := by
  have hst := h.step hi
  have hsees := I.sees h hi hn hm
  have hops := I.opsRep h hg hg0 hi hn hm
  have hopi : ops[i]? = some ops[i] := by simp [hi]
  unfold wpOp
  rw [hopi]
  simp only
  have hdead : Sit (res β (D i).n) ⟨.lf, (D i).n⟩ w :=
    ⟨(fun x b e => (by rw [get_lf] at e; cases e)), (fun x y p q hx => (by obtain ⟨b, e⟩ := hx; rw [get_lf] at e; cases e)), fun x p hp => ⟨(res_some hp).1, (I.low x p (res_some hp).2).1⟩⟩
  cases hst.how with
  | skip hw hv hr hc hnn =>
    have hwk : isW (R i) = false := by simp [isW, hr.2]
    rw [if_neg (by rw [wanted_at hsees hw]; simp)]
    refine hK _ _ (grow β (res β (D i).n) (D i).n (D (i + 1)).n) ?_
    unfold At
    rw [topW_add_calm hwk]
    refine I.calm h hi hn hm (β1 := res β (D i).n) (w1 := w) (u := undef) (fun _ _ => rfl) (fun x p hp => ⟨by rw [hnn]; exact (res_some hp).1, (I.low x p (res_some hp).2).1⟩) rfl rfl rfl (Nat.le_refl _) (fun _ _ => rfl) (fun x p hx hp => by have := (res_some hp).1; omega) (fun x b hx => by rw [hr.1] at hx; cases hx) (fun x y p q b c hx => by rw [hr.1] at hx; cases hx) ?_ (I.heldi hn)
    rw [hv]; exact ⟨#[], rfl, rfl⟩
  | calm s' hw he hr hc hnn hle =>
    have hwk : isW (R i) = false := by simp [isW, hr.2]
    rw [if_pos (wanted_at hsees hw)]
    refine .inl ?_
    obtain ⟨u, w1, β1, q1, q2, q3⟩ := evOp_ok hdead (dst := ops[i].dst) (ty := ops[i].type) (pos := ops[i].pos) (after := ops[i].after) (guard := ops[i].guard) hops he
    have fin : K (a.put ops[i].dst u) w1 := by
      refine hK _ _ (grow β β1 (D i).n (D (i + 1)).n) ?_
      unfold At
      rw [topW_add_calm hwk]
      have hnew : ∀ x p, (D i).n ≤ x → β1 x = some p → w.heap.size ≤ p.1 := fun x p hx hp => by
        rcases q2.new x p hx hp with g | ⟨j, q, _, hl, _⟩
        · exact g
        · obtain ⟨b, e⟩ := hl; rw [get_lf] at e; cases e
      refine I.calm h hi hn hm (β1 := β1) (w1 := w1) (u := u) (fun x hx => q2.same x hx) (fun x p hp => by rw [hnn]; exact q2.sit.low x p hp) q2.os q2.tape q2.output q2.size ?_ hnew ?_ ?_ q3 (I.heldi hn)
      · intro b hb
        refine q2.keep b hb ?_
        intro x p _ hl
        obtain ⟨c, e⟩ := hl; rw [get_lf] at e; cases e
      · intro x b hx
        rw [hr.1] at hx
        obtain ⟨g1, g2, g3⟩ := newsOf_mem hx
        obtain ⟨p, hp, hb⟩ := q2.sit.blk x b g3
        exact ⟨g1, by rw [hnn]; omega, p, hp, hb⟩
      · intro x y p q b c hx hy hp hq hpq
        rw [hr.1] at hx hy
        exact q2.sit.inj x y p q ⟨b, (newsOf_mem hx).2.2⟩ ⟨c, (newsOf_mem hy).2.2⟩ hp hq hpq
    unfold Oper.wp
    rcases q1 with q1 | ⟨q1, rfl⟩
    · exact (congrArg (fun r => Oper.upon P ops[i] a K Q r) q1).mpr fin
    · exact (congrArg (fun r => Oper.upon P ops[i] a K Q r) q1).mpr fin
  | look t x b off hw ho hx hl hb hr hc hnn =>
    have hwk : isW (R i) = false := by simp [isW, hr.2]
    rw [if_pos (wanted_at hsees hw)]
    refine .inl ?_
    obtain ⟨m, nn, hmN, him, hat⟩ := h.look_at I.down hi hn hm hr.2 hl
    have hT : (D (topW R L ops.size)).n ≤ (D ops.size).n := h.nle (topW_le _) (Nat.le_refl _)
    obtain ⟨hX, _⟩ := I.sub h (mask := (R i).mask) (m := m) (N := (D ops.size).n) (fun j hj => ⟨hm j hj, h.nle (by have := h.mask_lt hi hj; omega) (Nat.le_refl _)⟩) hT
    unfold lookAt at hat
    split at hat
    case h_2 => cases hat
    case h_1 ii hti =>
    have hax : Rep (res β (D i).n) (.ptr b off) (a.eval x) := hops x (by rw [ho]; simp [Op.operands]) _ hx
    have hld : loadAt ⟨memOf (D (topW R L ops.size)).core.h (D (topW R L ops.size)).core.held (R i).mask ((List.range m).map R) 0, (D ops.size).n⟩ ii b off = some (V i) := hat
    obtain ⟨u, q1, q2⟩ := load_ok (P := P) hX hti (hax.mono' (res_mono (Beta.le_refl β) (h.nle (by omega) (Nat.le_refl _)))) hld
    have q3 : Rep (res β (D i).n) (V i) u := below_rep hb (q2.mono' (res_le β _))
    have hrun : (execOp a.eval ops[i]).run P w = .ok (.value u) w := by
      have e : execOp a.eval ops[i] = (do pure (Next.value (← Instr.loadAt t (a.eval x)))) := by
        unfold execOp
        rw [ho]
      rw [e, Sem.run_bind, q1]
      rfl
    unfold Oper.wp
    rw [hrun]
    refine hK _ _ (grow β (res β (D i).n) (D i).n (D (i + 1)).n) ?_
    unfold At
    rw [topW_add_calm hwk]
    exact I.calm h hi hn hm (β1 := res β (D i).n) (w1 := w) (u := u) (fun _ _ => rfl) (fun x p hp => ⟨by rw [hnn]; exact (res_some hp).1, (I.low x p (res_some hp).2).1⟩) rfl rfl rfl (Nat.le_refl _) (fun _ _ => rfl) (fun x p hx hp => by have := (res_some hp).1; omega) (fun x b hx => by rw [hr.1] at hx; cases hx) (fun x y p q b c hx => by rw [hr.1] at hx; cases hx) q3 (I.heldi hn)
  | writes s' hw ha he hr hc hnn hle hs =>
    have hwk : isW (R i) = true := by simp [isW, hr.2]
    rw [if_pos (wanted_at hsees hw)]
    refine .inl ?_
    obtain ⟨hTi, hcore⟩ := h.top_writes I.down hi hn hm hwk
    have hTn : (D (topW R L ops.size)).n ≤ (D i).n := h.nle hTi (by omega)
    have hX := (I.sub h (mask := (R i).mask) (m := i) (N := (D i).n) (fun j hj => ⟨hm j hj, h.nle (by have := h.mask_lt hi hj; omega) (by omega)⟩) hTn).1
    rw [h.recs i (by omega), ← hcore] at he
    have hgl : Globs P (res β (D i).n) := fun g hgg => by
      obtain ⟨t, e⟩ := hg g hgg
      have := hg0 g hgg
      have := h.ahead (i := i) (by omega)
      exact ⟨t, res_of (by omega) (by rw [I.same g (by omega)]; exact e)⟩
    refine evOper_ok hcall hX hgl hops he ?_
    intro u w1 β1 hx hv
    refine hK _ _ (grow β β1 (D i).n (D (i + 1)).n) ?_
    have hI := I.wrote h hi hn hm hTn hx hnn.symm hv hr.1
    unfold At
    rw [h.topW_add I.down hi hn hwk]
    have e : (D (i + 1)).core = ⟨s'.h, Nat.lor (Nat.lor (D (topW R L ops.size)).core.held (R i).mask) (2 ^ i)⟩ := by
      have : (D (i + 1)).core = ⟨s'.h, Nat.lor (Nat.lor (D i).core.held (R i).mask) (2 ^ (D i).recs.length)⟩ := by simp only [DSt.core, hc]
      rw [this, hcore, h.len (by omega)]
    rw [e]
    exact hI
/-- The whole region, from whatever part of it. -/
theorem all_ops (hcall : CallOk P ih) (h : Plan P lo nt ih ops s0 fr0 D V R) (hg : Globs P β0) (hg0 : ∀ g, g < P.globals.size → g < s0.n) {Q : Exit → Act → World → Prop}
    (hQ : ∀ L a w β, (∀ i, i < ops.size → L i = true) → At lo nt ops s0 fr0 D V R β0 w0 L a w β → Q .normal a w) : ∀ (fuel : Nat) (listed : Array Bool) (L : Nat → Bool) (a : Act) (w : World) (β : Beta), listed.size = ops.size → (∀ i, i < ops.size → listed.getD i false = L i) →
    ((List.range ops.size).filter fun i => !L i).length ≤ fuel → At lo nt ops s0 fr0 D V R β0 w0 L a w β → wpAny P .any ops Q fuel listed a w := by
  -- where none is ready all are done
  have stuck : ∀ (listed : Array Bool) (L : Nat → Bool), listed.size = ops.size → (∀ i, i < ops.size → listed.getD i false = L i) → Region.ready .any ops listed = [] → ∀ i, i < ops.size → L i = true := by
    intro listed L hsz hL hr i
    induction i using Nat.strongRecOn with
    | _ i ihi =>
      intro hi
      cases hc : L i with
      | true => rfl
      | false =>
        have : i ∈ Region.ready .any ops listed := by
          unfold Region.ready
          rw [List.mem_filter]
          refine ⟨List.mem_range.2 hi, ?_⟩
          have e1 : listed.getD i true = false := by
            have := hL i hi
            rw [hc] at this
            rw [Array.getD_eq_getD_getElem?] at this ⊢
            rw [Array.getElem?_eq_getElem (by omega)] at this ⊢
            exact this
          have e2 : ops[i]? = some ops[i] := by simp [hi]
          rw [e1, e2]
          simp only [Bool.not_false, Option.map_some, Option.getD_some, Bool.true_and]
          rw [Array.all_eq_true']
          intro e he
          cases hb : Region.binds .any e with
          | false => rfl
          | true =>
            have hbit := h.edge hi (Array.mem_toList_iff.2 he) hb
            have hlt := h.mask_lt hi hbit
            rw [hL e.on (by omega), ihi e.on hlt (by omega)]
            rfl
        rw [hr] at this
        cases this
  intro fuel
  induction fuel with
  | zero =>
    intro listed L a w β hsz hL hcount I
    have hall : ∀ i, i < ops.size → L i = true := by
      intro i hi
      cases hc : L i with
      | true => rfl
      | false =>
        have : i ∈ (List.range ops.size).filter fun i => !L i := List.mem_filter.2 ⟨List.mem_range.2 hi, by rw [hc]; rfl⟩
        have := List.length_pos_of_mem this
        omega
    refine ⟨?_, hQ L a w β hall I⟩
    unfold Region.ready
    rw [List.filter_eq_nil_iff]
    intro i hi
    have hi' := List.mem_range.1 hi
    have e1 : listed.getD i true = true := by
      have := hL i hi'
      rw [hall i hi', Array.getD_eq_getD_getElem?] at this
      rw [Array.getD_eq_getD_getElem?]
      rw [Array.getElem?_eq_getElem (by omega)] at this ⊢
      exact this
    rw [e1]
    simp
  | succ fuel ihf =>
    intro listed L a w β hsz hL hcount I
    refine ⟨fun hr => hQ L a w β (stuck listed L hsz hL hr) I, ?_⟩
    intro i hir
    unfold Region.ready at hir
    rw [List.mem_filter] at hir
    obtain ⟨hi, hcond⟩ := hir
    have hi := List.mem_range.1 hi
    have e2 : ops[i]? = some ops[i] := by simp [hi]
    rw [e2] at hcond
    simp only [Option.map_some, Option.getD_some, Bool.and_eq_true, Bool.not_eq_true'] at hcond
    obtain ⟨c1, c2⟩ := hcond
    rw [Array.all_eq_true'] at c2
    have hn : L i = false := by
      rw [← hL i hi]
      rw [Array.getD_eq_getD_getElem?] at c1 ⊢
      rw [Array.getElem?_eq_getElem (by omega)] at c1 ⊢
      exact c1
    have hm : ∀ j, Nat.testBit (R i).mask j = true → L j = true := by
      intro j hj
      obtain ⟨e, he, hb, hlt, h4⟩ := h.mask_of hi hj
      have := c2 e (Array.mem_toList_iff.1 he)
      rw [hb] at this
      simp only [Bool.not_true, Bool.false_or] at this
      rw [hL e.on (by omega)] at this
      rcases h4 with h4 | h4
      · rw [← h4]; exact this
      · exact I.down e.on j this h4
    refine one_op hcall h hg hg0 I hi hn hm ?_
    intro a' w' β' I'
    refine ihf _ (add L i) a' w' β' (by simp [hsz]) ?_ ?_ I'
    · intro j hj
      rw [Array.getD_eq_getD_getElem?, Array.getElem?_setIfInBounds]
      by_cases e : i = j
      · subst e
        rw [if_pos rfl, if_pos (by omega)]
        simp [add]
      · rw [if_neg e, ← Array.getD_eq_getD_getElem?, hL j hj]
        have : (j == i) = false := by simpa using fun g => e g.symm
        simp [add, this]
    · have hlt : ((List.range ops.size).filter fun x => !add L i x).length < ((List.range ops.size).filter fun x => !L x).length := by
        have e : ((List.range ops.size).filter fun x => !add L i x) = ((List.range ops.size).filter fun x => !L x).filter fun x => !(x == i) := by
          rw [List.filter_filter]
          congr 1
          funext x
          simp [add, Bool.not_or, Bool.and_comm]
        rw [e]
        refine List.length_filter_lt_length_iff_exists.2 ⟨i, List.mem_filter.2 ⟨List.mem_range.2 hi, by rw [hn]; rfl⟩, by simp⟩
      omega
end
section
variable {P : Program} {β : Beta} {w : World} {s : St} {lo nt : Nat} {fr : Tr AV} {a : Act}
theorem draw_ok {ih : Nat → Job → Option Out} (hcall : CallOk P ih) (hm : P.follows .mixedOrders = true) {id : Nat} {ops : Array Oper} {e : Ex} {fr' : Tr AV} {s' : St} (h : evOpen P lo nt ih ops fr s = some (.code e fr' s')) (hs : Sit β s w) (hg : Globs P β) (hf : FRep β nt fr a)
    {Q : Exit → Act → World → Prop} (hQ : ∀ a' w' β', Ext lo β s w β' s' w' → FRep β' nt fr' a' → Q (exOf e) a' w') : (Code.region id ops true).wp P Q a w := by
  unfold evOpen at h
  split at h
  case h_2 => cases h
  case h_1 pl hpl =>
  obtain ⟨D, V, R, hd, hst, rfl, rfl, rfl⟩ := trace_of _ pl _ _ _ _ hpl h
  rw [forceN_eq] at hd
  have hp : Plan P lo nt ih ops s fr D V R := ⟨hd, hst⟩
  have hresβ : res β s.n = β := by
    funext i
    unfold res
    by_cases c : i < s.n
    · rw [if_pos c]
    · rw [if_neg c]
      cases hc : β i with
      | none => rfl
      | some p => exact absurd (hs.low i p hc).1 c
  have hg0 : ∀ g, g < P.globals.size → g < s.n := fun g hgg => by obtain ⟨t, e⟩ := hg g hgg; exact (hs.low g _ e).1
  have hs' : Sit β s { w with drawn := w.drawn + 1 } := ⟨hs.blk, hs.inj, hs.low⟩
  have none_ : ∀ k t, writer ops (fun _ => false) t k = none := by
    intro k t
    induction k with
    | zero => rfl
    | succ k ihk => simp only [writer, Bool.false_eq_true, false_and, if_false]; exact ihk
  have top0 : ∀ k, topW R (fun _ => false) k = 0 := by
    intro k
    induction k with
    | zero => rfl
    | succ k ihk => simp only [topW, Bool.false_eq_true, false_and, if_false]; exact ihk
  have I0 : At lo nt ops s fr D V R β { w with drawn := w.drawn + 1 } (fun _ => false) a { w with drawn := w.drawn + 1 } β := by
    unfold At
    rw [top0, hd]
    refine ⟨(fun i j hi => (by cases hi)), (fun i hi => (by cases hi)), hf.size, hf.defers, ?_, ?_, ?_, ?_, (fun j hj => (by cases hj)), ?_, fun i p hi => ⟨(hs.low i p hi).2, .inl (hs.low i p hi).1⟩, fun _ _ => rfl, rfl, rfl, rfl, Nat.le_refl _, fun _ _ _ => rfl, fun i p hi hpi => absurd (hs.low i p hpi).1 (by omega), fun _ _ h => h⟩
    · intro t
      rw [none_]
      show Rep (res β s.n) (slotV (fr.get (path t))) _
      rw [hresβ]; exact hf.at_ t
    · rw [hresβ]; exact hs'
    · intro j hj; simp [DSt.core] at hj
    · rintro i ⟨b, hb⟩
      obtain ⟨p, hpi, _⟩ := hs.blk i b hb
      exact .inl (hs.low i p hpi).1
    · intro i j p q hi hj hpi hq hpq
      rcases hi with hi | ⟨_, _, c, _⟩
      · rcases hj with hj | ⟨_, _, c, _⟩
        · exact hs.inj i j p q hi hj hpi hq hpq
        · cases c
      · cases c
  refine wp_region_any hm (all_ops hcall hp hg hg0 ?_ ops.size (Array.replicate ops.size false) (fun _ => false) a _ β (by simp) (fun i hi => by simp [Array.getD_eq_getD_getElem?, hi]) ?_ I0)
  · intro L a' w' β' hall I
    have hlen : (D ops.toList.length).recs = (List.range ops.size).map R := by rw [Array.length_toList]; exact hp.recs _ (Nat.le_refl _)
    have htop : (D ops.size).core = (D (topW R L ops.size)).core := by
      rw [hp.core_top ops.size (Nat.le_refl _)]
      congr 2
      exact topW_same fun j hj _ => (hall j hj).symm
    have hT : (D (topW R L ops.size)).n ≤ (D ops.size).n := hp.nle (topW_le _) (Nat.le_refl _)
    obtain ⟨hX, hXl⟩ := I.sub hp (mask := 2 ^ ops.size - 1) (m := ops.size) (N := (D ops.size).n) (fun j hj => by
      have hjn : j < ops.size := by rw [Nat.testBit_two_pow_sub_one] at hj; simpa using hj
      exact ⟨hall j hjn, hp.nle (by omega) (Nat.le_refl _)⟩) hT
    have hmem : memOf (D ops.toList.length).core.h (D ops.toList.length).core.held (2 ^ (D ops.toList.length).recs.length - 1) (D ops.toList.length).recs 0 = memOf (D (topW R L ops.size)).core.h (D (topW R L ops.size)).core.held (2 ^ ops.size - 1) ((List.range ops.size).map R) 0 := by
      rw [hlen]
      simp only [Array.length_toList, List.length_map, List.length_range, htop]
    refine hQ a' w' (res β' (D ops.size).n) ?_ ?_
    · rw [hmem]
      simp only [Array.length_toList]
      refine ⟨hX, I.os, I.tape, I.output, I.hsize, ?_, hp.ahead (Nat.le_refl _), I.keep, fun i p hi hpi => I.fresh i p hi (res_some hpi).2, ?_⟩
      · intro i hi
        have := hp.ahead (i := ops.size) (Nat.le_refl _)
        unfold res
        rw [if_pos (by omega)]
        exact I.same i hi
      · intro i hi hl
        rcases (hXl i hl).2 with g | ⟨k, k1, k2, k3, k4⟩
        · exact I.old i hi g
        · have hkn : k < ops.size := by rw [Nat.testBit_two_pow_sub_one] at k1; simpa using k1
          have := hp.ahead (i := k) (by omega); omega
    · refine ⟨I.size, I.defers, fun t => ?_⟩
      have hv := I.vals t
      have hwr : writer ops L t ops.size = writer ops (fun _ => true) t ops.size := writer_same fun j hj _ => hall j hj
      rw [hwr] at hv
      simp only [Array.length_toList]
      rw [hp.frame t ops.size (Nat.le_refl _)]
      cases hw : writer ops (fun _ => true) t ops.size with
      | none => rw [hw] at hv; exact Rep.mono' hv (res_mono (Beta.le_refl β') (hp.ahead (Nat.le_refl _)))
      | some j =>
        rw [hw] at hv
        have := writer_lt hw
        exact Rep.mono' hv (res_mono (Beta.le_refl β') (hp.nle (by omega) (Nat.le_refl _)))
  · refine Nat.le_trans (List.length_filter_le _ _) ?_
    simp
end
end Ev
end Go.Proofs.Ytnajbogmhhlpcaa
