/- Operations: maps, new slices, texts ranged over. -/
import Derived.Test.YtpafbnmncioppaaEvOpsC
import Derived.MapKept
namespace Go.Proofs.Ytpafbnmncioppaa
open Go.RowKit Go.MapKept
namespace Ev
set_option linter.unusedSectionVars false
variable [Env]
section
variable {P : Program} {β : Beta} {w : World} {s : St} {lo : Nat}
theorem isKey_of {d : TypeDesc} {k : AV} {u : Value} (h : keyDesc d k = true) (hu : Rep β k u) : IsKey d u := by
  unfold keyDesc at h
  split at h <;> first | (cases h; done) | (cases hu; first | trivial | exact (eq_of_beq h).symm) | (obtain ⟨rfl, _⟩ := hu; trivial)
theorem keySame_ok {d : TypeDesc} {k a : AV} {u v : Value} {b : Bool} (hk : keyDesc d k = true) (h : keySame k a = some b) (hu : Rep β k u) (hv : Rep β a v) : Instr.sameNow d u v = some b ∧ (b = true → v = u) := by
  unfold keySame at h
  split at h
  · rename_i x y
    cases hu
    cases hv
    cases h
    cases d <;> simp only [keyDesc, reduceCtorEq, Bool.false_eq_true] at hk
    have e : ((ByteArray.mk x.toArray) == (ByteArray.mk y.toArray)) = sameBytes x y := by
      rw [sameBytes_eq, Bool.eq_iff_iff, bytes_beq, beq_iff_eq]
      exact ⟨fun h => by simpa using congrArg (fun z => z.data.toList) h, fun h => by rw [h]⟩
    refine ⟨by simp only [Instr.sameNow, e], fun hb => ?_⟩
    rw [sameBytes_eq, beq_iff_eq] at hb
    rw [hb]
  · rename_i k' x k'' y
    cases hu
    cases hv
    cases hkk : (k' == k'') with
    | false => rw [hkk] at h; cases h
    | true =>
      rw [hkk] at h
      cases h
      obtain rfl := eq_of_beq hkk
      cases d <;> simp only [keyDesc, reduceCtorEq, Bool.false_eq_true] at hk
      exact ⟨by simp [Instr.sameNow], fun hb => by rw [eq_of_beq hb]⟩
  · cases hu
    cases hv
    cases h
    cases d <;> simp only [keyDesc, reduceCtorEq, Bool.false_eq_true] at hk
    exact ⟨by simp [Instr.sameNow], fun hb => by rw [eq_of_beq hb]⟩
  · rename_i id l x
    obtain ⟨rfl, hl⟩ := hu
    cases hv
    rw [Bool.cond_eq_ite] at h
    split at h
    case isFalse => cases h
    rename_i hx
    cases h
    cases d <;> simp only [keyDesc, reduceCtorEq, Bool.false_eq_true] at hk
    have e : ((ByteArray.mk (Env.txt id).toArray) == (ByteArray.mk x.toArray)) = false := by
      rw [Bool.eq_false_iff, ne_eq, bytes_beq]
      exact fun h => hl x (amongB_ok hx) (by simpa using congrArg (fun z => z.data.toList) h)
    exact ⟨by simp only [Instr.sameNow, e], fun hb => by cases hb⟩
  · cases h
theorem findE_ok {d : TypeDesc} {k : AV} {u : Value} (hk : keyDesc d k = true) (hu : Rep β k u) : ∀ (l : List (AV × AV)) (es : List MapEntry) (i : Nat) (r : Option AV), MapRep β l es → findE k l = some r →
    match r with
    | none => Instr.findNow d u es i = some none
    | some v => ∃ j x, Instr.findNow d u es i = some (some (j, x)) ∧ Rep β v x
  | [], _, i, r, e, h => by cases h; rw [e]; rfl
  | (a, v) :: l, _, i, r, ⟨en, m, e, ha, hv, hl⟩, h => by
    rw [e]
    simp only [findE] at h
    split at h
    · rename_i hs
      cases h
      have := (keySame_ok hk hs hu ha).1
      exact ⟨i, en.val, by simp only [Instr.findNow, this], hv⟩
    · rename_i hs
      have := (keySame_ok hk hs hu ha).1
      have ih := findE_ok hk hu l m (i + 1) r hl h
      simp only [Instr.findNow, this]
      exact ih
    · cases h
theorem lookup_ok (hs : Sit β s w) {t kt et : TypeId} {i ki ei : TI} (hi : ti P t = some i) (hd : i.d = .map kt et) (hki : ti P kt = some ki) (hei : ti P et = some ei) {m k : AV} {um uk : Value} (hm : Rep β m um) (hk : Rep β k uk) (hkd : keyDesc ki.d k = true) {ok : Bool} {f : Option AV} (h : foundE s m k = some f) :
    VG P (Instr.lookup t um uk ok) β w (match f with | some v => bif ok then .tup [v, .bool true] else v | none => bif ok then .tup [ei.zv, .bool false] else ei.zv) := by
  have hun := run_under hi w
  rw [hd] at hun
  obtain ⟨_, _, _, _, g2, _⟩ := ti_spec hki
  have hkey := isKey_of hkd hk
  obtain ⟨z, hz⟩ := run_zv hei
  have core : ∀ (es : Array MapEntry) (l : List (AV × AV)), MapRep β l es.toList → findE k l = some f → (Instr.checkKey es.isEmpty 10000 kt uk).run P w = .ok () w ∧
      ∃ fk : Option (Nat × Value), (Instr.findKey kt uk es.toList).run P w = .ok fk w ∧
        Rep β (match f with | some v => bif ok then .tup [v, .bool true] else v | none => bif ok then .tup [ei.zv, .bool false] else ei.zv)
          (match fk with | some (_, x) => if ok then .tuple #[x, .bool true] else x | none => if ok then .tuple #[z, .bool false] else z) := by
    intro es l hl hf
    have hchk := run_checkKey (w := w) g2 hkey es.isEmpty 9999
    have hfind := findE_ok hkd hk l es.toList 0 f hl hf
    refine ⟨hchk, ?_⟩
    cases f with
    | some v =>
      obtain ⟨j, x, h1, h2⟩ := hfind
      refine ⟨_, run_findKey (w := w) g2 h1, ?_⟩
      cases ok
      · exact h2
      · exact ⟨#[x, .bool true], rfl, x, [.bool true], rfl, h2, _, [], rfl, rfl, rfl⟩
    | none =>
      refine ⟨_, run_findKey (w := w) g2 hfind, ?_⟩
      cases ok
      · exact (hz w).2 β
      · exact ⟨#[z, .bool false], rfl, z, [.bool false], rfl, (hz w).2 β, _, [], rfl, rfl, rfl⟩
  cases m <;> try (simp [foundE] at h; done)
  case nilm =>
    simp only [foundE, Option.some.injEq] at h
    subst h
    cases hm
    obtain ⟨h0, fk, h1, h2⟩ := core #[] [] rfl rfl
    refine ⟨_, ?_, h2⟩
    have h0' : (Instr.checkKey true 10000 kt uk).run P w = .ok () w := h0
    have h1' : (Instr.findKey kt uk []).run P w = .ok fk w := h1
    simp only [Instr.lookup, Sem.run_bind, hun, Result.andThen_ok, Sem.run_pure, Array.isEmpty_empty, h0', h1']
    cases fk with
    | none => simp only [Sem.run_bind, (hz w).1, Result.andThen_ok, Sem.run_pure]
    | some y => rfl
  case map r =>
    simp only [foundE] at h
    split at h
    case h_2 => cases h
    case h_1 l hb =>
    obtain ⟨nb, tt, hbe, rfl⟩ := hm
    obtain ⟨p, hp, es, clock, hw, hl⟩ := hs.blk _ _ hb
    rw [hbe] at hp
    cases hp
    obtain ⟨h0, fk, h1, h2⟩ := core es l hl h
    refine ⟨_, ?_, h2⟩
    simp only [Instr.lookup, Sem.run_bind, hun, Result.andThen_ok, Sem.run_pure, MapKept.run_getObj_map hw, h0, h1]
    cases fk with
    | none => simp only [Sem.run_bind, (hz w).1, Result.andThen_ok, Sem.run_pure]
    | some y => rfl
theorem mapRep_at : ∀ {l : List (AV × AV)} {es : List MapEntry}, MapRep β l es → es.length = l.length := fun h => h.length
theorem mapRep_push : ∀ {l : List (AV × AV)} {es : List MapEntry} {k v : AV} {e : MapEntry}, MapRep β l es → Rep β k e.key → Rep β v e.val → MapRep β (l ++ [(k, v)]) (es ++ [e])
  | [], _, k, v, e, h, hk, hv => by rw [h]; exact ⟨e, [], rfl, hk, hv, rfl⟩
  | (_, _) :: _, _, k, v, e, ⟨en, m, he, ha, hb, hl⟩, hk, hv => by rw [he]; exact ⟨en, m ++ [e], rfl, ha, hb, mapRep_push hl hk hv⟩
theorem putE_ok {d : TypeDesc} {k v : AV} {u x : Value} (hk : keyDesc d k = true) (hu : Rep β k u) (hx : Rep β v x) : ∀ (l l' : List (AV × AV)) (es : List MapEntry) (i : Nat), MapRep β l es → putE k v l = some l' →
    (Instr.findNow d u es i = some none ∧ l' = l ++ [(k, v)]) ∨
    ∃ j y, Instr.findNow d u es i = some (some (i + j, y)) ∧ (es[j]?).map (·.key) = some u ∧ MapRep β l' (es.modify j fun e => { e with key := u, val := x })
  | [], l', _, i, e, h => by cases h; rw [e]; exact .inl ⟨rfl, rfl⟩
  | (a, b) :: l, l', _, i, ⟨en, m, e, ha, hb, hl⟩, h => by
    rw [e]
    simp only [putE] at h
    split at h
    · rename_i hs
      cases h
      have := keySame_ok hk hs hu ha
      have hkey : en.key = u := this.2 rfl
      refine .inr ⟨0, en.val, by simp only [Instr.findNow, this.1]; rfl, by simp [hkey], ?_⟩
      simp only [List.modify_zero_cons]
      exact ⟨_, m, rfl, by rw [← hkey]; exact ha, hx, hl⟩
    · rename_i hs
      have hn := (keySame_ok hk hs hu ha).1
      split at h
      · rename_i r hr
        cases h
        rcases putE_ok hk hu hx l r m (i + 1) hl hr with ⟨h1, h2⟩ | ⟨j, y, h1, h2, h3⟩
        · exact .inl ⟨by simp only [Instr.findNow, hn]; exact h1, by rw [h2]; rfl⟩
        · refine .inr ⟨j + 1, y, ?_, by simpa using h2, ?_⟩
          · simp only [Instr.findNow, hn]
            rw [h1, show i + 1 + j = i + (j + 1) by omega]
          · rw [List.modify_succ_cons]
            exact ⟨en, _, rfl, ha, hb, h3⟩
      · cases h
    · cases h
theorem upd_ok (hs : Sit β s w) {t : TypeId} {r : Nat} {kv v : AV} {um uk uv : Value} {a : AV} {s' : St} (h : updAV P lo s t r kv v = some (a, s')) (hm : Rep β (.map r) um) (hk : Rep β kv uk) (hv : Rep β v uv) :
    a = .tup [] ∧ SU P (Instr.mapUpdate t um uk uv) lo β s w s' := by
  unfold updAV at h
  split at h
  case h_1 => cases h
  case h_2 i hi =>
  split at h
  case h_2 => cases h
  case h_1 kt et hd =>
  split at h
  case h_1 => cases h
  case h_2 ki hki =>
  cases hc : (keyDesc ki.d kv && Nat.ble lo r) with
  | false => rw [hc] at h; cases h
  | true =>
    rw [hc] at h
    simp only [Bool.and_eq_true, Nat.ble_eq] at hc
    simp only [cond_true] at h
    split at h
    case h_2 => cases h
    case h_1 l hb =>
    split at h
    case h_2 => cases h
    case h_1 l' hl' =>
    cases h
    refine ⟨rfl, ?_⟩
    obtain ⟨nb, tt, hbe, rfl⟩ := hm
    obtain ⟨p, hp, es, clock, hw, hl⟩ := hs.blk _ _ hb
    rw [hbe] at hp
    cases hp
    have hun := run_under hi w
    rw [hd] at hun
    obtain ⟨_, _, _, _, g2, _⟩ := ti_spec hki
    have hkey := isKey_of hc.1 hk
    have hchk := run_checkKey (w := w) g2 hkey false 9999
    rcases putE_ok hc.1 hk hv l l' es.toList 0 hl hl' with ⟨h1, h2⟩ | ⟨j, y, h1, h2, h3⟩
    · have hf := run_findKey (w := w) g2 h1
      refine ⟨_, β, ?_, ext_put hs ⟨_, hb⟩ hc.2 hbe (o := .map (es.push { key := uk, val := uv, born := clock }) (clock + 1)) ⟨_, _, rfl, by rw [h2, Array.toList_push]; exact mapRep_push hl hk hv⟩ (w' := { w with heap := w.heap.setIfInBounds nb (.map (es.push { key := uk, val := uv, born := clock }) (clock + 1)) }) rfl rfl rfl rfl⟩
      simp only [Instr.mapUpdate, Sem.run_bind, hun, Result.andThen_ok, MapKept.run_getObj_map hw, hchk, hf, MapKept.run_setObj_map _ hw]
    · rw [Nat.zero_add] at h1
      have hf := run_findKey (w := w) g2 h1
      have hold : (((es[j]?).map (·.key)).getD uk) = uk := by
        have : (es[j]?).map (·.key) = some uk := by simpa using h2
        rw [this]; rfl
      have hstay := run_keyThatStays (P := P) (w := w) hkey
      refine ⟨_, β, ?_, ext_put hs ⟨_, hb⟩ hc.2 hbe (o := .map (es.modify j fun e => { e with key := uk, val := uv }) clock) ⟨_, _, rfl, by rw [Array.toList_modify]; exact h3⟩ (w' := { w with heap := w.heap.setIfInBounds nb (.map (es.modify j fun e => { e with key := uk, val := uv }) clock) }) rfl rfl rfl rfl⟩
      simp only [Instr.mapUpdate, Sem.run_bind, hun, Result.andThen_ok, MapKept.run_getObj_map hw, hchk, hf, hold, hstay, MapKept.run_setObj_map _ hw]
theorem makeMap_ok (hs : Sit β s w) (t : TypeId) : SG P (Instr.makeMap t none) lo β s w (.map s.n) (s.new (.map [])) :=
  ⟨.map (some w.heap.size), w.alloc (.map #[] 0), upd β s.n (w.heap.size, 0), run_makeMap t w, ext_new hs ⟨_, _, rfl, rfl⟩, ⟨_, _, upd_at _ _ _, rfl⟩⟩
theorem makeSlice_ok (hs : Sit β s w) {t e : TypeId} {i j : TI} (hi : ti P t = some i) (hd : i.d = .slice e) (hj : ti P e = some j) {kl kc : IntKind} {l c : Int} (h0 : 0 ≤ l) (h1 : l ≤ c) (h2 : c ≤ 1048576) (h3 : j.bytes ≤ 1048576) (h4 : 0 < j.zero.length) (h5 : j.zero.length = j.size) :
    SG P (Instr.makeSlice t (.int kl l) (.int kc c)) lo β s w (.slc s.n 0 l.toNat (.fix c.toNat)) (s.new (zeroRow e (c.toNat * j.size) j.zero)) := by
  obtain ⟨info, z, a, g1, g2, g3, g4, g5, g6, g7, _⟩ := ti_spec hj
  obtain ⟨info', _, _, g1', g2', _⟩ := ti_spec hi
  have hzr : Reps (upd β s.n (w.heap.size, c.toNat * j.size)) j.zero z.cells.toList := by rw [g7]; exact cells_rep (ofV_rep g6)
  have hzl := Reps.length hzr
  rw [Array.length_toList] at hzl
  have hb : (info.bytes : Int) * c ≤ 281474976710656 := by
    rw [g4]
    have : (j.bytes : Int) * c ≤ 1048576 * 1048576 := Int.mul_le_mul (by omega) h2 (by omega) (by omega)
    omega
  have := run_make (P := P) w t e info z (by rw [g2', hd]) g1 g5 kl kc l c h0 h1 hb (by omega)
  refine ⟨_, _, upd β s.n (w.heap.size, c.toNat * j.size), this, ext_new hs ?_, ⟨_, _, c.toNat, upd_at _ _ _, rfl, by omega, rfl⟩⟩
  rw [g3]
  refine brep_zero hzr e _ _ (by rw [size_madeCells]) ?_
  intro k hk
  have hlt : k % z.cells.size < z.cells.size := Nat.mod_lt _ (by omega)
  simp only [madeCells, Array.getElem?_map, Array.getElem?_range, hk, if_true, Option.map_some, Array.length_toList]
  rw [getElem!_pos z.cells _ hlt]
  simp [hlt]
theorem range_ok (hs : Sit β s w) {t : TypeId} {i : TI} (hi : ti P t = some i) (hd : i.d = .string) {bs : List UInt8} {u : Value} (hu : Rep β (.str bs) u) : SG P (Instr.range t u) lo β s w (.ptr s.n 0) (s.new (.iter bs 0)) := by
  cases hu
  obtain ⟨_, _, _, _, g2, _⟩ := ti_spec hi
  refine ⟨_, _, upd β s.n (w.heap.size, 0), run_range_string w t _ (by rw [g2, hd]), ext_new hs ⟨_, rfl, ?_⟩, ⟨_, _, upd_at _ _ _, rfl⟩⟩
  simp
theorem next_ok (hs : Sit β s w) {b pos : Nat} {bs : List UInt8} {u : Value} (hu : Rep β (.ptr b 0) u) (hb : s.h.get (path b) = some (.iter bs pos)) (hlo : lo ≤ b) (ty : TypeId) {v : AV} {s' : St}
    (h : nextAV s b pos bs = some (v, s')) : SG P (Instr.next u true ty) lo β s w v s' := by
  obtain ⟨nb, tt, hbe, rfl⟩ := hu
  obtain ⟨p, hp, full, hw, hdrop⟩ := hs.blk _ _ hb
  rw [hbe] at hp
  cases hp
  have hget : (getObj nb).run P w = .ok (.stringIter full pos) w := by simp [getObj, Sem.run, hw]
  cases bs with
  | nil =>
    cases h
    have hge : ¬ pos < full.size := by
      have := congrArg List.length hdrop
      rw [List.length_drop, List.length_nil, Array.length_toList] at this
      show ¬ pos < full.data.size
      omega
    refine .stay hs (u := .tuple #[.bool false]) ?_ ⟨_, rfl, _, [], rfl, rfl, rfl⟩
    simp only [Instr.next, Sem.run_bind, hget, Result.andThen_ok, hge, if_false, Sem.run_pure]
  | cons c r =>
    simp only [nextAV] at h
    cases hc : Nat.blt c.toNat 128 with
    | false => rw [hc] at h; cases h
    | true =>
      rw [hc] at h
      cases h
      have hlt : pos < full.size := by
        have := congrArg List.length hdrop
        rw [List.length_drop, List.length_cons, Array.length_toList] at this
        show pos < full.data.size
        omega
      have hcc : full[pos]'hlt = c := by
        have := congrArg List.head? hdrop
        simp only [List.head?_drop, List.head?_cons] at this
        have h2 : full.data.toList[pos]? = some (full[pos]'hlt) := by
          rw [List.getElem?_eq_getElem (by rw [Array.length_toList]; exact hlt)]; rfl
        rw [h2] at this
        exact Option.some.inj this
      have hc' : c.toNat + 1 ≤ 128 := by simpa [Nat.blt, Nat.ble_eq] using hc
      have hdec := decode_ascii full pos hlt (by rw [hcc]; omega)
      rw [hcc] at hdec
      refine ⟨.tuple #[.bool true, goInt pos, .int .i32 c.toNat], _, β, ?_, ext_put hs ⟨_, hb⟩ hlo hbe (o := .stringIter full (pos + 1)) ⟨full, rfl, ?_⟩ (w' := { w with heap := w.heap.setIfInBounds nb (.stringIter full (pos + 1)) }) rfl rfl rfl rfl, ?_⟩
      · have hset : (setObj nb (.stringIter full (pos + 1))).run P w = .ok () { w with heap := w.heap.setIfInBounds nb (.stringIter full (pos + 1)) } := by simp [setObj, Sem.run, hw]
        simp only [Instr.next, Sem.run_bind, hget, Result.andThen_ok, hlt, if_true, hdec, hset, Sem.run_pure]
      · have := congrArg List.tail hdrop
        simp only [List.tail_drop, List.tail_cons] at this
        exact this
      · exact ⟨_, rfl, _, _, rfl, rfl, _, _, rfl, rfl, _, [], rfl, rfl, rfl⟩
end
end Ev
end Go.Proofs.Ytpafbnmncioppaa
