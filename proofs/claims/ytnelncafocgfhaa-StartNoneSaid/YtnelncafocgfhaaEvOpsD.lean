/- Operations: maps, new slices, texts ranged over. -/
import Derived.Test.YtnelncafocgfhaaEvOpsC
import Derived.MapKept
import Derived.Laws.StructEq
namespace Go.Proofs.Ytnelncafocgfhaa
open Go.RowKit Go.MapKept
namespace Ev
set_option linter.unusedSectionVars false
variable [Env]
section
variable {P : Program} {β : Beta} {w : World} {s : St} {lo : Nat}
theorem isKey_of {d : TypeDesc} {k : AV} {u : Value} (h : keyDesc d k = true) (hu : Rep β k u) : IsKey d u := by
  unfold keyDesc at h
  split at h <;> first | (cases h; done) | (cases hu; first | trivial | exact (eq_of_beq h).symm) | (obtain ⟨rfl, _⟩ := hu; trivial)
theorem keySame_ok {d : TypeDesc} {k a : AV} {u v : Value} {b : Bool} (hk : keyDesc d k = true) (h : keySame k a = some b) (hu : Rep β k u) (hv : Rep β a v) : Instr.sameNow d u v = some b ∧ (b = true → v = u) := by
  unfold keySame at h
  split at h
  · rename_i x y
    cases hu
    cases hv
    cases h
    cases d <;> simp only [keyDesc, reduceCtorEq, Bool.false_eq_true] at hk
    have e : ((ByteArray.mk x.toArray) == (ByteArray.mk y.toArray)) = sameBytes x y := by
      rw [sameBytes_eq, Bool.eq_iff_iff, bytes_beq, beq_iff_eq]
      exact ⟨fun h => by simpa using congrArg (fun z => z.data.toList) h, fun h => by rw [h]⟩
    refine ⟨by simp only [Instr.sameNow, e], fun hb => ?_⟩
    rw [sameBytes_eq, beq_iff_eq] at hb
    rw [hb]
  · rename_i k' x k'' y
    cases hu
    cases hv
    cases hkk : (k' == k'') with
    | false => rw [hkk] at h; cases h
    | true =>
      rw [hkk] at h
      cases h
      obtain rfl := eq_of_beq hkk
      cases d <;> simp only [keyDesc, reduceCtorEq, Bool.false_eq_true] at hk
      exact ⟨by simp [Instr.sameNow], fun hb => by rw [eq_of_beq hb]⟩
  · cases hu
    cases hv
    cases h
    cases d <;> simp only [keyDesc, reduceCtorEq, Bool.false_eq_true] at hk
    exact ⟨by simp [Instr.sameNow], fun hb => by rw [eq_of_beq hb]⟩
  · rename_i id l x
    obtain ⟨rfl, hl⟩ := hu
    cases hv
    rw [Bool.cond_eq_ite] at h
    split at h
    case isFalse => cases h
    rename_i hx
    cases h
    cases d <;> simp only [keyDesc, reduceCtorEq, Bool.false_eq_true] at hk
    have e : ((ByteArray.mk (Env.txt id).toArray) == (ByteArray.mk x.toArray)) = false := by
      rw [Bool.eq_false_iff, ne_eq, bytes_beq]
      exact fun h => hl x (amongB_ok hx) (by simpa using congrArg (fun z => z.data.toList) h)
    exact ⟨by simp only [Instr.sameNow, e], fun hb => by cases hb⟩
  · cases d <;> simp only [keyDesc, reduceCtorEq, Bool.false_eq_true] at hk
  · cases h
theorem findE_ok {d : TypeDesc} {k : AV} {u : Value} (hk : keyDesc d k = true) (hu : Rep β k u) : ∀ (l : List (AV × AV)) (es : List MapEntry) (i : Nat) (r : Option AV), MapRep β l es → findE k l = some r →
    match r with
    | none => Instr.findNow d u es i = some none
    | some v => ∃ j x, Instr.findNow d u es i = some (some (j, x)) ∧ Rep β v x
  | [], _, i, r, e, h => by cases h; rw [e]; rfl
  | (a, v) :: l, _, i, r, ⟨en, m, e, ha, hv, hl⟩, h => by
    rw [e]
    simp only [findE] at h
    split at h
    · rename_i hs
      cases h
      have := (keySame_ok hk hs hu ha).1
      exact ⟨i, en.val, by simp only [Instr.findNow, this], hv⟩
    · rename_i hs
      have := (keySame_ok hk hs hu ha).1
      have ih := findE_ok hk hu l m (i + 1) r hl h
      simp only [Instr.findNow, this]
      exact ih
    · cases h
/-! Keys that are structs of two whole numbers. -/
theorem pair_rep {t : TypeId} {k : AV} {u : Value} (h : pairKey P t k = true) (hu : Rep β k u) : ∃ a b, k = .agg [.int .i64 a, .int .i64 b] ∧ u = .agg #[.int .i64 a, .int .i64 b] ∧ pairShape P t = true := by
  unfold pairKey at h
  split at h
  case h_2 => cases h
  rename_i a b
  refine ⟨a, b, rfl, ?_, h⟩
  obtain ⟨vs, rfl, h1⟩ := hu
  obtain ⟨v1, q1, e1, r1, h2⟩ := h1
  obtain ⟨v2, q2, e2, r2, h3⟩ := h2
  have e3 : q2 = [] := h3
  have r1' : v1 = .int .i64 a := r1
  have r2' : v2 = .int .i64 b := r2
  subst e3 r1' r2'
  subst e2
  congr 1
  apply Array.ext'
  simpa using e1
theorem int_desc {t : TypeId} (h : intDesc P t = true) : P.underlying t = some (.int .i64) := by
  unfold intDesc at h
  split at h
  · assumption
  · cases h
theorem pair_shape {t : TypeId} (h : pairShape P t = true) : ∃ fs f g, P.underlying t = some (.struct fs) ∧ fs.toList = [f, g] ∧ f.name ≠ "_" ∧ g.name ≠ "_" ∧ f.offset = 0 ∧ g.offset = 1 ∧ P.underlying f.type = some (.int .i64) ∧ P.underlying g.type = some (.int .i64) ∧ P.stoodInHeld t = false := by
  unfold pairShape at h
  split at h
  case h_2 => cases h
  rename_i fs hu
  split at h
  case h_2 => cases h
  rename_i f g hfs
  simp only [Bool.and_eq_true, bne_iff_ne, ne_eq, Nat.beq_eq, Bool.not_eq_true'] at h
  obtain ⟨⟨⟨⟨⟨⟨h1, h2⟩, h3⟩, h4⟩, h5⟩, h6⟩, h7⟩ := h
  exact ⟨fs, f, g, hu, hfs, h1, h2, h3, h4, int_desc h5, int_desc h6, h7⟩
theorem part_int {t : TypeId} (h : P.underlying t = some (.int .i64)) {xs : Array Value} {off : Nat} {v : Value} (hv : xs[off]? = some v) (w : World) : (part t xs off).run P w = .ok v w := by
  simp [part, isAgg, Sem.run_bind, run_underlying h, hv]
theorem check_int {t : TypeId} (h : P.underlying t = some (.int .i64)) (a : Int) (em : Bool) (n : Nat) (w : World) : (Instr.checkKey em (n + 1) t (.int .i64 a)).run P w = .ok () w := run_checkKey h (by trivial) em n
theorem pair_check {t : TypeId} (h : pairShape P t = true) (a b : Int) (em : Bool) (w : World) : (Instr.checkKey em 10000 t (.agg #[.int .i64 a, .int .i64 b])).run P w = .ok () w := by
  obtain ⟨fs, f, g, hu, hfs, h1, h2, h3, h4, h5, h6, h7⟩ := pair_shape h
  have hf : fs = #[f, g] := by apply Array.ext'; simpa using hfs
  subst hf
  have p1 : (part f.type #[.int .i64 a, .int .i64 b] f.offset).run P w = .ok (.int .i64 a) w := part_int h5 (by rw [h3]; rfl) w
  have p2 : (part g.type #[.int .i64 a, .int .i64 b] g.offset).run P w = .ok (.int .i64 b) w := part_int h6 (by rw [h4]; rfl) w
  unfold Instr.checkKey
  simp only [Sem.run_bind, run_underlying hu, Result.andThen_ok]
  rw [← Array.forIn_toList]
  simp [List.forIn_cons, h1, h2, Sem.run_bind, p1, p2, check_int h5 a em 9998 w, check_int h6 b em 9998 w]
theorem pair_equal {t : TypeId} (h : pairShape P t = true) (a b c d : Int) (w : World) : (Op.equal t (.agg #[.int .i64 a, .int .i64 b]) (.agg #[.int .i64 c, .int .i64 d])).run P w = .ok (a == c && b == d) w := by
  obtain ⟨fs, f, g, hu, hfs, h1, h2, h3, h4, h5, h6, h7⟩ := pair_shape h
  have hf : fs = #[f, g] := by apply Array.ext'; simpa using hfs
  subst hf
  have p1 : ∀ x y : Int, (part f.type #[.int .i64 x, .int .i64 y] f.offset).run P w = .ok (.int .i64 x) w := fun x y => part_int h5 (by rw [h3]; rfl) w
  have p2 : ∀ x y : Int, (part g.type #[.int .i64 x, .int .i64 y] g.offset).run P w = .ok (.int .i64 y) w := fun x y => part_int h6 (by rw [h4]; rfl) w
  have q1 := run_equalIn_int w 9998 f.type .i64 .i64 a c h5
  have q2 := run_equalIn_int w 9998 g.type .i64 .i64 b d h6
  show (Op.equalIn (9999 + 1) t _ _).run P w = _
  have hfo : P.fieldsOf t = #[f, g] := by simp [Program.fieldsOf, hu]
  rw [run_equalIn_struct w 9999 t _ _ (by rw [hu, hfo]) h7, hfo]
  cases hac : (a == c) <;> cases hbd : (b == d) <;> simp [Op.eqFields, h1, h2, Sem.run_bind, p1, p2, q1, q2, hac, hbd]
theorem pair_stays (a b : Int) (w : World) : (Instr.keyThatStays (.agg #[.int .i64 a, .int .i64 b]) (.agg #[.int .i64 a, .int .i64 b])).run P w = .ok (.agg #[.int .i64 a, .int .i64 b]) w := by
  have hs : Instr.sameBits 10000 (.agg #[.int .i64 a, .int .i64 b]) (.agg #[.int .i64 a, .int .i64 b]) = true := by
    show Instr.sameBits (9999 + 1) (.agg _) (.agg _) = true
    simp [Instr.sameBits]
  simp [Instr.keyThatStays, hs]
theorem keySame_pair {a b : Int} {k : AV} {r : Bool} (h : keySame (.agg [.int .i64 a, .int .i64 b]) k = some r) {v : Value} (hv : Rep β k v) : ∃ c d, v = .agg #[.int .i64 c, .int .i64 d] ∧ r = (a == c && b == d) := by
  unfold keySame at h
  split at h
  case h_1 e => cases e
  case h_2 e => cases e
  case h_3 e => cases e
  case h_4 e => cases e
  case h_6 => cases h
  rename_i a' b' c d e
  cases e
  cases h
  obtain ⟨vs, rfl, h1⟩ := hv
  obtain ⟨v1, q1, e1, r1, h2⟩ := h1
  obtain ⟨v2, q2, e2, r2, h3⟩ := h2
  have e3 : q2 = [] := h3
  have r1' : v1 = .int .i64 c := r1
  have r2' : v2 = .int .i64 d := r2
  subst e3 r1' r2'
  subst e2
  refine ⟨c, d, ?_, rfl⟩
  congr 1
  apply Array.ext'
  simpa using e1
/-- at a struct the model asks one by one. -/
theorem find_pair_eq {t : TypeId} (h : pairShape P t = true) (x : Value) (es : List MapEntry) (w : World) : (Instr.findKey t x es).run P w = (Instr.findAsking t x es).run P w := by
  obtain ⟨fs, f, g, hu, _⟩ := pair_shape h
  cases es with
  | nil => simp [Instr.findKey, run_underlying hu, Instr.findNow, Instr.findAsking]
  | cons e es =>
    have : Instr.findNow (.struct fs) x (e :: es) 0 = none := by
      have : Instr.sameNow (.struct fs) x e.key = none := by simp [Instr.sameNow]
      simp only [Instr.findNow, this]
    simp [Instr.findKey, run_underlying hu, this]
theorem ask_pair {t : TypeId} (hp : pairShape P t = true) {a b : Int} (w : World) : ∀ (l : List (AV × AV)) (es : List MapEntry) (i : Nat) (r : Option AV), MapRep β l es → findE (.agg [.int .i64 a, .int .i64 b]) l = some r →
    match r with
    | none => (Instr.findAsking t (.agg #[.int .i64 a, .int .i64 b]) es i).run P w = .ok none w
    | some v => ∃ j x, (Instr.findAsking t (.agg #[.int .i64 a, .int .i64 b]) es i).run P w = .ok (some (j, x)) w ∧ Rep β v x
  | [], _, i, r, e, h => by cases h; rw [e]; simp [Instr.findAsking]
  | (k, v) :: l, _, i, r, ⟨en, m, e, hk, hv, hl⟩, h => by
    rw [e]
    simp only [findE] at h
    split at h
    · rename_i hs
      cases h
      obtain ⟨c, d, hc, hr⟩ := keySame_pair hs hk
      have he := pair_equal hp a b c d w
      rw [← hr] at he
      exact ⟨i, en.val, by simp [Instr.findAsking, hc, he], hv⟩
    · rename_i hs
      obtain ⟨c, d, hc, hr⟩ := keySame_pair hs hk
      have he := pair_equal hp a b c d w
      rw [← hr] at he
      have ih := ask_pair hp w l m (i + 1) r hl h
      have e2 : (Instr.findAsking t (.agg #[.int .i64 a, .int .i64 b]) (en :: m) i).run P w = (Instr.findAsking t (.agg #[.int .i64 a, .int .i64 b]) m (i + 1)).run P w := by simp [Instr.findAsking, hc, he]
      rw [e2]
      exact ih
    · cases h
/-- a key of either sort: checked, looked for, and it stays. -/
theorem key_check {kt : TypeId} {ki : TI} (hki : ti P kt = some ki) {k : AV} {u : Value} (hk : keyOk P kt ki.d k = true) (hu : Rep β k u) (em : Bool) : (Instr.checkKey em 10000 kt u).run P w = .ok () w := by
  unfold keyOk at hk
  cases h : keyDesc ki.d k with
  | true =>
    obtain ⟨_, _, _, _, g2, _⟩ := ti_spec hki
    exact run_checkKey (w := w) g2 (isKey_of h hu) em 9999
  | false =>
    rw [h] at hk
    obtain ⟨a, b, rfl, rfl, hp⟩ := pair_rep hk hu
    exact pair_check hp a b em w
theorem key_stays {kt : TypeId} {ki : TI} {k : AV} {u : Value} (hk : keyOk P kt ki.d k = true) (hu : Rep β k u) : (Instr.keyThatStays u u).run P w = .ok u w := by
  unfold keyOk at hk
  cases h : keyDesc ki.d k with
  | true => exact run_keyThatStays (P := P) (w := w) (isKey_of h hu)
  | false =>
    rw [h] at hk
    obtain ⟨a, b, rfl, rfl, hp⟩ := pair_rep hk hu
    exact pair_stays a b w
theorem key_find {kt : TypeId} {ki : TI} (hki : ti P kt = some ki) {k : AV} {u : Value} (hk : keyOk P kt ki.d k = true) (hu : Rep β k u) {l : List (AV × AV)} {es : List MapEntry} {r : Option AV} (hl : MapRep β l es) (hf : findE k l = some r) :
    match r with
    | none => (Instr.findKey kt u es).run P w = .ok none w
    | some v => ∃ j x, (Instr.findKey kt u es).run P w = .ok (some (j, x)) w ∧ Rep β v x := by
  unfold keyOk at hk
  cases h : keyDesc ki.d k with
  | true =>
    obtain ⟨_, _, _, _, g2, _⟩ := ti_spec hki
    have := findE_ok h hu l es 0 r hl hf
    cases r with
    | none => exact run_findKey (w := w) g2 this
    | some v =>
      obtain ⟨j, x, h1, h2⟩ := this
      exact ⟨j, x, run_findKey (w := w) g2 h1, h2⟩
  | false =>
    rw [h] at hk
    obtain ⟨a, b, rfl, rfl, hp⟩ := pair_rep hk hu
    rw [find_pair_eq hp]
    have := ask_pair hp w l es 0 r hl hf
    cases r <;> exact this
theorem lookup_ok (hs : Sit β s w) {t kt et : TypeId} {i ki ei : TI} (hi : ti P t = some i) (hd : i.d = .map kt et) (hki : ti P kt = some ki) (hei : ti P et = some ei) {m k : AV} {um uk : Value} (hm : Rep β m um) (hk : Rep β k uk) (hkd : keyOk P kt ki.d k = true) {ok : Bool} {f : Option AV} (h : foundE s m k = some f) :
    VG P (Instr.lookup t um uk ok) β w (match f with | some v => bif ok then .tup [v, .bool true] else v | none => bif ok then .tup [ei.zv, .bool false] else ei.zv) := by
  have hun := run_under hi w
  rw [hd] at hun
  obtain ⟨_, _, _, _, g2, _⟩ := ti_spec hki
  obtain ⟨z, hz⟩ := run_zv hei
  have core : ∀ (es : Array MapEntry) (l : List (AV × AV)), MapRep β l es.toList → findE k l = some f → (Instr.checkKey es.isEmpty 10000 kt uk).run P w = .ok () w ∧
      ∃ fk : Option (Nat × Value), (Instr.findKey kt uk es.toList).run P w = .ok fk w ∧
        Rep β (match f with | some v => bif ok then .tup [v, .bool true] else v | none => bif ok then .tup [ei.zv, .bool false] else ei.zv)
          (match fk with | some (_, x) => if ok then .tuple #[x, .bool true] else x | none => if ok then .tuple #[z, .bool false] else z) := by
    intro es l hl hf
    have hchk := key_check (w := w) hki hkd hk es.isEmpty
    have hfind := key_find (w := w) hki hkd hk hl hf
    refine ⟨hchk, ?_⟩
    cases f with
    | some v =>
      obtain ⟨j, x, h1, h2⟩ := hfind
      refine ⟨_, h1, ?_⟩
      cases ok
      · exact h2
      · exact ⟨#[x, .bool true], rfl, x, [.bool true], rfl, h2, _, [], rfl, rfl, rfl⟩
    | none =>
      refine ⟨_, hfind, ?_⟩
      cases ok
      · exact (hz w).2 β
      · exact ⟨#[z, .bool false], rfl, z, [.bool false], rfl, (hz w).2 β, _, [], rfl, rfl, rfl⟩
  cases m <;> try (simp [foundE] at h; done)
  case nilm =>
    simp only [foundE, Option.some.injEq] at h
    subst h
    cases hm
    obtain ⟨h0, fk, h1, h2⟩ := core #[] [] rfl rfl
    refine ⟨_, ?_, h2⟩
    have h0' : (Instr.checkKey true 10000 kt uk).run P w = .ok () w := h0
    have h1' : (Instr.findKey kt uk []).run P w = .ok fk w := h1
    simp only [Instr.lookup, Sem.run_bind, hun, Result.andThen_ok, Sem.run_pure, Array.isEmpty_empty, h0', h1']
    cases fk with
    | none => simp only [Sem.run_bind, (hz w).1, Result.andThen_ok, Sem.run_pure]
    | some y => rfl
  case map r =>
    simp only [foundE] at h
    split at h
    case h_2 => cases h
    case h_1 l hb =>
    obtain ⟨nb, tt, hbe, rfl⟩ := hm
    obtain ⟨p, hp, es, clock, hw, hl⟩ := hs.blk _ _ hb
    rw [hbe] at hp
    cases hp
    obtain ⟨h0, fk, h1, h2⟩ := core es l hl h
    refine ⟨_, ?_, h2⟩
    simp only [Instr.lookup, Sem.run_bind, hun, Result.andThen_ok, Sem.run_pure, MapKept.run_getObj_map hw, h0, h1]
    cases fk with
    | none => simp only [Sem.run_bind, (hz w).1, Result.andThen_ok, Sem.run_pure]
    | some y => rfl
theorem mapRep_at : ∀ {l : List (AV × AV)} {es : List MapEntry}, MapRep β l es → es.length = l.length := fun h => h.length
theorem mapRep_push : ∀ {l : List (AV × AV)} {es : List MapEntry} {k v : AV} {e : MapEntry}, MapRep β l es → Rep β k e.key → Rep β v e.val → MapRep β (l ++ [(k, v)]) (es ++ [e])
  | [], _, k, v, e, h, hk, hv => by rw [h]; exact ⟨e, [], rfl, hk, hv, rfl⟩
  | (_, _) :: _, _, k, v, e, ⟨en, m, he, ha, hb, hl⟩, hk, hv => by rw [he]; exact ⟨en, m ++ [e], rfl, ha, hb, mapRep_push hl hk hv⟩
theorem putE_ok {d : TypeDesc} {k v : AV} {u x : Value} (hk : keyDesc d k = true) (hu : Rep β k u) (hx : Rep β v x) : ∀ (l l' : List (AV × AV)) (es : List MapEntry) (i : Nat), MapRep β l es → putE k v l = some l' →
    (Instr.findNow d u es i = some none ∧ l' = l ++ [(k, v)]) ∨
    ∃ j y, Instr.findNow d u es i = some (some (i + j, y)) ∧ (es[j]?).map (·.key) = some u ∧ MapRep β l' (es.modify j fun e => { e with key := u, val := x })
  | [], l', _, i, e, h => by cases h; rw [e]; exact .inl ⟨rfl, rfl⟩
  | (a, b) :: l, l', _, i, ⟨en, m, e, ha, hb, hl⟩, h => by
    rw [e]
    simp only [putE] at h
    split at h
    · rename_i hs
      cases h
      have := keySame_ok hk hs hu ha
      have hkey : en.key = u := this.2 rfl
      refine .inr ⟨0, en.val, by simp only [Instr.findNow, this.1]; rfl, by simp [hkey], ?_⟩
      simp only [List.modify_zero_cons]
      exact ⟨_, m, rfl, by rw [← hkey]; exact ha, hx, hl⟩
    · rename_i hs
      have hn := (keySame_ok hk hs hu ha).1
      split at h
      · rename_i r hr
        cases h
        rcases putE_ok hk hu hx l r m (i + 1) hl hr with ⟨h1, h2⟩ | ⟨j, y, h1, h2, h3⟩
        · exact .inl ⟨by simp only [Instr.findNow, hn]; exact h1, by rw [h2]; rfl⟩
        · refine .inr ⟨j + 1, y, ?_, by simpa using h2, ?_⟩
          · simp only [Instr.findNow, hn]
            rw [h1, show i + 1 + j = i + (j + 1) by omega]
          · rw [List.modify_succ_cons]
            exact ⟨en, _, rfl, ha, hb, h3⟩
      · cases h
    · cases h
theorem putE_pair {t : TypeId} (hp : pairShape P t = true) {a b : Int} {v : AV} {x : Value} (hx : Rep β v x) (hu : Rep β (.agg [.int .i64 a, .int .i64 b]) (.agg #[.int .i64 a, .int .i64 b])) (w : World) : ∀ (l l' : List (AV × AV)) (es : List MapEntry) (i : Nat), MapRep β l es → putE (.agg [.int .i64 a, .int .i64 b]) v l = some l' →
    ((Instr.findAsking t (.agg #[.int .i64 a, .int .i64 b]) es i).run P w = .ok none w ∧ l' = l ++ [(.agg [.int .i64 a, .int .i64 b], v)]) ∨
    ∃ j y, (Instr.findAsking t (.agg #[.int .i64 a, .int .i64 b]) es i).run P w = .ok (some (i + j, y)) w ∧ (es[j]?).map (·.key) = some (.agg #[.int .i64 a, .int .i64 b]) ∧ MapRep β l' (es.modify j fun e => { e with key := .agg #[.int .i64 a, .int .i64 b], val := x })
  | [], l', _, i, e, h => by cases h; rw [e]; exact .inl ⟨by simp [Instr.findAsking], rfl⟩
  | (k, u) :: l, l', _, i, ⟨en, m, e, hk, hb, hl⟩, h => by
    rw [e]
    simp only [putE] at h
    split at h
    · rename_i hs
      cases h
      obtain ⟨c, d, hc, hr⟩ := keySame_pair hs hk
      have he := pair_equal hp a b c d w
      rw [← hr] at he
      have hcd : a = c ∧ b = d := by simpa using hr.symm
      obtain ⟨rfl, rfl⟩ := hcd
      refine .inr ⟨0, en.val, by simp [Instr.findAsking, hc, he], by simp [hc], ?_⟩
      simp only [List.modify_zero_cons]
      exact ⟨_, m, rfl, by show Rep β k _; rw [← hc]; exact hk, hx, hl⟩
    · rename_i hs
      obtain ⟨c, d, hc, hr⟩ := keySame_pair hs hk
      have he := pair_equal hp a b c d w
      rw [← hr] at he
      have e2 : (Instr.findAsking t (.agg #[.int .i64 a, .int .i64 b]) (en :: m) i).run P w = (Instr.findAsking t (.agg #[.int .i64 a, .int .i64 b]) m (i + 1)).run P w := by simp [Instr.findAsking, hc, he]
      split at h
      · rename_i r hr2
        cases h
        rcases putE_pair hp hx hu w l r m (i + 1) hl hr2 with ⟨h1, h2⟩ | ⟨j, y, h1, h2, h3⟩
        · exact .inl ⟨by rw [e2]; exact h1, by rw [h2]; rfl⟩
        · refine .inr ⟨j + 1, y, ?_, by simpa using h2, ?_⟩
          · rw [e2, h1, show i + 1 + j = i + (j + 1) by omega]
          · rw [List.modify_succ_cons]
            exact ⟨en, _, rfl, hk, hb, h3⟩
      · cases h
    · cases h
theorem key_put {kt : TypeId} {ki : TI} (hki : ti P kt = some ki) {k v : AV} {u x : Value} (hk : keyOk P kt ki.d k = true) (hu : Rep β k u) (hx : Rep β v x) {l l' : List (AV × AV)} {es : List MapEntry} (hl : MapRep β l es) (h : putE k v l = some l') :
    ((Instr.findKey kt u es).run P w = .ok none w ∧ l' = l ++ [(k, v)]) ∨
    ∃ j y, (Instr.findKey kt u es).run P w = .ok (some (j, y)) w ∧ (es[j]?).map (·.key) = some u ∧ MapRep β l' (es.modify j fun e => { e with key := u, val := x }) := by
  unfold keyOk at hk
  cases hd : keyDesc ki.d k with
  | true =>
    obtain ⟨_, _, _, _, g2, _⟩ := ti_spec hki
    rcases putE_ok hd hu hx l l' es 0 hl h with ⟨h1, h2⟩ | ⟨j, y, h1, h2, h3⟩
    · exact .inl ⟨run_findKey (w := w) g2 h1, h2⟩
    · rw [Nat.zero_add] at h1
      exact .inr ⟨j, y, run_findKey (w := w) g2 h1, h2, h3⟩
  | false =>
    rw [hd] at hk
    obtain ⟨a, b, rfl, rfl, hp⟩ := pair_rep hk hu
    rw [find_pair_eq hp]
    rcases putE_pair hp hx hu w l l' es 0 hl h with h1 | ⟨j, y, h1, h2, h3⟩
    · exact .inl h1
    · rw [Nat.zero_add] at h1
      exact .inr ⟨j, y, h1, h2, h3⟩
theorem upd_ok (hs : Sit β s w) {t : TypeId} {r : Nat} {kv v : AV} {um uk uv : Value} {a : AV} {s' : St} (h : updAV P lo s t r kv v = some (a, s')) (hm : Rep β (.map r) um) (hk : Rep β kv uk) (hv : Rep β v uv) :
    a = .tup [] ∧ SU P (Instr.mapUpdate t um uk uv) lo β s w s' := by
  unfold updAV at h
  split at h
  case h_1 => cases h
  case h_2 i hi =>
  split at h
  case h_2 => cases h
  case h_1 kt et hd =>
  split at h
  case h_1 => cases h
  case h_2 ki hki =>
  cases hc : (keyOk P kt ki.d kv && Nat.ble lo r) with
  | false => rw [hc] at h; cases h
  | true =>
    rw [hc] at h
    simp only [Bool.and_eq_true, Nat.ble_eq] at hc
    simp only [cond_true] at h
    split at h
    case h_2 => cases h
    case h_1 l hb =>
    split at h
    case h_2 => cases h
    case h_1 l' hl' =>
    cases h
    refine ⟨rfl, ?_⟩
    obtain ⟨nb, tt, hbe, rfl⟩ := hm
    obtain ⟨p, hp, es, clock, hw, hl⟩ := hs.blk _ _ hb
    rw [hbe] at hp
    cases hp
    have hun := run_under hi w
    rw [hd] at hun
    obtain ⟨_, _, _, _, g2, _⟩ := ti_spec hki
    have hchk := key_check (w := w) hki hc.1 hk false
    rcases key_put (w := w) hki hc.1 hk hv hl hl' with ⟨h1, h2⟩ | ⟨j, y, h1, h2, h3⟩
    · have hf := h1
      refine ⟨_, β, ?_, ext_put hs ⟨_, hb⟩ hc.2 hbe (o := .map (es.push { key := uk, val := uv, born := clock }) (clock + 1)) ⟨_, _, rfl, by rw [h2, Array.toList_push]; exact mapRep_push hl hk hv⟩ (w' := { w with heap := w.heap.setIfInBounds nb (.map (es.push { key := uk, val := uv, born := clock }) (clock + 1)) }) rfl rfl rfl rfl⟩
      simp only [Instr.mapUpdate, Sem.run_bind, hun, Result.andThen_ok, MapKept.run_getObj_map hw, hchk, hf, MapKept.run_setObj_map _ hw]
    · have hf := h1
      have hold : (((es[j]?).map (·.key)).getD uk) = uk := by
        have : (es[j]?).map (·.key) = some uk := by simpa using h2
        rw [this]; rfl
      have hstay := key_stays (P := P) (w := w) hc.1 hk
      refine ⟨_, β, ?_, ext_put hs ⟨_, hb⟩ hc.2 hbe (o := .map (es.modify j fun e => { e with key := uk, val := uv }) clock) ⟨_, _, rfl, by rw [Array.toList_modify]; exact h3⟩ (w' := { w with heap := w.heap.setIfInBounds nb (.map (es.modify j fun e => { e with key := uk, val := uv }) clock) }) rfl rfl rfl rfl⟩
      simp only [Instr.mapUpdate, Sem.run_bind, hun, Result.andThen_ok, MapKept.run_getObj_map hw, hchk, hf, hold, hstay, MapKept.run_setObj_map _ hw]
theorem makeMap_ok (hs : Sit β s w) (t : TypeId) : SG P (Instr.makeMap t none) lo β s w (.map s.n) (s.new (.map [])) :=
  ⟨.map (some w.heap.size), w.alloc (.map #[] 0), upd β s.n (w.heap.size, 0), run_makeMap t w, ext_new hs ⟨_, _, rfl, rfl⟩, ⟨_, _, upd_at _ _ _, rfl⟩⟩
theorem makeSlice_ok (hs : Sit β s w) {t e : TypeId} {i j : TI} (hi : ti P t = some i) (hd : i.d = .slice e) (hj : ti P e = some j) {kl kc : IntKind} {l c : Int} (h0 : 0 ≤ l) (h1 : l ≤ c) (h2 : c ≤ 1048576) (h3 : j.bytes ≤ 1048576) (h4 : 0 < j.zero.length) (h5 : j.zero.length = j.size) :
    SG P (Instr.makeSlice t (.int kl l) (.int kc c)) lo β s w (.slc s.n 0 l.toNat (.fix c.toNat)) (s.new (zeroRow e (c.toNat * j.size) j.zero)) := by
  obtain ⟨info, z, a, g1, g2, g3, g4, g5, g6, g7, _⟩ := ti_spec hj
  obtain ⟨info', _, _, g1', g2', _⟩ := ti_spec hi
  have hzr : Reps (upd β s.n (w.heap.size, c.toNat * j.size)) j.zero z.cells.toList := by rw [g7]; exact cells_rep (ofV_rep g6)
  have hzl := Reps.length hzr
  rw [Array.length_toList] at hzl
  have hb : (info.bytes : Int) * c ≤ 281474976710656 := by
    rw [g4]
    have : (j.bytes : Int) * c ≤ 1048576 * 1048576 := Int.mul_le_mul (by omega) h2 (by omega) (by omega)
    omega
  have := run_make (P := P) w t e info z (by rw [g2', hd]) g1 g5 kl kc l c h0 h1 hb (by omega)
  refine ⟨_, _, upd β s.n (w.heap.size, c.toNat * j.size), this, ext_new hs ?_, ⟨_, _, c.toNat, upd_at _ _ _, rfl, by omega, rfl⟩⟩
  rw [g3]
  refine brep_zero hzr e _ _ (by rw [size_madeCells]) ?_
  intro k hk
  have hlt : k % z.cells.size < z.cells.size := Nat.mod_lt _ (by omega)
  simp only [madeCells, Array.getElem?_map, Array.getElem?_range, hk, if_true, Option.map_some, Array.length_toList]
  rw [getElem!_pos z.cells _ hlt]
  simp [hlt]
theorem range_ok (hs : Sit β s w) {t : TypeId} {i : TI} (hi : ti P t = some i) (hd : i.d = .string) {bs : List UInt8} {u : Value} (hu : Rep β (.str bs) u) : SG P (Instr.range t u) lo β s w (.ptr s.n 0) (s.new (.iter bs 0)) := by
  cases hu
  obtain ⟨_, _, _, _, g2, _⟩ := ti_spec hi
  refine ⟨_, _, upd β s.n (w.heap.size, 0), run_range_string w t _ (by rw [g2, hd]), ext_new hs ⟨_, rfl, ?_⟩, ⟨_, _, upd_at _ _ _, rfl⟩⟩
  simp
theorem next_ok (hs : Sit β s w) {b pos : Nat} {bs : List UInt8} {u : Value} (hu : Rep β (.ptr b 0) u) (hb : s.h.get (path b) = some (.iter bs pos)) (hlo : lo ≤ b) (ty : TypeId) {v : AV} {s' : St}
    (h : nextAV s b pos bs = some (v, s')) : SG P (Instr.next u true ty) lo β s w v s' := by
  obtain ⟨nb, tt, hbe, rfl⟩ := hu
  obtain ⟨p, hp, full, hw, hdrop⟩ := hs.blk _ _ hb
  rw [hbe] at hp
  cases hp
  have hget : (getObj nb).run P w = .ok (.stringIter full pos) w := by simp [getObj, Sem.run, hw]
  cases bs with
  | nil =>
    cases h
    have hge : ¬ pos < full.size := by
      have := congrArg List.length hdrop
      rw [List.length_drop, List.length_nil, Array.length_toList] at this
      show ¬ pos < full.data.size
      omega
    refine .stay hs (u := .tuple #[.bool false]) ?_ ⟨_, rfl, _, [], rfl, rfl, rfl⟩
    simp only [Instr.next, Sem.run_bind, hget, Result.andThen_ok, hge, if_false, Sem.run_pure]
  | cons c r =>
    simp only [nextAV] at h
    cases hc : Nat.blt c.toNat 128 with
    | false => rw [hc] at h; cases h
    | true =>
      rw [hc] at h
      cases h
      have hlt : pos < full.size := by
        have := congrArg List.length hdrop
        rw [List.length_drop, List.length_cons, Array.length_toList] at this
        show pos < full.data.size
        omega
      have hcc : full[pos]'hlt = c := by
        have := congrArg List.head? hdrop
        simp only [List.head?_drop, List.head?_cons] at this
        have h2 : full.data.toList[pos]? = some (full[pos]'hlt) := by
          rw [List.getElem?_eq_getElem (by rw [Array.length_toList]; exact hlt)]; rfl
        rw [h2] at this
        exact Option.some.inj this
      have hc' : c.toNat + 1 ≤ 128 := by simpa [Nat.blt, Nat.ble_eq] using hc
      have hdec := decode_ascii full pos hlt (by rw [hcc]; omega)
      rw [hcc] at hdec
      refine ⟨.tuple #[.bool true, goInt pos, .int .i32 c.toNat], _, β, ?_, ext_put hs ⟨_, hb⟩ hlo hbe (o := .stringIter full (pos + 1)) ⟨full, rfl, ?_⟩ (w' := { w with heap := w.heap.setIfInBounds nb (.stringIter full (pos + 1)) }) rfl rfl rfl rfl, ?_⟩
      · have hset : (setObj nb (.stringIter full (pos + 1))).run P w = .ok () { w with heap := w.heap.setIfInBounds nb (.stringIter full (pos + 1)) } := by simp [setObj, Sem.run, hw]
        simp only [Instr.next, Sem.run_bind, hget, Result.andThen_ok, hlt, if_true, hdec, hset, Sem.run_pure]
      · have := congrArg List.tail hdrop
        simp only [List.tail_drop, List.tail_cons] at this
        exact this
      · exact ⟨_, rfl, _, _, rfl, rfl, _, _, rfl, rfl, _, [], rfl, rfl, rfl⟩
end
end Ev
end Go.Proofs.Ytnelncafocgfhaa
