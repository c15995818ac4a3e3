/- What a registry has noted, copied: Notes. -/
import Derived.Test.YtpafbnmncioppaaPMarkC
namespace Go.Proofs.Ytpafbnmncioppaa
open Go.RowKit Go.ChangeShapes
theorem infoN : (Try.prog.info? 80).map (fun i => (i.zero, i.size, i.bytes)) = some (some (.agg #[.string .empty, .int .i64 0, .int .i64 0, .int .i64 0]), 4, 40) := by kernel_rfl
/-- The cells of notes. -/
def nc : List Nt → List Value
  | [] => []
  | n :: l => n.cells ++ nc l
theorem nc_len : ∀ l : List Nt, (nc l).length = l.length * 4
  | [] => rfl
  | n :: l => by
    have : n.cells.length = 4 := rfl
    simp only [nc, List.length_append, List.length_cons, nc_len l, this]
    omega
theorem nc_at : ∀ (l : List Nt) (i : Nat) (h : i < l.length) (j : Nat) (u : Value), l[i].cells[j]? = some u → (nc l)[i * 4 + j]? = some u
  | [], i, h, _, _, _ => by simp at h
  | n :: l, 0, _, j, u, hu => by
    have hj := ncells_lt hu
    have : n.cells.length = 4 := rfl
    simp only [nc, Nat.zero_mul, Nat.zero_add]
    rw [List.getElem?_append_left (by omega)]
    simpa using hu
  | n :: l, i + 1, h, j, u, hu => by
    have : n.cells.length = 4 := rfl
    simp only [nc]
    rw [List.getElem?_append_right (by omega), this, show (i + 1) * 4 + j - 4 = i * 4 + j by omega]
    exact nc_at l i (by simpa using h) j u (by simpa using hu)
theorem nc_cell (l : List Nt) (p : Nat) (u : Value) (h : (nc l)[p]? = some u) : ∃ (i : Nat) (hi : i < l.length) (j : Nat), p = i * 4 + j ∧ l[i].cells[j]? = some u := by
  have hp : p < l.length * 4 := by rw [← nc_len]; exact (List.getElem?_eq_some_iff.1 h).1
  refine ⟨p / 4, by omega, p % 4, by omega, ?_⟩
  have hlt : p / 4 < l.length := by omega
  obtain ⟨v, hv⟩ : ∃ v, (l[p / 4]'hlt).cells[p % 4]? = some v := ⟨_, List.getElem?_eq_getElem (by have : (l[p / 4]'hlt).cells.length = 4 := rfl; omega)⟩
  have := nc_at l (p / 4) hlt (p % 4) v hv
  rw [show p / 4 * 4 + p % 4 = p by omega, h] at this
  rw [hv, this]
theorem nc_one (l : List Nt) : ∀ u ∈ nc l, u.oneCell' = true := by
  induction l with
  | nil => intro u hu; cases hu
  | cons n l ih =>
    intro u hu
    rcases List.mem_append.1 hu with hu | hu
    · exact ncells_one n u hu
    · exact ih u hu
/-- A slice value that reads as these notes. -/
def NotesAt (w : World) (v : Value) (ns : List Nt) : Prop := ∃ b off cap, v = .slice (some ⟨b, off, none⟩) ns.length cap ∧ ns.length ≤ cap ∧ ∀ i (h : i < ns.length) (j : Nat) (u : Value), ns[i].cells[j]? = some u → w.cell? ⟨b, off + i * 4 + j, none⟩ = some u
theorem NotesAt.below {w w' : World} {v : Value} {ns : List Nt} (h : NotesAt w v ns) (hb : Below w.heap.size w w') : NotesAt w' v ns := by
  obtain ⟨b, off, cap, e, h1, h2⟩ := h
  refine ⟨b, off, cap, e, h1, fun i hi j u hu => ?_⟩
  have h3 := h2 i hi j u hu
  exact (hb.cell (p := ⟨b, off + i * 4 + j, none⟩) (World.block_lt_of_cell? w _ h3)).trans h3
theorem wp_copyN {P : Program} {w : World} {o : Oper} {a : Act} {K : Act → World → Prop} {Q : Exit → Act → World → Prop} (s x : Operand) (t : TypeId)
    (ho : o.op = .call { callee := .builtin .append, args := #[s, x], argTypes := #[t, t] })
    (base : Nat) (e : TypeId) (i : TypeInfo) (ht : P.underlying t = some (.slice e)) (hi : P.info? e = some i) (hz : i.zero = some (.agg #[.string .empty, .int .i64 0, .int .i64 0, .int .i64 0])) (hsize : i.size = 4) (hby : i.bytes = 40)
    (g0 c0 : Nat) (hs : a.eval s = .slice (some ⟨g0, 0, none⟩) 0 c0) (hown : w.ownsRow base e 4 (.slice (some ⟨g0, 0, none⟩) 0 c0) 0 (nc [])) (v : Value) (ns : List Nt) (hx : a.eval x = v) (hv : NotesAt w v ns) (hlen : ns.length ≤ 256) (hbase : base ≤ w.heap.size) (H : Nat) (hH : w.heap.size = H)
    (h : ∀ g cap w', w'.ownsRow base e 4 (.slice (some ⟨g, 0, none⟩) ns.length cap) ns.length (nc ns) → w.grownBy w' (some g0) → (g = g0 ∨ g = H) → g < w'.heap.size → K (a.put o.dst (.slice (some ⟨g, 0, none⟩) ns.length cap)) w') :
    Oper.wp P o a w K Q := by
  obtain ⟨b, off, cap, rfl, hm, hc⟩ := hv
  unfold Oper.wp execOp
  obtain ⟨v', w', hr, h2, h3, h4, h5⟩ := run_append_own_at (P := P) w base t o.type e i (.agg #[.string .empty, .int .i64 0, .int .i64 0, .int .i64 0]) 4 40 ht hi hz hsize hby rfl (by decide) _ 0 (nc []) hown ⟨b, off, none⟩ ns.length cap (nc ns) (by rw [nc_len]) (fun p u hp => by
    obtain ⟨k, hk, j, rfl, hj⟩ := nc_cell ns p u hp
    rw [addr_add, ← Nat.add_assoc]
    exact hc k hk j u hj) (nc_one ns) (by unfold maxLen at *; omega) (by omega) hbase
  simp only [ho, resolve, invoke, builtin, Sem.run_bind, Sem.run_pure, Result.andThen_ok, List.map_toArray, List.map_cons, List.map_nil, hs, hx, hr]
  simp only [Nat.zero_add, show nc [] ++ nc ns = nc ns by simp [nc]] at h2
  have h2' := h2
  rcases h2.2 with ⟨rfl, _⟩ | ⟨g, cap', cur, rfl, _⟩
  · obtain ⟨h, _⟩ := h4.1 rfl
    cases h
  · refine h g cap' w' h2' h3 ?_ (h2'.lt g rfl).2
    rcases h5 with h5 | h5
    · exact .inl (by simpa [Value.ownBlock] using h5)
    · exact .inr (by rw [← hH]; simpa [Value.ownBlock] using h5)
theorem wpList_copyN {P : Program} {w : World} {ops : Array Oper} {o : Oper} {a : Act} {rest : List Oper} {Q : Exit → Act → World → Prop} (hgd : o.guard = none) (s x : Operand) (t : TypeId)
    (ho : o.op = .call { callee := .builtin .append, args := #[s, x], argTypes := #[t, t] })
    (base : Nat) (e : TypeId) (i : TypeInfo) (ht : P.underlying t = some (.slice e)) (hi : P.info? e = some i) (hz : i.zero = some (.agg #[.string .empty, .int .i64 0, .int .i64 0, .int .i64 0])) (hsize : i.size = 4) (hby : i.bytes = 40)
    (g0 c0 : Nat) (hs : a.eval s = .slice (some ⟨g0, 0, none⟩) 0 c0) (hown : w.ownsRow base e 4 (.slice (some ⟨g0, 0, none⟩) 0 c0) 0 (nc [])) (v : Value) (ns : List Nt) (hx : a.eval x = v) (hv : NotesAt w v ns) (hlen : ns.length ≤ 256) (hbase : base ≤ w.heap.size) (H : Nat) (hH : w.heap.size = H)
    (h : ∀ g cap w', w'.ownsRow base e 4 (.slice (some ⟨g, 0, none⟩) ns.length cap) ns.length (nc ns) → w.grownBy w' (some g0) → (g = g0 ∨ g = H) → g < w'.heap.size → wpList P ops Q rest (a.put o.dst (.slice (some ⟨g, 0, none⟩) ns.length cap)) w') :
    wpList P ops Q (o :: rest) a w :=
  wpList_plain hgd fun _ hK => wp_copyN s x t ho base e i ht hi hz hsize hby g0 c0 hs hown v ns hx hv hlen hbase H hH fun g cap w' h1 h2 h3 h4 => hK _ _ (h g cap w' h1 h2 h3 h4)
def Noted (ns : List Nt) (w : World) (e : Ending) (w' : World) : Prop := ∃ v a c, e = .returned v ∧ v = .slice a ns.length c ∧ w'.ownsRow w.heap.size 80 4 v ns.length (nc ns) ∧ Below w.heap.size w w'
set_option maxHeartbeats 2000000 in
set_option maxRecDepth 100000 in
theorem cloneN_any (v : Value) (ns : List Nt) (w : World) (hv : NotesAt w v ns) (hn : ns.length ≤ 256) : Calls Try.prog 49 #[v] w (Noted ns w) := by
  obtain ⟨is, hj, hy0, hy1, hy2⟩ := info_parts infoN
  have hv' := hv
  obtain ⟨b, off, cap, rfl, _, _⟩ := hv'
  have o0 : Hid ((w.alloc (.cells #[] 80)).ownsRow w.heap.size 80 4 (.slice (some ⟨w.heap.size, 0, none⟩) 0 0) 0 (nc [])) := Lib.hid (World.ownsRow_lit (w := w) #[] 0 (Nat.le_refl _) (by simp) rfl)
  have b1 : Below w.heap.size w (w.alloc (.cells #[] 80)) := (Below.refl _ w).alloc (Nat.le_refl _) _
  have B1 := Lib.hid b1
  have HS := Lib.hid (hv.below b1)
  have S1 : Hid (w.heap.size ≤ (w.alloc (.cells #[] 80)).heap.size) := Lib.hid b1.size
  have HX : Hid ((w.alloc (.cells #[] 80)).heap.size = w.heap.size + 1) := Lib.hid (by simp)
  have hq : ∀ w, Sem.run Try.prog (binOp BinOp.eql 56 (.slice (some ⟨b, off, none⟩) ns.length cap) (.slice none 0 0)) w = Result.ok (.bool false) w := fun w => by kernel_rfl
  clear hv b1
  go_enter Try.func49, Try.ntmps49
  go_wp2_with (refine wpList_copyN (by rfl) (.tmp 5) (.tmp 6) 56 (by rfl) w.heap.size 80 is Try.underlying56 hj hy0 hy1 hy2 w.heap.size 0 (by rfl) o0.out _ ns (by rfl) HS.out hn S1.out (w.heap.size + 1) HX.out ?_)
  intro g cap1 w1 hown hgrow hat hlt
  have HO := Lib.hid hown
  have B2 := Lib.hid (B1.out.grown hgrow S1.out (fun k hk => by simp at hk; omega))
  clear hown hgrow hat
  go_wp2_with fail
  go_ret
  exact ⟨_, _, _, rfl, rfl, HO.out, B2.out⟩
set_option maxHeartbeats 2000000 in
set_option maxRecDepth 100000 in
theorem notes_any (okT : Nat → Prop) (b B : Nat) (cs rs : List Cd) (ns : List Nt) (fz : Bool) (w : World) (h : RegN okT w B b cs rs ns fz) : Calls Try.prog 32 #[.pointer (some ⟨b, 0, none⟩)] w (Noted ns w) := by
  obtain ⟨C, m, h1, h2, h3, h4, h5, h6, h7, h8, h9, h10⟩ := h
  obtain ⟨k1, k2, k3⟩ : keepN ns C := h7
  letI : RE := NE ns okT
  have c0 := reg_cell h1 1922 k2
  have hn : NotesAt w (.slice (some ⟨b, 896, none⟩) ns.length 256) ns := ⟨b, 896, 256, rfl, k1, fun i hi j u hu => reg_cell h1 _ (k3 i hi j u hu)⟩
  have CC := Lib.hid (cloneN_any _ ns w.drew (hn.below ((Below.refl _ _).drew)) k1)
  have hc1 : (0 : Int) ≤ (ns.length : Int) := by omega
  have hc2 : (ns.length : Int) ≤ 256 := by omega
  clear h1 h2 h3 h4 h5 h6 h8 h9 h10 k2 k3 hn
  go_enter Try.func32, Try.ntmps32
  go_wp2_with fail
  refine wp_region_any (by kernel_rfl) ?_
  refine wpAny_take (i := 0) (v := ?_) rfl (by kernel_rfl) (by kernel_rfl) (by kernel_rfl) (fun _ _ _ h => h) (Or.inl ⟨by kernel_rfl, ?_⟩) ?_
  rotate_left
  · intro w
    go_simp
    try with_reducible rfl
  simp only [Act.put, List.getElem_toArray, List.getElem_cons_zero, List.getElem_cons_succ, List.setIfInBounds_toArray, List.set_cons_zero, List.set_cons_succ]
  refine wpAny_take (i := 1) (v := ?_) rfl (by kernel_rfl) (by kernel_rfl) (by kernel_rfl) (fun _ _ _ h => h) (Or.inl ⟨by kernel_rfl, ?_⟩) ?_
  rotate_left
  · intro w
    go_simp
    try with_reducible rfl
  simp only [Act.put, List.getElem_toArray, List.getElem_cons_zero, List.getElem_cons_succ, List.setIfInBounds_toArray, List.set_cons_zero, List.set_cons_succ]
  refine wpAny_take (i := 2) (v := ?_) rfl (by kernel_rfl) (by kernel_rfl) (by kernel_rfl) (fun _ _ _ h => h) (Or.inl ⟨by kernel_rfl, ?_⟩) ?_
  rotate_left
  · intro w
    go_simp
    try with_reducible rfl
  simp only [Act.put, List.getElem_toArray, List.getElem_cons_zero, List.getElem_cons_succ, List.setIfInBounds_toArray, List.set_cons_zero, List.set_cons_succ]
  refine wpAny_take (i := 3) (v := ?_) rfl (by kernel_rfl) (by kernel_rfl) (by kernel_rfl) (fun _ _ _ h => h) (Or.inl ⟨by kernel_rfl, ?_⟩) ?_
  rotate_left
  · intro w
    go_simp
    try with_reducible rfl
  simp only [Act.put, List.getElem_toArray, List.getElem_cons_zero, List.getElem_cons_succ, List.setIfInBounds_toArray, List.set_cons_zero, List.set_cons_succ]
  refine wpAny_take (i := 4) (v := ?_) rfl (by kernel_rfl) (by kernel_rfl) (by kernel_rfl) (fun _ _ _ h => h) (Or.inl ⟨by kernel_rfl, ?_⟩) ?_
  rotate_left
  · intro w
    go_simp
    try with_reducible rfl
  simp only [Act.put, List.getElem_toArray, List.getElem_cons_zero, List.getElem_cons_succ, List.setIfInBounds_toArray, List.set_cons_zero, List.set_cons_succ]
  refine wpAny_take (i := 5) (v := ?_) rfl (by kernel_rfl) (by kernel_rfl) (by kernel_rfl) (fun _ _ _ h => h) (Or.inl ⟨by kernel_rfl, ?_⟩) ?_
  rotate_left
  · intro w
    go_simp
    try with_reducible rfl
  simp only [Act.put, List.getElem_toArray, List.getElem_cons_zero, List.getElem_cons_succ, List.setIfInBounds_toArray, List.set_cons_zero, List.set_cons_succ]
  refine wpAny_ready (rs := [6]) (by kernel_rfl) (by simp) (AllReady.cons rfl (fun K hK => ?_) AllReady.nil)
  go_simp
  refine hK _ _ ?_
  clear hK K
  try simp only [Act.put, List.setIfInBounds_toArray, List.set_cons_zero, List.set_cons_succ]
  refine wpAny_take (i := 7) (v := ?_) rfl (by kernel_rfl) (by kernel_rfl) (by kernel_rfl) (fun _ _ _ h => h) (Or.inl ⟨by kernel_rfl, ?_⟩) ?_
  rotate_left
  · intro w
    go_simp
    try with_reducible rfl
  simp only [Act.put, List.getElem_toArray, List.getElem_cons_zero, List.getElem_cons_succ, List.setIfInBounds_toArray, List.set_cons_zero, List.set_cons_succ]
  refine wpAny_ready (rs := [8]) (by kernel_rfl) (by simp) (AllReady.cons rfl (fun K hK => ?_) AllReady.nil)
  go_simp
  refine CC.out.mono ?_
  rintro er w1 ⟨vo, a1, c1, rfl, rfl, ho, hb⟩
  have H2 := Lib.hid ho
  have H4 : Hid (Below w.heap.size w w1) := Lib.hid (((Below.refl _ _).drew).trans hb)
  clear ho hb
  go_simp
  refine hK _ _ ?_
  clear hK K
  try simp only [Act.put, List.setIfInBounds_toArray, List.set_cons_zero, List.set_cons_succ]
  refine wpAny_take (i := 9) (v := ?_) rfl (by kernel_rfl) (by kernel_rfl) (by kernel_rfl) (fun _ _ _ h => h) (Or.inl ⟨by kernel_rfl, ?_⟩) ?_
  rotate_left
  · intro w
    go_simp
    try with_reducible rfl
  simp only [Act.put, List.getElem_toArray, List.getElem_cons_zero, List.getElem_cons_succ, List.setIfInBounds_toArray, List.set_cons_zero, List.set_cons_succ]
  refine wpAny_done (by kernel_rfl) ?_ _
  go_wp2_with fail
  go_ret
  exact ⟨_, _, _, rfl, rfl, H2.out, H4.out⟩
end Go.Proofs.Ytpafbnmncioppaa
