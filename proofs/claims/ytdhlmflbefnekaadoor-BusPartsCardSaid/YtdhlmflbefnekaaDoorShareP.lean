/- bus.Shares: what it returns. -/
import Derived.Test.YtdhlmflbefnekaaDoorShareC
import Derived.Test.YtdhlmflbefnekaaDoorMulC
import Derived.Test.YtdhlmflbefnekaaDoorTriC
import Derived.OneCell
namespace Go.Proofs.YtdhlmflbefnekaaDoor
open Go.RowKit Go.ChangeShapes
theorem infoU64 : (Tryd.prog.info? 58).map (fun i => (i.zero, i.size, i.bytes)) = some (some (.int .u64 0), 1, 8) := by kernel_rfl
/-- The cells of unsigned numbers. -/
def ru (L : List Nat) : List Value := L.map fun r : Nat => Value.int .u64 (r : Int)
theorem ru_len (L : List Nat) : (ru L).length = L.length := by simp [ru]
def upto (f : Nat → Nat) (k : Nat) : List Nat := (List.range k).map f
theorem upto_len (f : Nat → Nat) (k : Nat) : (upto f k).length = k := by simp [upto]
theorem upto_succ (f : Nat → Nat) (k : Nat) : upto f (k + 1) = upto f k ++ [f k] := by simp [upto, List.range_succ]
def uptoI (f : Nat → Nat) (k : Nat) : List Int := (List.range k).map fun i => (f i : Int)
theorem uptoI_len (f : Nat → Nat) (k : Nat) : (uptoI f k).length = k := by simp [uptoI]
theorem uptoI_succ (f : Nat → Nat) (k : Nat) : uptoI f (k + 1) = uptoI f k ++ [(f k : Int)] := by simp [uptoI, List.range_succ]
theorem sumN_ge (f : Nat → Nat) (i : Nat) : ∀ n, i < n → f i ≤ Sh.sumN f n
  | 0, h => by omega
  | n + 1, h => by
    have e : Sh.sumN f (n + 1) = Sh.sumN f n + f n := rfl
    by_cases c : i = n
    · subst c; omega
    · have := sumN_ge f i n (by omega); omega
theorem own_notbox {w : World} {B e e' : Nat} {s : Nat} {v : Value} {n : Nat} {xs : List Value} {b : Nat} {cs : Array Value} {fr : Nat × Nat} (h : w.ownsRow B e s v n xs) (hb : w.heap[b]? = some (.cells cs e' fr)) (hne : e ≠ e') : v.ownBlock ≠ some b := by
  rcases h.2 with ⟨rfl, _⟩ | ⟨g, cap, cur, rfl, _, hg, _⟩
  · simp [Value.ownBlock]
  · intro hh
    simp only [Value.ownBlock, Option.some.injEq] at hh
    subst hh
    rw [hg] at hb
    simp at hb
    exact hne hb.2.1
theorem okS_parts {T : Int} {zs : List Int} (h : Sh.okS T zs = true) : zs.length ≤ 64 ∧ 0 ≤ T ∧ T ≤ 4611686018427387904 ∧ okW zs = true := by
  unfold Sh.okS at h
  simp only [Bool.and_eq_true, decide_eq_true_eq] at h
  exact ⟨h.1.1.1, h.1.1.2, h.1.2, h.2⟩
theorem okS_no {T : Int} {zs : List Int} (h : ¬ (zs.length ≤ 64 ∧ 0 ≤ T ∧ T ≤ 4611686018427387904 ∧ okW zs = true)) : Sh.okS T zs = false := by
  rw [← Bool.not_eq_true]
  exact fun h' => h (okS_parts h')
theorem some_one' {zs : List Int} (h : okW zs = true) : 0 < zs.length := some_one (okW_parts h).2.1
def Bad (w : World) (e : Ending) (w' : World) : Prop := e = .returned (.tuple #[.slice none 0 0, .int .i64 1]) ∧ w = w'
set_option maxHeartbeats 1000000 in
set_option maxRecDepth 100000 in
theorem shares_no (v : Value) (zs : List Int) (T : Int) (w : World) (hv : Ints .i64 w v zs) (hlen : zs.length ≤ 17592186044416) (hno : Sh.okS T zs = false) :
    Calls Tryd.prog 26 #[.int .i64 T, v] w (Bad w) := by
  have HV := Lib.hid hv
  obtain ⟨a, cap, rfl, _, _, _⟩ := hv
  by_cases h1 : 64 < zs.length
  · have d1 : decide ((zs.length : Int) > 64) = true := decide_eq_true (by omega)
    have d2 : (zs.length : Int) > 64 := by omega
    go_enter Tryd.func26, Tryd.ntmps26
    go_wp2_with fail
    go_ret2
    exact ⟨rfl, rfl⟩
  · have d1 : decide ((zs.length : Int) > 64) = false := decide_eq_false (by omega)
    have d2 : ¬ (zs.length : Int) > 64 := by omega
    by_cases h2 : T < 0
    · have d3 : decide (T < 0) = true := decide_eq_true h2
      go_enter Tryd.func26, Tryd.ntmps26
      go_wp2_with fail
      go_ret2
      exact ⟨rfl, rfl⟩
    · have d3 : decide (T < 0) = false := decide_eq_false h2
      by_cases h3 : T > 4611686018427387904
      · have d4 : decide (T > 4611686018427387904) = true := decide_eq_true h3
        go_enter Tryd.func26, Tryd.ntmps26
        go_wp2_with fail
        go_ret2
        exact ⟨rfl, rfl⟩
      · have d4 : decide (T > 4611686018427387904) = false := decide_eq_false h3
        have hw : okW zs = false := by
          rw [← Bool.not_eq_true]
          intro h
          have : Sh.okS T zs = true := by
            unfold Sh.okS
            simp only [Bool.and_eq_true, decide_eq_true_eq]
            exact ⟨⟨⟨by omega, by omega⟩, by omega⟩, h⟩
          rw [this] at hno
          cases hno
        have HW := Lib.hid (whole_any _ zs w HV.out (by omega))
        have H0 := Lib.hid hw
        clear hw hno HV
        go_enter Tryd.func26, Tryd.ntmps26
        go_wp2_with fail
        refine HW.out.mono ?_
        rintro e w' ⟨⟨x, rfl, hx⟩, rfl⟩
        rw [H0.out]
        clear hx
        go_wp2_with fail
        go_ret2
        exact ⟨rfl, rfl⟩
/-- The three appends: who is who. -/
def cS : Fin 3 → Tri.Ch := fun l => match l with
  | 0 => ⟨3, 4, 73, 74, 71, 75, 24, 2⟩
  | 1 => ⟨7, 8, 77, 78, 76, 79, 67, 58⟩
  | 2 => ⟨11, 12, 81, 82, 80, 83, 43, 3⟩
def LS (q i j k : Nat) : Array Bool := #[true, true, true, decide (1 ≤ i), decide (2 ≤ i), decide (1 ≤ q), true, decide (1 ≤ j), decide (2 ≤ j), true, true, decide (1 ≤ k), decide (2 ≤ k), false, false, false]
theorem nS1 : ∀ k l, (cS k).sb ≠ (cS l).sa := by decide
theorem nS2 : ∀ k l, k ≠ l → (cS k).sb ≠ (cS l).sb := by decide
theorem nS3 : ∀ k l, k ≠ l → (cS k).sa ≠ (cS l).sa := by decide
theorem nS4 : ∀ k l, (cS k).sx ≠ (cS l).sb ∧ (cS k).sx ≠ (cS l).sa ∧ (cS k).ss ≠ (cS l).sb ∧ (cS k).ss ≠ (cS l).sa := by decide
theorem nS5 : ∀ k, 76 ≠ (cS k).sx ∧ 76 ≠ (cS k).sb ∧ 76 ≠ (cS k).sa ∧ (k ≠ 1 → 76 ≠ (cS k).ss) ∧ 9 ≠ (cS k).sb ∧ 9 ≠ (cS k).sa := by decide
theorem nS6 : ∀ k, (cS k).sb < 108 ∧ (cS k).sa < 108 := by decide
theorem nS7 : ∀ k l, k ≠ l → (cS k).e ≠ (cS l).e := by decide
theorem tS : ∀ k, Tryd.prog.underlying (cS k).ts = some (.slice (cS k).e) := Tri.fin3 Tryd.underlying24 Tryd.underlying67 Tryd.underlying43
theorem iS : ∀ k, ∃ i z, Tryd.prog.info? (cS k).e = some i ∧ i.zero = some z ∧ i.size = 1 ∧ i.bytes = 8 ∧ z.cells.size = 1 := by
  obtain ⟨iw, hi, hz0, hz1, hz2⟩ := info_parts infoI64
  obtain ⟨iv, hj, hy0, hy1, hy2⟩ := info_parts infoInt'
  obtain ⟨iu, hk, hx0, hx1, hx2⟩ := info_parts infoU64
  exact Tri.fin3 ⟨iw, _, hi, hz0, hz1, hz2, rfl⟩ ⟨iu, _, hk, hx0, hx1, hx2, rfl⟩ ⟨iv, _, hj, hy0, hy1, hy2, rfl⟩
def vS (v0 v1 v2 : Value) (x0 x1 x2 : List Value) (q r k : Nat) : Fin 3 → Tri.Va := fun l => match l with
  | 0 => ⟨v0, x0, .int .i64 (q : Int)⟩
  | 1 => ⟨v1, x1, .int .u64 (r : Int)⟩
  | 2 => ⟨v2, x2, .int .i64 (k : Int)⟩
set_option maxHeartbeats 8000000 in
set_option maxRecDepth 100000 in
theorem shares_ok (v : Value) (zs : List Int) (T : Nat) (w : World) (hv : Ints .i64 w v zs) (hT : T ≤ 4611686018427387904) (hlen : zs.length ≤ 64) (hok : okW zs = true) :
    Calls Tryd.prog 26 #[.int .i64 T, v] w fun e w' => ∃ u, e = .returned (.tuple #[u, .int .i64 0]) ∧ w'.ownsRow w.heap.size 2 1 u zs.length (rc (Sh.shs (Sh.qN T zs) (Sh.rN T zs) zs.length (Sh.lackN T zs))) ∧ Below w.heap.size w w' := by
  obtain ⟨hr1, hs0, hs1⟩ := okW_parts hok
  have hpos : 0 < zs.length := some_one hs0
  have HW := Lib.hid (whole_any v zs w hv hlen)
  have HZ := Lib.hid hr1
  have HSN := Lib.hid (Sh.sum_N hok)
  obtain ⟨A, hA⟩ : ∃ A : Nat, A = zs.sum.toNat := ⟨_, rfl⟩
  have hA1 : 0 < A := by omega
  have hA2 : A ≤ 1125899906842624 := by omega
  have HA : Hid ((A : Int) = zs.sum) := Lib.hid (by omega)
  have HAN : Hid (A = zs.sum.toNat) := Lib.hid hA
  have HSA : Hid (Sh.sumN (Sh.wN zs) zs.length = A) := Lib.hid (by have := HSN.out; omega)
  have HQ : Hid (∀ k, k ≤ zs.length → Sh.sumN (Sh.qN T zs) k ≤ T) := Lib.hid (fun k hk => by
    have := Sh.quo_le (T := T) hA1 HSA.out k hk
    rw [hA] at this
    exact this)
  have HLK : Hid (Sh.lackN T zs < zs.length) := Lib.hid (by
    have := Sh.lack_lt (T := T) hA1 HSA.out hpos
    rw [hA] at this
    exact this)
  obtain ⟨a, cap, rfl, hm, _, hc⟩ := hv
  have HC := Lib.hid hc
  obtain ⟨iw, hi, hz0, hz1, hz2⟩ := info_parts infoI64
  obtain ⟨iv, hj, hy0, hy1, hy2⟩ := info_parts infoInt'
  obtain ⟨iu, hk, hx0, hx1, hx2⟩ := info_parts infoU64
  clear hc hm hr1 hA hs0 hs1
  have HOK := Lib.hid hok
  clear hok
  have d1 : decide ((zs.length : Int) > 64) = false := decide_eq_false (by omega)
  have d3 : decide ((T : Int) < 0) = false := decide_eq_false (by omega)
  have d4 : decide ((T : Int) > 4611686018427387904) = false := decide_eq_false (by omega)
  obtain ⟨n, hn⟩ : ∃ n, n = zs.length := ⟨_, rfl⟩
  go_enter Tryd.func26, Tryd.ntmps26
  go_wp2_with fail
  refine HW.out.mono ?_
  rintro e w' ⟨⟨x, rfl, hx⟩, rfl⟩
  obtain rfl : x = (A : Int) := by rw [hx HOK.out, HA.out]
  rw [HOK.out]
  clear hx HW
  go_wp2_with (refine wpList_make_own _ (by rfl) (.const (.int .i64 0)) (.tmp 39) 24 (by rfl) w.heap.size 2 iw _ 1 Tryd.underlying24 hi hz0 hz1 .i64 .i64 _ zs.length (by rfl) (by rfl) (by rfl) (by rw [hz2]; omega) (by unfold maxLen; omega) (Nat.le_refl _) ?_)
  intro w1 hown hgrow
  have O1 := Lib.hid hown
  have B1 := Lib.hid ((Below.refl w.heap.size w).grown hgrow (Nat.le_refl _) (fun k hk => by cases hk))
  have hs1 : w.heap.size ≤ w1.heap.size := hgrow.size
  clear hown hgrow
  obtain ⟨go, hgo⟩ : ∃ go, go = w.heap.size := ⟨_, rfl⟩
  have O1' : Hid (w1.ownsRow w.heap.size 2 1 (.slice (some ⟨go, 0, none⟩) 0 zs.length) 0 []) := Lib.hid (by rw [hgo]; exact O1.out)
  rw [← hgo]
  clear O1 hgo
  go_wp2_with (refine wpList_make_own _ (by rfl) (.const (.int .i64 0)) (.tmp 42) 67 (by rfl) w.heap.size 58 iu _ 1 Tryd.underlying67 hk hx0 hx1 .i64 .i64 _ zs.length (by rfl) (by rfl) (by rfl) (by rw [hx2]; omega) (by unfold maxLen; omega) hs1 ?_)
  intro w2 hown hgrow
  have O2 := Lib.hid hown
  have O1 := Lib.hid (O1'.out.kept hgrow (.inr (by simp [Value.ownBlock])))
  have B2 := Lib.hid (B1.out.grown hgrow hs1 (fun k hk => by cases hk))
  have hs2 : w.heap.size ≤ w2.heap.size := Nat.le_trans hs1 hgrow.size
  clear hown hgrow O1' B1
  obtain ⟨gl, hgl⟩ : ∃ gl, gl = w1.heap.size := ⟨_, rfl⟩
  have O2' : Hid (w2.ownsRow w.heap.size 58 1 (.slice (some ⟨gl, 0, none⟩) 0 zs.length) 0 []) := Lib.hid (by rw [hgl]; exact O2.out)
  rw [← hgl]
  clear O2 hgl
  have hs3 : w.heap.size ≤ (w2.alloc (.cells #[Value.slice (some ⟨gl, 0, none⟩) 0 zs.length] 67)).heap.size := ((Below.refl _ w2).alloc (Nat.le_refl _) _).size |> Nat.le_trans hs2
  go_wp2_with (refine wpList_make_own _ (by rfl) (.const (.int .i64 0)) (.tmp 45) 43 (by rfl) w.heap.size 3 iv _ 1 Tryd.underlying43 hj hy0 hy1 .i64 .i64 _ zs.length (by rfl) (by rfl) (by rfl) (by rw [hy2]; omega) (by unfold maxLen; omega) hs3 ?_)
  intro w3 hown hgrow
  have hlt2 : w2.heap.size < (w2.alloc (.cells #[Value.slice (some ⟨gl, 0, none⟩) 0 zs.length] 67)).heap.size := by simp
  have X3 : Hid (w3.heap[w2.heap.size]? = some (.cells #[Value.slice (some ⟨gl, 0, none⟩) 0 zs.length] 67 (0, 0))) := Lib.hid (by rw [hgrow.block _ hlt2 (by simp)]; exact heap_alloc_new w2 _)
  have O1 := Lib.hid ((O1.out.alloc (.cells #[Value.slice (some ⟨gl, 0, none⟩) 0 zs.length] 67)).kept hgrow (.inr (by simp [Value.ownBlock])))
  have O2 := Lib.hid ((O2'.out.alloc (.cells #[Value.slice (some ⟨gl, 0, none⟩) 0 zs.length] 67)).kept hgrow (.inr (by simp [Value.ownBlock])))
  have B3 := Lib.hid ((B2.out.alloc hs2 (.cells #[Value.slice (some ⟨gl, 0, none⟩) 0 zs.length] 67)).grown hgrow hs3 (fun k hk => by cases hk))
  obtain ⟨gb, hgb⟩ : ∃ gb, gb = w2.heap.size + 1 := ⟨_, rfl⟩
  have O3 : Hid (w3.ownsRow w.heap.size 3 1 (.slice (some ⟨gb, 0, none⟩) 0 zs.length) 0 []) := Lib.hid (by rw [hgb]; exact hown)
  rw [← hgb]
  obtain ⟨bx, hbx⟩ : ∃ bx, bx = w2.heap.size := ⟨_, rfl⟩
  have hbxl : w.heap.size ≤ bx := by omega
  rw [← hbx] at X3 ⊢
  clear hown hgrow hlt2 hs3 O2' B2 hgb hbx hs1 hs2
  go_wp2_with fail
  go_loopg [8, 10, 11, 50] zs.length (fun r vo vb la vi wr => ∃ (k : Nat) (L : Int), k ≤ zs.length ∧ r = zs.length - k ∧ vi = .int .i64 k ∧ la = .int .i64 L ∧ 0 ≤ L ∧ L ≤ T ∧ Hid (L + (Sh.sumN (Sh.qN T zs) k : Nat) = T ∧ wr.ownsRow w.heap.size 2 1 vo k (rc (uptoI (Sh.qN T zs) k)) ∧ wr.ownsRow w.heap.size 3 1 vb k (rc (uptoI id k)) ∧ Below w.heap.size w wr ∧ ∃ vl, wr.ownsRow w.heap.size 58 1 vl k (ru (upto (Sh.rN T zs) k)) ∧ wr.heap[bx]? = some (.cells #[vl] 67 (0, 0))))
  case atStart => exact ⟨0, T, by omega, by omega, rfl, rfl, by omega, by omega, Lib.hid ⟨by simp [Sh.sumN], O1.out, O3.out, B3.out, _, O2.out, X3.out⟩⟩
  case round =>
    clear O1 O2 O3 B3 X3
    obtain ⟨k, L, hk, hr, rfl, rfl, hL0, hL1, hq⟩ := hrel
    obtain ⟨q0, q1, q2, q3, vl, q4, q5⟩ := hq.out
    have Q0 := Lib.hid q0
    have Q1 := Lib.hid q1
    have Q2 := Lib.hid q2
    have Q3 := Lib.hid q3
    have Q4 := Lib.hid q4
    have Q5 := Lib.hid q5
    have HR := Lib.hid hr
    clear q0 q1 q2 q3 q4 q5 hq hr
    by_cases hlt : k < zs.length
    · obtain ⟨b, off, hp, g⟩ := HC.out k hlt
      subst hp
      have hbz : b < w.heap.size := World.block_lt_of_cell? w _ g
      have hwk := HZ.out k hlt
      obtain ⟨z, hz⟩ : ∃ z : Nat, z = (nth zs k).toNat := ⟨_, rfl⟩
      have hzw : Hid (Sh.wN zs k = z) := Lib.hid hz.symm
      have hzA : z ≤ A := by
        have h1 := Sh.sumN_mono (Sh.wN zs) (show k + 1 ≤ zs.length from hlt)
        have h2 := HSA.out
        have h3 : Sh.sumN (Sh.wN zs) (k + 1) = Sh.sumN (Sh.wN zs) k + Sh.wN zs k := rfl
        have h4 := hzw.out
        omega
      have hcell : wr.cell? ⟨b, off + k, none⟩ = some (.int .i64 (z : Int)) := by
        rw [Q3.out.cell (p := ⟨b, off + k, none⟩) hbz, g]
        congr 2
        omega
      clear hz hwk
      obtain ⟨p, hp⟩ : ∃ p, T * z = p := ⟨_, rfl⟩
      obtain ⟨ph, hph⟩ : ∃ ph, p / 18446744073709551616 = ph := ⟨_, rfl⟩
      obtain ⟨pl, hpl⟩ : ∃ pl, p % 18446744073709551616 = pl := ⟨_, rfl⟩
      have hM := fun w => Mu.mul64_any T z (by omega) (by omega) w
      rw [hp, hph, hpl] at hM
      have hple : p ≤ 4611686018427387904 * A := by rw [← hp]; exact Nat.mul_le_mul hT hzA
      have hphA : ph < A := by omega
      have hD := fun w => div64_any ph pl A w hA1 (by omega) hphA (by omega)
      have e1 : ph * 18446744073709551616 + pl = p := by omega
      obtain ⟨q, hq⟩ : ∃ q, p / A = q := ⟨_, rfl⟩
      obtain ⟨r, hr⟩ : ∃ r, p % A = r := ⟨_, rfl⟩
      rw [e1, hq, hr] at hD
      have HQq : Hid (Sh.qN T zs k = q) := Lib.hid (by unfold Sh.qN; rw [hzw.out, hp, ← HAN.out, hq])
      have HRr : Hid (Sh.rN T zs k = r) := Lib.hid (by unfold Sh.rN; rw [hzw.out, hp, ← HAN.out, hr])
      have hqL : (q : Int) ≤ L := by
        have h1 := HQ.out (k + 1) hlt
        have h2 : Sh.sumN (Sh.qN T zs) (k + 1) = Sh.sumN (Sh.qN T zs) k + Sh.qN T zs k := rfl
        have h3 := HQq.out
        have h4 := Q0.out
        omega
      have hrA : r < A := by rw [← hr]; exact Nat.mod_lt _ hA1
      have hM := Lib.hid hM
      have hD := Lib.hid hD
      clear hp hph hpl hq hr e1 hple g
      go_wp2_with fail
      refine (hM.out _).mono ?_
      rintro e w' ⟨rfl, rfl⟩
      go_wp2_with fail
      refine (hD.out _).mono ?_
      rintro e w' ⟨rfl, nd, rfl⟩
      go_wp2_with fail
      have R1 := Lib.hid (own_below Q1.out (below_drewN (Below.refl _ _) nd))
      have R2 := Lib.hid (own_below Q2.out (below_drewN (Below.refl _ _) nd))
      have R4 := Lib.hid (own_below Q4.out (below_drewN (Below.refl _ _) nd))
      have R3 := Lib.hid (below_drewN Q3.out nd)
      have R5 : Hid ((wr.drewN nd).heap[bx]? = some (.cells #[vl] 67 (0, 0))) := Lib.hid Q5.out
      clear Q1 Q2 Q3 Q4 Q5 hcell
      obtain ⟨wq, hwq⟩ : ∃ wq, wq = (wr.drewN nd).drew := ⟨_, rfl⟩
      have S1 : Hid (wq.ownsRow w.heap.size 2 1 u8 k (rc (uptoI (Sh.qN T zs) k))) := Lib.hid (by rw [hwq]; exact R1.out.drew)
      refine wp_region_any (by kernel_rfl) ?_
      refine wpAny_take (i := 0) (oi := ⟨some 71, .move (.tmp 8), 24, "bus.go:101", #[], none⟩) (v := ?_) rfl (by kernel_rfl) (by kernel_rfl) (by kernel_rfl) (fun _ _ _ h => h) (Or.inl ⟨by rfl, ?_⟩) ?_
      rotate_left
      · intro w
        go_simp
        try with_reducible rfl
      simp only [Act.put, List.setIfInBounds_toArray, List.set_cons_zero, List.set_cons_succ]
      refine wpAny_take (i := 1) (oi := ⟨some 72, .move (.tmp 16), 58, "bus.go:101", #[], none⟩) (v := ?_) rfl (by kernel_rfl) (by kernel_rfl) (by kernel_rfl) (fun _ _ _ h => h) (Or.inl ⟨by rfl, ?_⟩) ?_
      rotate_left
      · intro w
        go_simp
        try with_reducible rfl
      simp only [Act.put, List.setIfInBounds_toArray, List.set_cons_zero, List.set_cons_succ]
      refine wpAny_take (i := 2) (oi := ⟨some 73, .convert 58 2 (.tmp 72), 2, "bus.go:101", #[⟨1, .data⟩], none⟩) (v := ?_) rfl (by kernel_rfl) (by kernel_rfl) (by kernel_rfl) (fun _ _ _ h => h) (Or.inl ⟨by rfl, ?_⟩) ?_
      rotate_left
      · intro w
        go_simp
        try with_reducible rfl
      simp only [Act.put, List.setIfInBounds_toArray, List.set_cons_zero, List.set_cons_succ]
      refine wpAny_take (i := 6) (oi := ⟨some 77, .move (.tmp 17), 58, "bus.go:101", #[], none⟩) (v := ?_) rfl (by kernel_rfl) (by kernel_rfl) (by kernel_rfl) (fun _ _ _ h => h) (Or.inl ⟨by rfl, ?_⟩) ?_
      rotate_left
      · intro w
        go_simp
        try with_reducible rfl
      simp only [Act.put, List.setIfInBounds_toArray, List.set_cons_zero, List.set_cons_succ]
      refine wpAny_take (i := 9) (oi := ⟨some 80, .move (.tmp 10), 43, "bus.go:101", #[], none⟩) (v := ?_) rfl (by kernel_rfl) (by kernel_rfl) (by kernel_rfl) (fun _ _ _ h => h) (Or.inl ⟨by rfl, ?_⟩) ?_
      rotate_left
      · intro w
        go_simp
        try with_reducible rfl
      simp only [Act.put, List.setIfInBounds_toArray, List.set_cons_zero, List.set_cons_succ]
      refine wpAny_take (i := 10) (oi := ⟨some 81, .move (.tmp 12), 3, "bus.go:101", #[], none⟩) (v := ?_) rfl (by kernel_rfl) (by kernel_rfl) (by kernel_rfl) (fun _ _ _ h => h) (Or.inl ⟨by rfl, ?_⟩) ?_
      rotate_left
      · intro w
        go_simp
        try with_reducible rfl
      simp only [Act.put, List.setIfInBounds_toArray, List.set_cons_zero, List.set_cons_succ]
      have wq : IntKind.i64.wrap (q : Int) = (q : Int) := by rw [IntKind.wrap_i64]; omega
      have hkm : k + 1 ≤ maxLen := by unfold maxLen; omega
      have hkb : (k + 1) * 8 ≤ 140737488355328 := by omega
      have hbs : w.heap.size ≤ (wr.drewN nd).drew.heap.size := R3.out.size
      have hnb1 : u8.ownBlock ≠ some bx := own_notbox R1.out R5.out (by decide)
      have hnb2 : vl.ownBlock ≠ some bx := own_notbox R4.out R5.out (by decide)
      have hnb3 : u10.ownBlock ≠ some bx := own_notbox R2.out R5.out (by decide)
      refine Tri.main0 (n := k) (B := w.heap.size) (w0 := (wr.drewN nd).drew) (d := ⟨5, 76, 9, bx⟩) (c := cS) (N := 108) (va := vS u8 vl u10 (rc (uptoI (Sh.qN T zs) k)) (ru (upto (Sh.rN T zs) k)) (rc (uptoI id k)) q r k) ?fits LS 3 (by kernel_rfl) ?done
      case fits =>
        exact {
          opb := Tri.fin3 ⟨_, rfl, rfl, rfl, rfl⟩ ⟨_, rfl, rfl, rfl, rfl⟩ ⟨_, rfl, rfl, rfl, rfl⟩
          opa := Tri.fin3 ⟨_, rfl, rfl, rfl, rfl⟩ ⟨_, rfl, rfl, rfl, rfl⟩ ⟨_, rfl, rfl, rfl, rfl⟩
          opl := ⟨_, rfl, rfl, rfl, rfl⟩
          ht := tS
          hi := iS
          ba := nS1
          bb := nS2
          aa := nS3
          src := nS4
          tlx := nS5
          tlb := by show (9 : Nat) ≠ 76; decide
          s1 := rfl
          sz := rfl
          ltN := nS6
          ltlN := by show 76 < 108; decide
          ex := Tri.fin3 (congrArg (Value.int .i64) wq) rfl rfl
          es := Tri.fin3 (fun _ => rfl) (fun h => absurd rfl h) (fun _ => rfl)
          eb := rfl
          cb := cell_of_one R5.out
          nb := Tri.fin3 hnb1 hnb2 hnb3
          own := Tri.fin3 R1.out.drew R4.out.drew R2.out.drew
          one := Tri.fin3 rfl rfl rfl
          cel := Tri.fin3 rfl rfl rfl
          ne := nS7
          b1 := hkm
          b2 := hkb
          base := hbs }
      case done =>
        intro y rr w3 H
        obtain ⟨-, ⟨g0, c0, e0⟩, o0⟩ := H.fin 0 rfl
        obtain ⟨-, ⟨g1, c1, e1⟩, o1⟩ := H.fin 1 rfl
        obtain ⟨-, ⟨g2, c2, e2⟩, o2⟩ := H.fin 2 rfl
        have hX : w3.heap[bx]? = some (.cells #[vl] 67 (0, 0)) := (H.same bx (lt_of_block R5.out) (Tri.fin3 hnb1 hnb2 hnb3)).trans R5.out
        have hB := H.below
        rw [e0] at o0
        rw [e1] at o1
        rw [e2] at o2
        have o0 : w3.ownsRow w.heap.size 2 1 (.slice (some ⟨g0, 0, none⟩) (k + 1) c0) (k + 1) (rc (uptoI (Sh.qN T zs) k) ++ [.int .i64 (q : Int)]) := o0
        have o1 : w3.ownsRow w.heap.size 58 1 (.slice (some ⟨g1, 0, none⟩) (k + 1) c1) (k + 1) (ru (upto (Sh.rN T zs) k) ++ [.int .u64 (r : Int)]) := o1
        have o2 : w3.ownsRow w.heap.size 3 1 (.slice (some ⟨g2, 0, none⟩) (k + 1) c2) (k + 1) (rc (uptoI id k) ++ [.int .i64 (k : Int)]) := o2
        have P1 : Hid (w3.ownsRow w.heap.size 2 1 (.slice (some ⟨g0, 0, none⟩) (k + 1) c0) (k + 1) (rc (uptoI (Sh.qN T zs) (k + 1)))) := Lib.hid (by rw [uptoI_succ, HQq.out]; simpa [rc] using o0)
        have P2 : Hid (w3.ownsRow w.heap.size 58 1 (.slice (some ⟨g1, 0, none⟩) (k + 1) c1) (k + 1) (ru (upto (Sh.rN T zs) (k + 1)))) := Lib.hid (by rw [upto_succ, HRr.out]; simpa [ru] using o1)
        have P3 : Hid (w3.ownsRow w.heap.size 3 1 (.slice (some ⟨g2, 0, none⟩) (k + 1) c2) (k + 1) (rc (uptoI id (k + 1)))) := Lib.hid (by rw [uptoI_succ]; simpa [rc] using o2)
        have P4 : Hid (Below w.heap.size w w3) := Lib.hid (R3.out.drew.trans hB)
        have P5 := Lib.hid hX
        clear H hB o0 o1 o2 hX
        simp only [Tri.fr, cS, vS, Act.put, List.setIfInBounds_toArray, List.set_cons_zero, List.set_cons_succ]
        rw [e0, e1, e2]
        clear e0 e1 e2
        generalize y 0 = y0
        generalize y 1 = y1
        generalize y 2 = y2
        have hvl1 : (Value.slice (some ⟨g1, 0, none⟩) (k + 1) c1).oneCell' = true := rfl
        have hsl : (Tryd.prog.info? 67).map (·.size) = some 1 := by kernel_rfl
        refine Tri.stepAssign (i := 13) (.tmp 75) (.slice (some ⟨g0, 0, none⟩) (k + 1) c0) rfl (by kernel_rfl) rfl rfl rfl rfl ?_
        simp only [Act.put, List.setIfInBounds_toArray, List.set_cons_zero, List.set_cons_succ]
        refine Tri.stepStore (i := 14) 67 67 (.tmp 9) (.tmp 79) bx vl (.slice (some ⟨g1, 0, none⟩) (k + 1) c1) rfl (by kernel_rfl) rfl rfl rfl rfl rfl hvl1 P5.out hsl ?_
        refine Tri.stepAssign (i := 15) (.tmp 83) (.slice (some ⟨g2, 0, none⟩) (k + 1) c2) rfl (by kernel_rfl) rfl rfl rfl rfl ?_
        simp only [Act.put, List.setIfInBounds_toArray, List.set_cons_zero, List.set_cons_succ]
        refine wpAny_done (by kernel_rfl) ?_ _
        have Z1 := Lib.hid (ownsRow_setCell_other P1.out (a := ⟨bx, 0, none⟩) (own_notbox P1.out P5.out (by decide)) (.slice (some ⟨g1, 0, none⟩) (k + 1) c1))
        have Z2 := Lib.hid (ownsRow_setCell_other P2.out (a := ⟨bx, 0, none⟩) (own_notbox P2.out P5.out (by decide)) (.slice (some ⟨g1, 0, none⟩) (k + 1) c1))
        have Z3 := Lib.hid (ownsRow_setCell_other P3.out (a := ⟨bx, 0, none⟩) (own_notbox P3.out P5.out (by decide)) (.slice (some ⟨g1, 0, none⟩) (k + 1) c1))
        have Z4 := Lib.hid (P4.out.setCell (p := ⟨bx, 0, none⟩) hbxl (.slice (some ⟨g1, 0, none⟩) (k + 1) c1))
        have Z5 := Lib.hid (one_setCell (u := .slice (some ⟨g1, 0, none⟩) (k + 1) c1) P5.out)
        have HN : Hid (L - q + (Sh.sumN (Sh.qN T zs) (k + 1) : Nat) = T) := Lib.hid (by
          have h2 : Sh.sumN (Sh.qN T zs) (k + 1) = Sh.sumN (Sh.qN T zs) k + Sh.qN T zs k := rfl
          have h3 := HQq.out
          have h4 := Q0.out
          omega)
        clear P1 P2 P3 P4 P5 hnb1 hnb2 hnb3 R1 R2 R3 R4 R5 wq hbs hkm hkb
        go_wp2_with fail
        go_roundg (zs.length - (k + 1))
        case measure => rw [HR.out]; omega
        case rel => exact ⟨k + 1, L - q, by omega, rfl, by first | rfl | simp, by first | rfl | simp, by omega, by omega, Lib.hid ⟨HN.out, Z1.out, Z3.out, Z4.out, _, Z2.out, Z5.out⟩⟩
    · obtain rfl : k = zs.length := by omega
      obtain ⟨LK, hLK⟩ : ∃ LK, LK = Sh.lackN T zs := ⟨_, rfl⟩
      have hLe : L = (LK : Int) := by
        have h1 := Q0.out
        have h2 : Sh.lackN T zs = T - Sh.sumN (Sh.qN T zs) zs.length := rfl
        omega
      subst hLe
      have hLK2 : LK < zs.length := by rw [hLK]; exact HLK.out
      have HLKe := Lib.hid hLK
      clear hLK
      obtain ⟨g, cg, e10, hg1, hg2⟩ := Q2.out.form hpos
      subst e10
      obtain ⟨go', co, e8, ho1, ho2⟩ := Q1.out.form hpos
      subst e8
      obtain ⟨gl', cl, evl, hl1, hl2⟩ := Q4.out.form hpos
      subst evl
      have hgx : bx ≠ g := fun h => own_notbox Q2.out Q5.out (by decide) (by rw [h]; rfl)
      have hglg : gl' ≠ g := fun h => by
        rcases own_ne Q4.out Q2.out (by decide) with h' | h'
        · cases h'
        · exact h' (by rw [h]; rfl)
      have hgo : go' ≠ g := fun h => by
        rcases own_ne Q1.out Q2.out (by decide) with h' | h'
        · cases h'
        · exact h' (by rw [h]; rfl)
      have hcg : zs.length ≤ cg := own_cap Q2.out
      have em : zs.length - 1 + 1 = zs.length := by omega
      have HS := sortsS (Sh.rN T zs) (zs.length - 1) wr w.heap.size g cg bx gl' cl (by rw [em]; exact hlen) (by rw [em]; exact Q2.out) (lt_of_block Q5.out) hl2 hgx hglg (by rw [em]; exact cell_of_one Q5.out) (fun i hi => by
        rw [em] at hi
        have h := Q4.out.cellAt i (by rw [Nat.mul_one]; exact hi)
        rw [h]
        simp [ru, upto, hi])
      rw [em] at HS
      have HS := Lib.hid HS
      clear em
      go_wp2_with fail
      refine HS.out.mono ?_
      rintro e w4 ⟨rfl, hby, hgrow⟩
      have Y2 := Lib.hid hby
      have Y1 := Lib.hid (Q1.out.kept hgrow (.inr (by simp [Value.ownBlock]; exact hgo)))
      have Y3 := Lib.hid (Q3.out.grown hgrow (Q3.out.size) (fun k hk => by simp only [Option.some.injEq] at hk; omega))
      have HSH : Hid (uptoI (Sh.qN T zs) zs.length = Sh.shs (Sh.qN T zs) (Sh.rN T zs) zs.length 0) := Lib.hid (by simp [uptoI, Sh.shs])
      clear hby hgrow HS Q0 Q1 Q2 Q3 Q4 Q5
      go_wp2_with fail
      obtain ⟨wb, hwb⟩ : ∃ wb, wb = w4 := ⟨_, rfl⟩
      subst hwb
      go_loopg [19, 96] LK (fun r v19 vi wr => ∃ k : Nat, k ≤ LK ∧ r = LK - k ∧ vi = .int .i64 k ∧ Hid (wr.ownsRow w.heap.size 2 1 (.slice (some ⟨go', 0, none⟩) zs.length co) zs.length (rc (Sh.shs (Sh.qN T zs) (Sh.rN T zs) zs.length k)) ∧ wr.ownsRow w.heap.size 3 1 (.slice (some ⟨g, 0, none⟩) zs.length cg) zs.length (rc ((Sh.ordS (Sh.rN T zs) zs.length).map fun i : Nat => (i : Int))) ∧ Below w.heap.size w wr))
      case atStart => exact ⟨0, by omega, by omega, rfl, Lib.hid ⟨by rw [← HSH.out]; exact Y1.out, Y2.out, Y3.out⟩⟩
      case round =>
        clear Y1 Y2 Y3
        obtain ⟨k, hk, hr, rfl, hq⟩ := hrel
        have HR2 := Lib.hid hr
        have P1 := Lib.hid hq.out.1
        have P2 := Lib.hid hq.out.2.1
        have P3 := Lib.hid hq.out.2.2
        clear hr hq
        by_cases hlt : k < LK
        · have hkn : k < zs.length := by omega
          have hx := Sh.pk_lt (Sh.rN T zs) zs.length k hkn
          have c1 : wr.cell? ⟨g, k, none⟩ = some (.int .i64 (Sh.pk (Sh.ordS (Sh.rN T zs) zs.length) k : Nat)) := by
            have h := rc_at P2.out (by simp [Sh.ordS_len]) k hkn
            rw [h]
            have hk' : k < (Sh.ordS (Sh.rN T zs) zs.length).length := by rw [Sh.ordS_len]; exact hkn
            rw [nth_eq (by simpa using hk'), Sh.pk_eq hk']
            simp
          have c2 : wr.cell? ⟨go', Sh.pk (Sh.ordS (Sh.rN T zs) zs.length) k, none⟩ = some (.int .i64 (Sh.qN T zs (Sh.pk (Sh.ordS (Sh.rN T zs) zs.length) k) : Nat)) := by
            rw [rc_at P1.out (Sh.shs_len _ _ _ _) _ hx, Sh.shs_new _ _ _ _ hkn]
          have f2 : wr.frozen? ⟨go', Sh.pk (Sh.ordS (Sh.rN T zs) zs.length) k, none⟩ = false := P1.out.frozenAt _
          have hqT : Sh.qN T zs (Sh.pk (Sh.ordS (Sh.rN T zs) zs.length) k) ≤ T := Nat.le_trans (sumN_ge _ _ _ hx) (HQ.out _ (Nat.le_refl _))
          have S1 : Hid ((wr.setCell ⟨go', Sh.pk (Sh.ordS (Sh.rN T zs) zs.length) k, none⟩ (.int .i64 ((Sh.qN T zs (Sh.pk (Sh.ordS (Sh.rN T zs) zs.length) k) : Int) + 1))).ownsRow w.heap.size 2 1 (.slice (some ⟨go', 0, none⟩) zs.length co) zs.length (rc (Sh.shs (Sh.qN T zs) (Sh.rN T zs) zs.length (k + 1)))) := Lib.hid (by
            have := (P1.out.stored (Sh.pk (Sh.ordS (Sh.rN T zs) zs.length) k) (.int .i64 ((Sh.qN T zs (Sh.pk (Sh.ordS (Sh.rN T zs) zs.length) k) : Int) + 1))).1
            rw [rc_set, Sh.shs_step _ _ _ _ hkn] at this
            exact this)
          have S2 := Lib.hid (ownsRow_setCell_other P2.out (a := ⟨go', Sh.pk (Sh.ordS (Sh.rN T zs) zs.length) k, none⟩) (by simp [Value.ownBlock]; exact fun h => hgo h.symm) (.int .i64 ((Sh.qN T zs (Sh.pk (Sh.ordS (Sh.rN T zs) zs.length) k) : Int) + 1)))
          have S3 := Lib.hid (P3.out.setCell (p := ⟨go', Sh.pk (Sh.ordS (Sh.rN T zs) zs.length) k, none⟩) ho1 (.int .i64 ((Sh.qN T zs (Sh.pk (Sh.ordS (Sh.rN T zs) zs.length) k) : Int) + 1)))
          clear P1 P2 P3
          generalize Sh.qN T zs (Sh.pk (Sh.ordS (Sh.rN T zs) zs.length) k) = qx at *
          generalize Sh.pk (Sh.ordS (Sh.rN T zs) zs.length) k = x at *
          go_wp2_with fail
          go_roundg (LK - (k + 1))
          case measure => rw [HR2.out]; omega
          case rel => exact ⟨k + 1, by omega, rfl, by first | rfl | simp, Lib.hid ⟨S1.out, S2.out, S3.out⟩⟩
        · obtain rfl : k = LK := by omega
          go_wp2_with fail
          go_ret2
          rw [← HLKe.out]
          exact ⟨_, rfl, P1.out, P3.out⟩
theorem shs_same (q r : Nat → Nat) (n k : Nat) : (Sh.shs q r n k).length = n := Sh.shs_len q r n k
/-- bus.Shares: for whatever numbers. -/
theorem shares_any (v : Value) (zs : List Int) (T : Int) (w : World) (hv : Ints .i64 w v zs) (hlen : zs.length ≤ 17592186044416) :
    Calls Tryd.prog 26 #[.int .i64 T, v] w fun e w' => ∃ u, e = .returned (.tuple #[u, .int .i64 (Sh.errS T zs)]) ∧ w'.ownsRow w.heap.size 2 1 u (Sh.resS T zs).length (rc (Sh.resS T zs)) ∧ Below w.heap.size w w' := by
  by_cases h : Sh.okS T zs = true
  · obtain ⟨h1, h2, h3, h4⟩ := okS_parts h
    obtain ⟨t, rfl⟩ : ∃ t : Nat, T = t := ⟨T.toNat, by omega⟩
    refine (shares_ok v zs t w hv (by omega) h1 h4).mono ?_
    rintro e w' ⟨u, he, ho, hb⟩
    have e1 : Sh.resS (t : Int) zs = Sh.shs (Sh.qN t zs) (Sh.rN t zs) zs.length (Sh.lackN t zs) := by
      unfold Sh.resS
      rw [if_pos h]
      simp
    have e2 : Sh.errS (t : Int) zs = 0 := by unfold Sh.errS; rw [if_pos h]
    rw [e1, e2, Sh.shs_len]
    exact ⟨u, he, ho, hb⟩
  · have h' : Sh.okS T zs = false := by simpa using h
    refine (shares_no v zs T w hv hlen h').mono ?_
    rintro e w' ⟨he, rfl⟩
    have e1 : Sh.resS T zs = [] := by unfold Sh.resS; rw [if_neg h]
    have e2 : Sh.errS T zs = 1 := by unfold Sh.errS; rw [if_neg h]
    rw [e1, e2]
    exact ⟨_, he, World.ownsRow_nil _ _ _ _, Below.refl _ _⟩
end Go.Proofs.YtdhlmflbefnekaaDoor
