/- The library's stable sort at elements of one cell: the blocks, and slices.SortStableFunc. -/
import Derived.Test.YtdhlmflbefnekaaDoorStabN
import Derived.Test.YtdhlmflbefnekaaDoorStabI
namespace Go.Proofs.YtdhlmflbefnekaaDoor
namespace Stb
open Go.Shelf Go.RowKit Go.Lib Go.Sort
variable {α : Type} [Inhabited α]
theorem sym_all (enc : α → Value) (cf : α → α → Int) (lt : α → α → Bool) (hS : SWO lt) (g : Nat) (cb : Array Value) (blk off cap : Nat) (d0 : Array α) (w0 : World)
    (eg : ∀ args w, (callFunc g args).run Tryd.prog w = .ok (.enter g args) w) (hcmp : CmpLays1 Tryd.prog g cb enc cf blk off d0.size w0) (R : Row1 enc w0 blk off d0) (hsz : d0.size < 4611686018427387904) : ∀ N, Merges enc cf lt g cb blk off cap d0 w0 N
  | 0 => fun a m b d w h1 h2 h3 h4 h5 => by omega
  | N + 1 => fun a m b d w h1 h2 h3 h4 h5 h6 H => by
    by_cases c1 : m ≤ a + 1
    · exact sym_one enc cf lt hS g cb blk off cap a m b d0 d w0 w eg hcmp R h2 h3 (by omega) c1 h5 h6 (by omega) H
    · by_cases c2 : b ≤ m + 1
      · exact sym_two enc cf lt hS g cb blk off cap a m b d0 d w0 w eg hcmp R h2 h3 (by omega) c2 (by omega) h6 (by omega) H
      · exact sym_more enc cf lt hS g cb blk off cap a m b d0 d w0 w N eg hcmp (sym_all enc cf lt hS g cb blk off cap d0 w0 eg hcmp R hsz N) h1 R h2 h3 (by omega) (by omega) h6 (by omega) H
theorem ins_any (enc : α → Value) (cf : α → α → Int) (lt : α → α → Bool) (hS : SWO lt) (g : Nat) (cb : Array Value) (blk off cap a b : Nat) (d0 d : Array α) (w0 w : World)
    (eg : ∀ args w, (callFunc g args).run Tryd.prog w = .ok (.enter g args) w) (hcmp : CmpLays1 Tryd.prog g cb enc cf blk off d0.size w0) (R : Row1 enc w0 blk off d0) (hs : d0.size = d.size) (S : SW enc w0 blk off d w) (hab : a ≤ b) (hb : b ≤ d.size) (hsz : d.size < 4611686018427387904) (hag : ∀ i j, a ≤ i → i < j → j < b → ltOf cf d[j]! d[i]! = lt d[j]! d[i]!) :
    Calls Tryd.prog 47 #[.slice (some ⟨blk, off, none⟩) d.size cap, .int .i64 a, .int .i64 b, .func (.func g) #[] cb] w fun e w' => e = .returned (.tuple #[]) ∧ ∃ d', PermIn a b d d' ∧ SortedIn lt a b d' ∧ SW enc w0 blk off d' w' := by
  have h := ins_s enc cf g cb blk off cap a b d0 d w0 w eg hcmp R hs S hab hb hsz
  obtain ⟨h1, h2⟩ := ins_holds hS d a b hab hb hag
  exact h.mono fun e w' ⟨he, hw⟩ => ⟨he, _, h1, h2, hw⟩
set_option maxHeartbeats 8000000 in
set_option maxRecDepth 1000000 in
theorem stable_s (enc : α → Value) (cf : α → α → Int) (lt : α → α → Bool) (hS : SWO lt) (g : Nat) (cb : Array Value) (blk off cap : Nat) (d : Array α) (w : World)
    (eg : ∀ args w, (callFunc g args).run Tryd.prog w = .ok (.enter g args) w) (hcmp : CmpLays1 Tryd.prog g cb enc cf blk off d.size w) (R : Row1 enc w blk off d) (hsz : d.size < 1152921504606846976) (hag : ∀ i j, i < j → j < d.size → ltOf cf d[j]! d[i]! = lt d[j]! d[i]!) :
    Calls Tryd.prog 43 #[.slice (some ⟨blk, off, none⟩) d.size cap, .int .i64 d.size, .func (.func g) #[] cb] w fun e w' => e = .returned (.tuple #[]) ∧ ∃ d', PermIn 0 d.size d d' ∧ SortedIn lt 0 d.size d' ∧ SW enc w blk off d' w' := by
  have S0 : Aside (SW enc w blk off d w) := SW.start R.hH
  have INS := Lib.hid (fun a b dk wk h1 h2 h3 h4 h5 => ins_any enc cf lt hS g cb blk off cap a b d dk w wk eg hcmp R h1 h2 h3 h4 (by omega) h5)
  have SYM := Lib.hid (fun a m b dk wk => sym_all enc cf lt hS g cb blk off cap d w eg hcmp R (by omega) (b - a) a m b dk wk (Nat.le_refl _))
  have HA := Lib.hid hag
  clear hag hcmp hS R
  obtain ⟨n, hn⟩ : ∃ n, n = d.size := ⟨_, rfl⟩
  rw [← hn] at hsz ⊢
  have HN := Lib.hid hn
  clear hn
  go_enter Tryd.func43, Tryd.ntmps43
  go_wp2
  go_loopg [7, 8] n (fun kx va vb wr => ∃ (a b : Nat) (dk : Array α), va = .int .i64 a ∧ vb = .int .i64 b ∧ b ≤ a + 20 ∧ a + 20 ≤ b ∧ a ≤ n ∧ n - a ≤ kx ∧ Aside (SW enc w blk off dk wr) ∧ Hid (In1 lt 20 d dk a))
  case atStart => exact ⟨0, 20, d, rfl, rfl, by omega, by omega, by omega, by omega, S0, Lib.hid (In1.start 20 d)⟩
  case round =>
    clear S0
    obtain ⟨a, b, dk, rfl, rfl, hb1, hb2, han, hkx, S1, HI⟩ := hrel
    by_cases hbn : b ≤ n
    · have zbn : (b : Int) ≤ (n : Int) := by omega
      have hcall := INS.out a b dk _ HI.out.perm.1.symm S1.out (by omega) (by rw [HI.out.perm.1, ← HN.out]; exact hbn) (HI.out.agree HA.out (by rw [← HN.out]; exact hbn))
      rw [HI.out.perm.1, ← HN.out] at hcall
      clear S1
      go_wp2_with fail
      refine hcall.mono ?_
      rintro e w1 ⟨rfl, d1, p1, s1, S2⟩
      have S3 : Aside (SW enc w blk off d1 w1) := S2
      have HI2 : Hid (In1 lt 20 d d1 b) := Lib.hid (by
        obtain rfl : b = a + 20 := by omega
        exact HI.out.step (by omega) (by rw [← HN.out]; exact hbn) p1 s1)
      clear hcall p1 s1 S2 HI
      obtain ⟨b3, hb3⟩ : ∃ q, q = b + 20 := ⟨_, rfl⟩
      have eb3 : (b : Int) + 20 = (b3 : Int) := by omega
      have hb4 : b3 ≤ b + 20 ∧ b + 20 ≤ b3 := by omega
      clear hb3
      go_wp2
      go_roundg (n - b)
      case measure => omega
      case rel => exact ⟨b, b3, d1, rfl, rfl, by omega, by omega, hbn, Nat.le_refl _, S3, HI2⟩
    · have zbn : ¬ (b : Int) ≤ (n : Int) := by omega
      have hcall := INS.out a n dk _ HI.out.perm.1.symm S1.out han (by rw [HI.out.perm.1, ← HN.out]; exact Nat.le_refl _) (HI.out.agree HA.out (by rw [← HN.out]; exact Nat.le_refl _))
      rw [HI.out.perm.1, ← HN.out] at hcall
      clear S1
      go_wp2_with fail
      refine hcall.mono ?_
      rintro e w1 ⟨rfl, d1, p1, s1, S2⟩
      have S3 : Aside (SW enc w blk off d1 w1) := S2
      have HD : Hid (Done lt 20 d d1) := Lib.hid (HI.out.last (by omega) (by rw [← HN.out]; exact han) (by rw [← HN.out]; omega) (by rw [← HN.out]; exact p1) (by rw [← HN.out]; exact s1))
      clear hcall p1 s1 S2 HI hkx zbn
      clear hbn han hb1 hb2
      go_wp2
      go_loopg [6, 7, 8, 9] n (fun kx v6 v7 v8 v9 wr => ∃ (B : Nat) (dk : Array α), v6 = .int .i64 B ∧ 20 ≤ B ∧ B ≤ n + n + 20 ∧ n - B ≤ kx ∧ Aside (SW enc w blk off dk wr) ∧ Hid (Done lt B d dk))
      case atStart => exact ⟨20, d1, rfl, by omega, by omega, by omega, S3, HD⟩
      case round =>
        clear S3 HD
        obtain ⟨B, dk, rfl, hB, hBn, hkx, S1, HD⟩ := hrel
        by_cases hlt : B < n
        · have zlt : (B : Int) < (n : Int) := by omega
          obtain ⟨B2, hB2⟩ : ∃ q, q = 2 * B := ⟨_, rfl⟩
          have eB2 : (2 : Int) * (B : Int) = (B2 : Int) := by omega
          have eB3 : (B : Int) * 2 = (B2 : Int) := by omega
          have hB4 : B2 ≤ B + B ∧ B + B ≤ B2 := by omega
          have HB2 := Lib.hid hB2
          clear hB2
          have HM : Hid (Mg lt B d dk 0) := Lib.hid HD.out.start
          clear HD
          go_wp2
          go_loopg [7, 8] n (fun kx va vb wr => ∃ (a b : Nat) (dk : Array α), va = .int .i64 a ∧ vb = .int .i64 b ∧ b ≤ a + B2 ∧ a + B2 ≤ b ∧ a ≤ n ∧ n - a ≤ kx ∧ Aside (SW enc w blk off dk wr) ∧ Hid (Mg lt B d dk a))
          case atStart => exact ⟨0, B2, dk, rfl, rfl, by omega, by omega, by omega, by omega, S1, HM⟩
          case round =>
            clear S1 HM
            obtain ⟨a, b, dk, rfl, rfl, hb1, hb2, han, hkx2, S1, HM⟩ := hrel
            obtain ⟨m, hm⟩ : ∃ q, q = a + B := ⟨_, rfl⟩
            have em : (a : Int) + (B : Int) = (m : Int) := by omega
            have hm1 : m ≤ a + B ∧ a + B ≤ m := by omega
            clear hm
            by_cases hbn : b ≤ n
            · have zbn : (b : Int) ≤ (n : Int) := by omega
              have hcall := SYM.out a m b dk _ HM.out.perm.1.symm S1.out (by omega) (by omega) (by rw [HM.out.perm.1, ← HN.out]; exact hbn) (by
                obtain rfl : m = a + B := by omega
                exact HM.out.halves (by omega) HA.out (by omega) (by omega) (by rw [← HN.out]; exact hbn))
              rw [HM.out.perm.1, ← HN.out] at hcall
              clear S1
              go_wp2_with fail
              refine hcall.mono ?_
              rintro e w1 ⟨rfl, d2, p1, s1, S2⟩
              have S3 : Aside (SW enc w blk off d2 w1) := S2
              have HM2 : Hid (Mg lt B d d2 b) := Lib.hid (by
                obtain rfl : b = a + 2 * B := by omega
                exact HM.out.step (by omega) (by rw [← HN.out]; exact hbn) p1 s1)
              clear hcall p1 s1 S2 HM
              obtain ⟨b3, hb3⟩ : ∃ q, q = b + B2 := ⟨_, rfl⟩
              have eb3 : (b : Int) + (B2 : Int) = (b3 : Int) := by omega
              have hb4 : b3 ≤ b + B2 ∧ b + B2 ≤ b3 := by omega
              clear hb3
              go_wp2
              go_roundg (n - b)
              case measure => omega
              case rel => exact ⟨b, b3, d2, rfl, rfl, by omega, by omega, hbn, Nat.le_refl _, S3, HM2⟩
            · have zbn : ¬ (b : Int) ≤ (n : Int) := by omega
              by_cases hmn : m < n
              · have zmn : (m : Int) < (n : Int) := by omega
                have hcall := SYM.out a m n dk _ HM.out.perm.1.symm S1.out (by omega) hmn (by rw [HM.out.perm.1, ← HN.out]; exact Nat.le_refl _) (by
                  obtain rfl : m = a + B := by omega
                  exact HM.out.halves (by omega) HA.out (by omega) (by omega) (by rw [← HN.out]; exact Nat.le_refl _))
                rw [HM.out.perm.1, ← HN.out] at hcall
                clear S1
                go_wp2_with fail
                refine hcall.mono ?_
                rintro e w1 ⟨rfl, d2, p1, s1, S2⟩
                have S3 : Aside (SW enc w blk off d2 w1) := S2
                have HD2 : Hid (Done lt B2 d d2) := Lib.hid (by
                  rw [HB2.out]
                  exact HM.out.last (by omega) (by rw [← HN.out]; omega) (by rw [← HN.out]; exact p1) (by rw [← HN.out]; exact s1))
                clear hcall p1 s1 S2 HM
                go_wp2
                go_roundg (n - B2)
                case measure => omega
                case rel => exact ⟨B2, d2, rfl, by omega, by omega, Nat.le_refl _, S3, HD2⟩
              · have zmn : ¬ (m : Int) < (n : Int) := by omega
                have HD2 : Hid (Done lt B2 d dk) := Lib.hid (by
                  rw [HB2.out]
                  exact HM.out.none (by omega) (by rw [← HN.out]; omega))
                clear HM
                go_wp2
                go_roundg (n - B2)
                case measure => omega
                case rel => exact ⟨B2, dk, rfl, by omega, by omega, Nat.le_refl _, S1, HD2⟩
        · have zlt : ¬ (B : Int) < (n : Int) := by omega
          have HF : Hid (PermIn 0 n d dk ∧ SortedIn lt 0 n dk) := Lib.hid (by rw [HN.out]; exact ⟨HD.out.perm, HD.out.all (by rw [← HN.out]; omega)⟩)
          clear HD
          go_wp2
          go_end0
          exact ⟨rfl, dk, HF.out.1, HF.out.2, S1.out⟩
set_option maxHeartbeats 1000000 in
/-- slices.SortStableFunc: the row holds a permutation of what it held, sorted by an order that says what the test says of any two in the order of their places. -/
theorem sort_s (enc : α → Value) (cf : α → α → Int) (lt : α → α → Bool) (hS : SWO lt) (g : Nat) (cb : Array Value) (blk off cap : Nat) (d : Array α) (w : World)
    (eg : ∀ args w, (callFunc g args).run Tryd.prog w = .ok (.enter g args) w) (hcmp : CmpLays1 Tryd.prog g cb enc cf blk off d.size w) (R : Row1 enc w blk off d) (hsz : d.size < 1152921504606846976) (hag : ∀ i j, i < j → j < d.size → ltOf cf d[j]! d[i]! = lt d[j]! d[i]!) :
    Calls Tryd.prog 36 #[.slice (some ⟨blk, off, none⟩) d.size cap, .func (.func g) #[] cb] w fun e w' => e = .returned (.tuple #[]) ∧ ∃ d', PermIn 0 d.size d d' ∧ SortedIn lt 0 d.size d' ∧ SW enc w blk off d' w' := by
  have hc := stable_s enc cf lt hS g cb blk off cap d w eg hcmp R hsz hag
  clear hcmp hag R
  go_enter Tryd.func36, Tryd.ntmps36
  go_wp2_with fail
  refine hc.mono ?_
  rintro e w1 ⟨rfl, d1, p1, s1, S2⟩
  go_wp2
  go_end0
  exact ⟨rfl, d1, p1, s1, S2⟩
end Stb
end Go.Proofs.YtdhlmflbefnekaaDoor
