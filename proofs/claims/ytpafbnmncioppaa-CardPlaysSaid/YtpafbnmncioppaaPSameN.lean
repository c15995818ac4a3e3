/- Notes that are the same: the law's sameNotes. -/
import Derived.Test.YtpafbnmncioppaaPNilC
import Derived.BigQuiet
import Derived.Deep.QuietTactic
namespace Go.Proofs.Ytpafbnmncioppaa
open Go.RowKit Go.ChangeShapes Nm
/-- A slice value that reads as these notes. -/
def NotesR (w : World) (v : Value) (ns : List Nt) : Prop := ∃ a cap, v = .slice a ns.length cap ∧ ∀ i (h : i < ns.length), ∃ b off, a = some ⟨b, off, none⟩ ∧ ∀ (j : Nat) (u : Value), ns[i].cells[j]? = some u → w.cell? ⟨b, off + i * 4 + j, none⟩ = some u
theorem NotesR.below {w w' : World} {v : Value} {ns : List Nt} (h : NotesR w v ns) (hb : Below w.heap.size w w') : NotesR w' v ns := by
  obtain ⟨a, cap, e, h1⟩ := h
  refine ⟨a, cap, e, fun i hi => ?_⟩
  obtain ⟨b, off, ha, h2⟩ := h1 i hi
  refine ⟨b, off, ha, fun j u hu => ?_⟩
  have h3 := h2 j u hu
  exact (hb.cell (p := ⟨b, off + i * 4 + j, none⟩) (World.block_lt_of_cell? w _ h3)).trans h3
theorem notes_own {w : World} {B : Nat} {v : Value} {ns : List Nt} (h : w.ownsRow B 80 4 v ns.length (nc ns)) : NotesR w v ns := by
  have h' := h
  rcases h.2 with ⟨rfl, h0⟩ | ⟨g, cap, cur, rfl, _⟩
  · exact ⟨none, 0, by rw [h0], fun i hi => by omega⟩
  · refine ⟨some ⟨g, 0, none⟩, cap, rfl, fun i hi => ⟨g, 0, rfl, fun j u hj => ?_⟩⟩
    have hj4 := ncells_lt hj
    rw [Nat.zero_add, h'.cellAt (i * 4 + j) (by omega)]
    exact nc_at ns i hi j u hj
set_option maxHeartbeats 8000000 in
set_option maxRecDepth 100000 in
theorem sameNotes_any (v u : Value) (ns : List Nt) (w : World) (hv : NotesR w v ns) (hu : NotesR w u ns) (hn : ns.length ≤ 256) : Calls Try.prog 43 #[v, u] w (GivesB true w) := by
  obtain ⟨a, c, rfl, hx⟩ := hv
  obtain ⟨a', c', rfl, hy⟩ := hu
  have HX := Lib.hid hx
  have HY := Lib.hid hy
  clear hx hy
  go_enter Try.func43, Try.ntmps43
  go_wp2_with fail
  go_loopg [5] ns.length (fun r vi wr => ∃ k : Nat, k ≤ ns.length ∧ r = ns.length - k ∧ vi = .int .i64 k ∧ Hid (∃ d, wr = w.drewN d))
  case atStart => exact ⟨0, by omega, by omega, rfl, Lib.hid ⟨0, rfl⟩⟩
  case round =>
    obtain ⟨k, hk, hr, rfl, hq⟩ := hrel
    have HR := Lib.hid hr
    obtain ⟨d, hd⟩ := hq.out
    subst hd
    clear hr hq
    by_cases hlt : k < ns.length
    · obtain ⟨b, off, ha, hc⟩ := HX.out k hlt
      obtain ⟨b', off', ha', hc'⟩ := HY.out k hlt
      subst ha ha'
      obtain ⟨nt, hnt⟩ : ∃ nt, ns[k]'hlt = nt := ⟨_, rfl⟩
      simp only [hnt] at hc hc'
      obtain ⟨p, i, s, st⟩ := nt
      have g0 : w.cell? ⟨b, off + k * 4, none⟩ = some (.string p) := hc 0 _ rfl
      have g1 : w.cell? ⟨b, off + k * 4 + 1, none⟩ = some (.int .i64 i) := hc 1 _ rfl
      have g2 : w.cell? ⟨b, off + k * 4 + 2, none⟩ = some (.int .i64 s) := hc 2 _ rfl
      have g3 : w.cell? ⟨b, off + k * 4 + 3, none⟩ = some (.int .i64 st) := hc 3 _ rfl
      have h0 : w.cell? ⟨b', off' + k * 4, none⟩ = some (.string p) := hc' 0 _ rfl
      have h1 : w.cell? ⟨b', off' + k * 4 + 1, none⟩ = some (.int .i64 i) := hc' 1 _ rfl
      have h2 : w.cell? ⟨b', off' + k * 4 + 2, none⟩ = some (.int .i64 s) := hc' 2 _ rfl
      have h3 : w.cell? ⟨b', off' + k * 4 + 3, none⟩ = some (.int .i64 st) := hc' 3 _ rfl
      clear hc hc' hnt
      have hkc1 : (0 : Int) ≤ (k : Int) := by omega
      have hkc2 : (k : Int) < (ns.length : Int) := by omega
      have ww6 : IntKind.i64.wrap (k : Int) = (k : Int) := by rw [IntKind.wrap_i64]; omega
      have e1 : (p.toList == p.toList) = true := by simp
      have e2 : decide (i = i) = true := by simp
      have e3 : decide (s = s) = true := by simp
      have e4 : decide (st = st) = true := by simp
      go_wp2_with fail
      go_quiet (fail)
      go_wp2_with fail
      go_roundg (ns.length - (k + 1))
      case measure => rw [HR.out]; omega
      case rel => exact ⟨k + 1, by omega, rfl, by first | rfl | simp, Lib.hid ⟨_, rfl⟩⟩
    · obtain rfl : k = ns.length := by omega
      go_wp2_with fail
      go_ret
      exact ⟨rfl, below_drewN (Below.refl _ _) d⟩
end Go.Proofs.Ytpafbnmncioppaa
