/- A thing is taken out of a row of things: the library's Delete of one element. -/
import Derived.Test.YtnkababhgloclaaRowsB
import Derived.Deep.RegionLaw
import Derived.Lib.SliceRun
namespace Go.Proofs.Ytnkababhgloclaa
open Go.RowKit Go.ChangeShapes Go.Lib
def zTh : List Value := [.int .i64 0, .string .empty, .nilFunc]
set_option maxRecDepth 100000 in
theorem run_clear_th (w : World) (ty : TypeId) (b o c : Nat) (hc : ∀ j, j < 3 → (w.cell? ⟨b, o + j, none⟩).isSome = true) (hf : ∀ j, j < 3 → w.frozen? ⟨b, o + j, none⟩ = false) :
    (Builtin.clear_ #[87] ty #[.slice (some ⟨b, o, none⟩) 1 c]).run Try.prog w = .ok (.tuple #[]) (w.setCells b o zTh) := by
  have hst := run_storeCells_cells (P := Try.prog) b o zTh 0 w (by simpa [zTh] using hc) (by simpa [zTh] using hf) (by intro v hv; simp only [zTh, List.mem_cons, List.not_mem_nil, or_false] at hv; rcases hv with rfl | rfl | rfl <;> rfl)
  simp only [Nat.add_zero] at hst
  have hzv : ∀ w : World, (zeroValue 101).run Try.prog w = .ok (.agg #[.int .i64 0, .string .empty, .nilFunc]) w := fun _ => rfl
  have hzc : (Builtin.zeroCells (Value.agg #[.int .i64 0, .string .empty, .nilFunc]).cells 1).toList = zTh := by kernel_rfl
  simp [Builtin.clear_, run_underlying Try.underlying87, hzv, hzc, hst]
set_option maxHeartbeats 8000000 in
set_option maxRecDepth 100000 in
theorem delete_any (B : Nat) (L : List Th) (a : Option Addr) (c i : Nat) (w : World) (ho : w.ownsRow B 101 3 (.slice a L.length c) L.length (hc L)) (hi : i < L.length) (hl : L.length ≤ 256) :
    Calls Try.prog 65 #[.slice a L.length c, .int .i64 i, .int .i64 (i + 1)] w fun e w' => ∃ g, a = some ⟨g, 0, none⟩ ∧ e = .returned (.slice (some ⟨g, 0, none⟩) (L.length - 1) c) ∧ w'.ownsRow B 101 3 (.slice (some ⟨g, 0, none⟩) (L.length - 1) c) (L.eraseIdx i).length (hc (L.eraseIdx i)) ∧ w.grownBy w' (some g) := by
  obtain ⟨ir, hir, hz0, hz1, hz2⟩ := info_parts infoT
  obtain ⟨g, cap', hform, hgB, hgl⟩ := ho.form (by omega)
  injection hform with e1 _ e3
  subst e1 e3
  have hcap := own_cap ho
  obtain ⟨n, hn⟩ : ∃ n, L.length = n := ⟨_, rfl⟩
  rw [hn] at ho hi hl hcap ⊢
  obtain ⟨m, hm⟩ : ∃ m, n = i + 1 + m := ⟨n - (i + 1), by omega⟩
  subst hm
  obtain ⟨news, hnews⟩ : ∃ news, news = (hc L).drop ((i + 1) * 3) := ⟨_, rfl⟩
  have hlen : news.length = m * 3 := by rw [hnews, List.length_drop, hc_len, hn]; omega
  have HO := Lib.hid ho
  obtain ⟨A, hA, hsrc⟩ : ∃ A : Addr, (if c = i + 1 then some (⟨g, 0, none⟩ : Addr) else some ⟨g, (i + 1) * 3, none⟩) = some A ∧ Hid (∀ t u, news[t]? = some u → w.drew.cell? (A.add t) = some u) := by
    by_cases h : c = i + 1
    · refine ⟨⟨g, 0, none⟩, by simp [h], Lib.hid (fun t u hu => ?_)⟩
      have h0 : news.length = 0 := by rw [hlen]; omega
      rw [List.length_eq_zero_iff.1 h0] at hu
      simp at hu
    · refine ⟨⟨g, (i + 1) * 3, none⟩, by simp [h], Lib.hid (fun t u hu => ?_)⟩
      have ht : t < m * 3 := by
        have := (List.getElem?_eq_some_iff.1 hu).1
        rwa [hlen] at this
      rw [hnews, List.getElem?_drop] at hu
      have hadd : (⟨g, (i + 1) * 3, none⟩ : Addr).add t = ⟨g, (i + 1) * 3 + t, none⟩ := by unfold Addr.add; split <;> simp_all
      rw [hadd]
      have := HO.out.cellAt ((i + 1) * 3 + t) (by omega)
      exact this.trans hu
  have s2 : Hid (∀ u ∈ news, u.oneCell' = true) := Lib.hid (fun u hu => hc_one L u (by rw [hnews] at hu; exact List.mem_of_mem_drop hu))
  have s3 : Hid (∀ t, t < news.length → (w.drew.cell? ⟨g, 0 + i * 3 + t, none⟩).isSome = true ∧ w.drew.frozen? ⟨g, 0 + i * 3 + t, none⟩ = false) := Lib.hid (fun t ht => by
    rw [hlen] at ht
    rw [Nat.zero_add]
    refine ⟨?_, HO.out.frozenAt _⟩
    have := HO.out.cellAt (i * 3 + t) (by omega)
    rw [show w.drew.cell? ⟨g, i * 3 + t, none⟩ = w.cell? ⟨g, i * 3 + t, none⟩ from rfl, this]
    exact Option.isSome_iff_exists.2 ⟨_, List.getElem?_eq_getElem (by rw [hc_len, hn]; omega)⟩)
  have OD : w.drew.ownsRow B 101 3 (.slice (some ⟨g, 0, none⟩) (i + 1 + m) c) (i + 1 + m) (hc L) := own_below HO.out ((Below.refl _ w).drew)
  obtain ⟨W1, hW1⟩ : ∃ W1, W1 = w.drew.setCells g (0 + i * 3) news := ⟨_, rfl⟩
  have O1 := own_lay news (i * 3) OD (by omega)
  rw [show i * 3 = 0 + i * 3 by omega, ← hW1] at O1
  have hcl : ∀ ty, (Builtin.clear_ #[87] ty #[.slice (some ⟨g, (i + m) * 3, none⟩) 1 (c - (i + m))]).run Try.prog W1 = .ok (.tuple #[]) (W1.setCells g ((i + m) * 3) zTh) := fun ty => run_clear_th W1 ty g ((i + m) * 3) _ (fun j hj => by
      rw [O1.1.cellAt ((i + m) * 3 + j) (by omega)]
      exact Option.isSome_iff_exists.2 ⟨_, List.getElem?_eq_getElem (by rw [O1.1.1]; omega)⟩) (fun j _ => O1.1.frozenAt _)
  have O2 := own_lay zTh ((i + m) * 3) O1.1 (by simp [zTh]; omega)
  have FIN : Hid ((W1.setCells g ((i + m) * 3) zTh).ownsRow B 101 3 (.slice (some ⟨g, 0, none⟩) (i + 1 + m - 1) c) (L.eraseIdx i).length (hc (L.eraseIdx i)) ∧ w.grownBy (W1.setCells g ((i + m) * 3) zTh) (some g)) := Lib.hid (by
    refine ⟨?_, ?_⟩
    · have hle : (L.eraseIdx i).length = i + 1 + m - 1 := by rw [List.length_eraseIdx_of_lt (by omega), hn]
      have hA : ((hc L).take (0 + i * 3)).length = i * 3 := by rw [List.length_take, hc_len, hn]; omega
      have hk : (i + 1 + m - 1) * 3 = (i + m) * 3 := by omega
      have hX : (((hc L).take (0 + i * 3) ++ news ++ (hc L).drop (0 + i * 3 + news.length)).take ((i + m) * 3)) = (hc L).take (0 + i * 3) ++ news := List.take_left' (by rw [List.length_append, hA, hlen]; omega)
      have := own_take O2.1 (n' := i + 1 + m - 1) (by omega)
      rw [hX, hk, List.append_assoc, List.take_left' (by rw [List.length_append, hA, hlen]; omega)] at this
      rw [hle, hc_erase, ← hnews, ← Nat.zero_add (i * 3)]
      exact this
    · exact ((⟨rfl, rfl, rfl, Nat.le_refl _, fun _ _ _ => rfl⟩ : w.grownBy w.drew (some g)).trans O1.2).trans O2.2)
  have HW : Hid (W1 = w.drew.setCells g (0 + i * 3) news) := Lib.hid hW1
  have hic1 : (0 : Int) ≤ (i : Int) := by omega
  have hic2 : (i : Int) < ((i + 1 + m : Nat) : Int) := by omega
  have hnc : ((i + 1 + m : Nat) : Int) ≤ (c : Int) := by omega
  have hic : i ≤ c := by omega
  have hjc : i + 1 ≤ c := by omega
  have hj1 : (0 : Int) ≤ (i : Int) + 1 ∧ (i : Int) + 1 ≤ (i : Int) + 1 + (m : Int) := by omega
  have hj2 : (0 : Int) ≤ (i : Int) + (m : Int) ∧ (i : Int) + (m : Int) ≤ (i : Int) + 1 + (m : Int) := by omega
  have hj3 : (0 : Int) ≤ (i : Int) + 1 + (m : Int) ∧ (i : Int) + 1 + (m : Int) ≤ (c : Int) := by omega
  clear ho O1 O2 OD hW1 hnews
  go_enter Try.func65, Try.ntmps65
  go_wp2_with fail
  go_region_law (refine step_append_room rfl (.tmp 22) (.tmp 25) 87 rfl 101 ir 3 Try.underlying87 hir hz1 g 0 i c (by simp [Act.eval, Act.put]) A m (c - (i + 1)) news (by simp [Act.eval, Act.put]) hlen hsrc.out s2.out (by omega) s3.out ?_; rw [← HW.out])
  have hd1 : i + 1 + m - (i + m) = 1 := by omega
  have hd2 : ¬ c = i + m := by omega
  have hd3 : i + m ≤ c := by omega
  have hd4 : i + 1 + m ≤ c := by omega
  have hd5 : (i : Int) + (m : Int) ≤ (c : Int) := by omega
  go_wp2_with fail
  go_ret
  exact ⟨g, rfl, by rw [show i + 1 + m - 1 = i + m by omega]; rfl, FIN.out.1, FIN.out.2⟩
end Go.Proofs.Ytnkababhgloclaa
