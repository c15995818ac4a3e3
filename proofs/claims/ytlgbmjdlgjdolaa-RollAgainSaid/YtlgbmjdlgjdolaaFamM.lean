/- Rows that are turned place by place, among others. -/
import Derived.Test.YtlgbmjdlgjdolaaFamL
import Derived.IntWalk
namespace Go.Proofs.Ytlgbmjdlgjdolaa
open Go.RowKit Go.ChangeShapes
def mix (c G : List Int) (i : Nat) : List Int := G.take i ++ c.drop i
theorem mix_len (c G : List Int) (h : G.length = c.length) (i : Nat) (hi : i ≤ c.length) : (mix c G i).length = c.length := by simp [mix]; omega
theorem mix_at (c G : List Int) (h : G.length = c.length) (i j : Nat) (hi : i ≤ c.length) : nth (mix c G i) j = if j < i then nth G j else nth c j := by
  unfold mix nth
  simp only [List.getD_eq_getElem?_getD, List.getElem?_append, List.length_take, List.getElem?_take, List.getElem?_drop]
  by_cases hj : j < i
  · rw [if_pos (by omega), if_pos hj, if_pos hj]
  · rw [if_neg (by omega), if_neg hj]
    congr 3
    omega
theorem mix_zero (c G : List Int) : mix c G 0 = c := by simp [mix]
theorem mix_all (c G : List Int) (h : G.length = c.length) : mix c G c.length = G := by
  simp only [mix, List.drop_length, List.append_nil]
  rw [← h, List.take_length]
theorem mix_set (c G : List Int) (h : G.length = c.length) (i : Nat) (hi : i < c.length) : (mix c G i).set i (nth G i) = mix c G (i + 1) := by
  unfold mix
  rw [List.set_append_right _ _ (by simp; omega), List.take_succ_eq_append_getElem (by omega), List.append_assoc]
  congr 1
  rw [show i - (List.take i G).length = 0 by simp; omega, List.drop_eq_getElem_cons hi, List.set_cons_zero, nth_eq (show i < G.length by omega)]
  rfl
/-- What the numbers of a table, of a sum are turned to. -/
def tw (z : Int) : Int := wrap64 (wrap64 (3 * z) + 1)
def lw (z : Int) : Int := wrap64 (z - 7)
/-- The tables' rows: the first k turned, of the k-th the first j numbers. -/
def Zk (rs : List (Int × List Int)) (k j i : Nat) : List Int := if i < k then (rO rs i).map tw else if i = k then mix (rO rs i) ((rO rs i).map tw) j else rO rs i
theorem zk_len (rs : List (Int × List Int)) (k j i : Nat) (hj : j ≤ (rO rs k).length) : (Zk rs k j i).length = (rO rs i).length := by
  unfold Zk
  split
  · simp
  · split
    · rename_i h; subst h; exact mix_len _ _ (by simp) _ hj
    · rfl
theorem zk_zero (rs : List (Int × List Int)) (i : Nat) : Zk rs 0 0 i = rO rs i := by
  unfold Zk
  rw [if_neg (by omega)]
  split
  · exact mix_zero _ _
  · rfl
theorem zk_here (rs : List (Int × List Int)) (k j : Nat) : Zk rs k j k = mix (rO rs k) ((rO rs k).map tw) j := by
  unfold Zk
  rw [if_neg (by omega), if_pos rfl]
theorem zk_next (rs : List (Int × List Int)) (k : Nat) : Zk rs k (rO rs k).length = Zk rs (k + 1) 0 := by
  funext i
  unfold Zk
  by_cases h : i < k
  · rw [if_pos h, if_pos (by omega)]
  · rw [if_neg h]
    by_cases h2 : i = k
    · subst h2
      rw [if_pos rfl, if_pos (by omega)]
      exact mix_all _ _ (by simp)
    · rw [if_neg h2, if_neg (by omega)]
      split
      · rw [mix_zero]
      · rfl
theorem zk_far (rs : List (Int × List Int)) (k j j' i : Nat) (h : i ≠ k) : Zk rs k j i = Zk rs k j' i := by
  unfold Zk
  rw [if_neg h, if_neg h]
def rows (V : Nat → Value) (Z : Nat → List Int) (n : Nat) : List (Value × List Int) := (List.range n).map fun i => (V i, Z i)
theorem rows_len (V : Nat → Value) (Z : Nat → List Int) (n : Nat) : (rows V Z n).length = n := by simp [rows]
theorem rows_mem {V : Nat → Value} {Z : Nat → List Int} {n i : Nat} (h : i < n) : (V i, Z i) ∈ rows V Z n := List.mem_map.2 ⟨i, List.mem_range.2 h, rfl⟩
theorem rows_set (V : Nat → Value) (Z Z' : Nat → List Int) (n k : Nat) (hk : k < n) (h : ∀ i, i ≠ k → Z i = Z' i) : (rows V Z n).set k (V k, Z' k) = rows V Z' n := by
  apply List.ext_getElem (by simp [rows])
  intro i h1 h2
  rw [List.getElem_set]
  by_cases c : k = i
  · subst c; simp [rows]
  · rw [if_neg c]
    simp [rows, h i (Ne.symm c)]
def tabl (f : Nat → Int) (V : Nat → Value) (Z : Nat → List Int) (n : Nat) : List (Int × Value × List Int) := (List.range n).map fun i => (f i, V i, Z i)
theorem tabl_len (f : Nat → Int) (V : Nat → Value) (Z : Nat → List Int) (n : Nat) : (tabl f V Z n).length = n := by simp [tabl]
theorem tabl_rows (f : Nat → Int) (V : Nat → Value) (Z : Nat → List Int) (n : Nat) : ((tabl f V Z n).map fun r => r.2) = rows V Z n := by simp [tabl, rows]
theorem tcells_map (f : Nat → Int) (V : Nat → Value) (Z Z' : Nat → List Int) : ∀ l : List Nat, tcells (l.map fun i => (f i, V i, Z i)) = tcells (l.map fun i => (f i, V i, Z' i))
  | [] => rfl
  | i :: l => by simp only [List.map_cons, tcells]; rw [tcells_map f V Z Z' l]
theorem tabl_cells (f : Nat → Int) (V : Nat → Value) (Z Z' : Nat → List Int) (n : Nat) : tcells (tabl f V Z n) = tcells (tabl f V Z' n) := tcells_map f V Z Z' _
theorem tabl_at (f : Nat → Int) (V : Nat → Value) (Z : Nat → List Int) {n i : Nat} (h : i < n) : (tcells (tabl f V Z n))[i * 2]? = some (.int .i64 (f i)) ∧ (tcells (tabl f V Z n))[i * 2 + 1]? = some (V i) := by
  obtain ⟨h1, h2⟩ := tcells_at (tabl f V Z n) i (by rw [tabl_len]; exact h)
  rw [h1, h2]
  simp [tabl]
theorem tabl_of (l : List (Int × Value × List Int)) : l = tabl (rF (said l)) (fun i => (l.getD i (0, .bool false, [])).2.1) (rO (said l)) l.length := by
  apply List.ext_getElem (by simp [tabl])
  intro i h1 h2
  simp [tabl, said_f h1, said_o h1, List.getD, h1]
def saidF (f : Nat → Int) (Z : Nat → List Int) (n : Nat) : List (Int × List Int) := (List.range n).map fun i => (f i, Z i)
theorem saidF_tabl (f : Nat → Int) (V : Nat → Value) (Z : Nat → List Int) (n : Nat) : said (tabl f V Z n) = saidF f Z n := by simp [said, saidF, tabl]
theorem saidF_len (f : Nat → Int) (Z : Nat → List Int) (n : Nat) : (saidF f Z n).length = n := by simp [saidF]
theorem saidF_succ (f : Nat → Int) (Z : Nat → List Int) (n : Nat) : saidF f Z (n + 1) = saidF f Z n ++ [(f n, Z n)] := by simp [saidF, List.range_succ]
theorem saidF_congr {f : Nat → Int} {Z Z' : Nat → List Int} {n : Nat} (h : ∀ i, i < n → Z i = Z' i) : saidF f Z n = saidF f Z' n := by
  unfold saidF
  apply List.map_congr_left
  intro i hi
  rw [h i (List.mem_range.1 hi)]
theorem saidF_o {f : Nat → Int} {Z : Nat → List Int} {n k : Nat} (h : k < n) : rO (saidF f Z n) k = Z k := by simp [rO, saidF, List.getD, h]
theorem zk_done (rs : List (Int × List Int)) (n i : Nat) (h : i < n) : Zk rs n 0 i = (rO rs i).map tw := by
  unfold Zk
  rw [if_pos h]
theorem Fam.left {w : World} {B : Nat} {e : TypeId} {fs gs : List (Value × List Int)} (h : Fam w B e (fs ++ gs)) : Fam w B e fs := by
  refine ⟨fun f hf => h.1 f (List.mem_append_left _ hf), ?_⟩
  have := h.2
  rw [List.map_append, List.nodup_append] at this
  exact this.1
theorem Fam.right {w : World} {B : Nat} {e : TypeId} {fs gs : List (Value × List Int)} (h : Fam w B e (fs ++ gs)) : Fam w B e gs := by
  refine ⟨fun f hf => h.1 f (List.mem_append_right _ hf), ?_⟩
  have := h.2
  rw [List.map_append, List.nodup_append] at this
  exact this.2.1
theorem Fam.tail {w : World} {B : Nat} {e : TypeId} {f : Value × List Int} {gs : List (Value × List Int)} (h : Fam w B e (f :: gs)) : Fam w B e gs := Fam.right (fs := [f]) h
theorem Fam.below {w w' : World} {B : Nat} {e : TypeId} {fs : List (Value × List Int)} (h : Fam w B e fs) (hb : Below w.heap.size w w') : Fam w' B e fs := h.to fun _ _ _ _ h => own_below h hb
/-- One number stored in one of the rows. -/
theorem Fam.set {w : World} {B : Nat} {e : TypeId} {fs : List (Value × List Int)} (h : Fam w B e fs) {p : Nat} {g c : Nat} {zs : List Int} (hp : fs[p]? = some (.slice (some ⟨g, 0, none⟩) zs.length c, zs)) (j : Nat) (x : Int) :
    Fam (w.setCell ⟨g, j, none⟩ (.int .i64 x)) B e (fs.set p (.slice (some ⟨g, 0, none⟩) zs.length c, zs.set j x)) := by
  obtain ⟨hpl, hpe⟩ := List.getElem?_eq_some_iff.1 hp
  have hm : (fs.set p (.slice (some ⟨g, 0, none⟩) zs.length c, zs.set j x)).map (fun f => f.1.ownBlock) = fs.map fun f => f.1.ownBlock := by
    apply List.ext_getElem (by simp)
    intro i h1 h2
    simp only [List.getElem_map, List.getElem_set]
    split
    · rename_i hh; subst hh; rw [hpe]
    · rfl
  refine ⟨fun f hf => ?_, by rw [hm]; exact h.2⟩
  obtain ⟨i, hi, rfl⟩ := List.getElem_of_mem hf
  rw [List.length_set] at hi
  rw [List.getElem_set]
  by_cases c : p = i
  · subst c
    rw [if_pos rfl]
    obtain ⟨h1, h2⟩ := h.1 fs[p] (List.getElem_mem hi)
    rw [hpe] at h1 h2
    refine ⟨?_, h2⟩
    have := (h1.stored j (.int .i64 x)).1
    rw [rc_set] at this
    simpa using this
  · rw [if_neg c]
    obtain ⟨h1, h2⟩ := h.1 fs[i] (List.getElem_mem hi)
    refine ⟨ownsRow_setCell_other h1 (a := ⟨g, j, none⟩) (fun e => ?_) _, h2⟩
    have hn := List.pairwise_iff_getElem.1 h.2
    have he : (fs.map fun f => f.1.ownBlock)[p]'(by simpa using hpl) = (fs.map fun f => f.1.ownBlock)[i]'(by simpa using hi) := by
      simp only [List.getElem_map]
      rw [e, hpe]
      rfl
    rcases Nat.lt_or_gt_of_ne c with c | c
    · exact hn p i (by simpa using hpl) (by simpa using hi) c he
    · exact hn i p (by simpa using hi) (by simpa using hpl) c he.symm
theorem own_form {w : World} {B : Nat} {e : TypeId} {v : Value} {n : Nat} {xs : List Value} (h : w.ownsRow B e 1 v n xs) (hn : v.ownBlock ≠ none) : ∃ g c, v = .slice (some ⟨g, 0, none⟩) n c ∧ B ≤ g ∧ g < w.heap.size := by
  rcases h.2 with ⟨rfl, _⟩ | ⟨g, cap, cur, rfl, _⟩
  · exact (hn rfl).elim
  · exact ⟨g, cap, rfl, h.lt g rfl⟩
end Go.Proofs.Ytlgbmjdlgjdolaa
