/-
  The draws of two grids for GridsMend; what the laws ask of mended grids. No condition.
-/
import Derived.Test.YtebhbcjioolpeabSame
import Derived.Test.YtebhbcjioolpeabMend2
namespace Go.Proofs.Ytebhbcjioolpeab
open Go.RowKit Go.Deep Go.Sort

theorem GridOk.set_cell {g : Rows} (h : GridOk g) {r c : Nat} {x : Int} (hr : r < g.length) (hx : 0 ≤ x ∧ x ≤ 99) : RowOk (colsOf g) ((g[r]?.getD []).set c x) := by
  obtain ⟨h1, h2⟩ := h.2.2.2.2 r hr
  refine ⟨by rw [List.length_set]; exact h1, fun j hj => ?_⟩
  rw [List.length_set] at hj
  by_cases e : j = c
  · subst e; rw [setI_get hj, if_pos rfl]; exact hx
  · rw [List.getElem?_set_ne (by omega)]; exact h2 j hj

theorem half_ok {ga gb : Rows} (h : Same ga gb) {k : Nat} (hk : k < ga.length) : 0 ≤ halfOf ga gb k ∧ halfOf ga gb k ≤ 99 := by
  have := half_small h k hk
  unfold halfOf
  rw [Int.tdiv_eq_ediv_of_nonneg this.1]
  omega

theorem mendA_cols {ga gb : Rows} (h : Same ga gb) : colsOf (mendA ga gb ga.length) = colsOf ga := by
  unfold colsOf
  rw [mendA_get _ _ _ _ h.1.1]
  split <;> simp
theorem mendB_cols {ga gb : Rows} (h : Same ga gb) : colsOf (mendB ga gb ga.length) = colsOf gb := by
  unfold colsOf
  rw [mendB_get _ _ _ _ (by have := h.2.2; have := h.1.1; omega)]
  split <;> simp
/-- mended grids are two grids of as many rows -/
theorem mend_same {ga gb : Rows} (h : Same ga gb) : Same (mendA ga gb ga.length) (mendB ga gb ga.length) := by
  refine ⟨⟨by rw [mendA_len]; exact h.1.1, by rw [mendA_len]; exact h.1.2.1, by rw [mendA_cols h]; exact h.1.2.2.1, by rw [mendA_cols h]; exact h.1.2.2.2.1, fun i hi => ?_⟩, ⟨by rw [mendB_len]; exact h.2.1.1, by rw [mendB_len]; exact h.2.1.2.1, by rw [mendB_cols h]; exact h.2.1.2.2.1, by rw [mendB_cols h]; exact h.2.1.2.2.2.1, fun i hi => ?_⟩, by rw [mendA_len, mendB_len]; exact h.2.2⟩
  · rw [mendA_len] at hi
    rw [mendA_cols h, mendA_get _ _ _ _ hi, if_pos hi]
    exact h.1.set_cell hi (half_ok h hi)
  · rw [mendB_len] at hi
    have hi2 : i < ga.length := by have := h.2.2; omega
    rw [mendB_cols h, mendB_get _ _ _ _ hi, if_pos hi2]
    exact h.2.1.set_cell hi (half_ok h hi2)
theorem gap_zero {ga gb : Rows} (h : ∀ k, k < ga.length → lastOf ga k = firstOf gb k) : ∀ k, k ≤ ga.length → gapUpTo ga gb k = 0 := by
  intro k
  induction k with
  | zero => intro _; rfl
  | succ k ih =>
    intro hk
    rw [gapUpTo, ih (by omega), h k (by omega)]
    unfold aparts
    omega
/-- mended grids agree -/
theorem mend_gap {ga gb : Rows} (h : Same ga gb) : gapOf (mendA ga gb ga.length) (mendB ga gb ga.length) = 0 := by
  rw [gap_val (mend_same h)]
  refine gap_zero (fun k hk => ?_) _ (Nat.le_refl _)
  rw [mendA_len] at hk
  have hkb : k < gb.length := by have := h.2.2; omega
  have hla := (h.1.2.2.2.2 k hk).1
  have hlb := (h.2.1.2.2.2.2 k hkb).1
  have hca := h.1.2.2.1
  have hcb := h.2.1.2.2.1
  unfold lastOf firstOf
  rw [mendA_cols h, mendA_get _ _ _ _ hk, if_pos hk, mendB_get _ _ _ _ hkb, if_pos hk, setI_get (by omega), if_pos rfl, setI_get (by omega), if_pos rfl]
end Go.Proofs.Ytebhbcjioolpeab
