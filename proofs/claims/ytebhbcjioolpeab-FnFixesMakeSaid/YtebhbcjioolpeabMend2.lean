/-
  The reference's GridsMend. No condition but that the slices read as the lists.
-/
import Derived.Test.YtebhbcjioolpeabMend
import Derived.Test.YtebhbcjioolpeabGap2
namespace Go.Proofs.Ytebhbcjioolpeab
open Go.RowKit Go.Deep Go.Sort BigFrame

theorem mendA_len (ga gb : Rows) (k : Nat) : (mendA ga gb k).length = ga.length := by simp [mendA]
theorem mendB_len (ga gb : Rows) (k : Nat) : (mendB ga gb k).length = gb.length := by simp [mendB]
theorem mendA_get (ga gb : Rows) (k i : Nat) (hi : i < ga.length) : (mendA ga gb k)[i]?.getD [] = if i < k then (ga[i]?.getD []).set (colsOf ga - 1) (halfOf ga gb i) else ga[i]?.getD [] := by simp [mendA, hi]
theorem mendB_get (ga gb : Rows) (k i : Nat) (hi : i < gb.length) : (mendB ga gb k)[i]?.getD [] = if i < k then (gb[i]?.getD []).set 0 (halfOf ga gb i) else gb[i]?.getD [] := by simp [mendB, hi]
theorem mendA_set (ga gb : Rows) (k : Nat) (hk : k < ga.length) : (mendA ga gb k).set k (((mendA ga gb k)[k]?.getD []).set (colsOf ga - 1) (halfOf ga gb k)) = mendA ga gb (k + 1) := by
  refine rows_eq (by simp [mendA_len]) fun i hi => ?_
  have hi : i < ga.length := by simpa [mendA_len] using hi
  rw [setR_get (by rw [mendA_len]; exact hk), mendA_get _ _ _ _ hi, mendA_get _ _ _ _ hi, mendA_get _ _ _ _ hk, if_neg (by omega : ¬ k < k)]
  by_cases e : i = k
  · subst e; rw [if_pos rfl, if_pos (by omega)]
  · rw [if_neg e]
    by_cases e2 : i < k
    · rw [if_pos e2, if_pos (by omega)]
    · rw [if_neg e2, if_neg (by omega)]
theorem mendB_set (ga gb : Rows) (k : Nat) (hk : k < gb.length) : (mendB ga gb k).set k (((mendB ga gb k)[k]?.getD []).set 0 (halfOf ga gb k)) = mendB ga gb (k + 1) := by
  refine rows_eq (by simp [mendB_len]) fun i hi => ?_
  have hi : i < gb.length := by simpa [mendB_len] using hi
  rw [setR_get (by rw [mendB_len]; exact hk), mendB_get _ _ _ _ hi, mendB_get _ _ _ _ hi, mendB_get _ _ _ _ hk, if_neg (by omega : ¬ k < k)]
  by_cases e : i = k
  · subst e; rw [if_pos rfl, if_pos (by omega)]
  · rw [if_neg e]
    by_cases e2 : i < k
    · rw [if_pos e2, if_pos (by omega)]
    · rw [if_neg e2, if_neg (by omega)]
theorem mendA_zero (ga gb : Rows) : mendA ga gb 0 = ga := rows_eq (mendA_len ..) fun i hi => by rw [mendA_len] at hi; rw [mendA_get _ _ _ _ hi, if_neg (by omega)]
theorem mendB_zero (ga gb : Rows) : mendB ga gb 0 = gb := rows_eq (mendB_len ..) fun i hi => by rw [mendB_len] at hi; rw [mendB_get _ _ _ _ hi, if_neg (by omega)]

theorem mend_small (ga gb : Rows) : (mendAll ga gb).1.length ≤ 1048576 ∧ (∀ j, j < (mendAll ga gb).1.length → ((mendAll ga gb).1[j]?.getD []).length ≤ 1048576) ∧ (mendAll ga gb).2.length ≤ 1048576 ∧ (∀ j, j < (mendAll ga gb).2.length → ((mendAll ga gb).2[j]?.getD []).length ≤ 1048576) := by
  by_cases h : Same ga gb
  · rw [mendAll_yes h]
    have h1 := h.1.2.1
    have h2 := h.1.2.2.2.1
    have h3 := h.2.1.2.1
    have h4 := h.2.1.2.2.2.1
    refine ⟨by rw [mendA_len]; omega, fun j hj => ?_, by rw [mendB_len]; omega, fun j hj => ?_⟩
    · rw [mendA_len] at hj
      have := (h.1.2.2.2.2 j hj).1
      dsimp only
      rw [mendA_get _ _ _ _ hj]
      split
      · rw [List.length_set]; omega
      · omega
    · rw [mendB_len] at hj
      have := (h.2.1.2.2.2.2 j hj).1
      dsimp only
      rw [mendB_get _ _ _ _ hj]
      split
      · rw [List.length_set]; omega
      · omega
  · rw [mendAll_no h]
    exact ⟨by simp, fun j hj => by simp, by simp, fun j hj => by simp⟩
end Go.Proofs.Ytebhbcjioolpeab
