/-
  Plain laws of editions' distance: it is the same both ways, zero for equal grids alone, and keeps the triangle. A grid with one cell set.
-/
import Derived.Test.YtdelcebkpdnnjaaMake
namespace Go.Proofs.Ytdelcebkpdnnjaa
open Go.RowKit Go.Deep Go.Sort

def one (a b : Int) : Nat := if a = b then 0 else 1
def dRow (ga gb : Rows) (i : Nat) : Nat → Nat
  | 0 => 0
  | c + 1 => dRow ga gb i c + one ((ga[i]?.getD [])[c]?.getD 0) ((gb[i]?.getD [])[c]?.getD 0)
def dAll (ga gb : Rows) (c : Nat) : Nat → Nat
  | 0 => 0
  | r + 1 => dAll ga gb c r + dRow ga gb r c
theorem rowDiff_count (ga gb : Rows) (i : Nat) : ∀ c, (rowDiff ga gb i c).length = dRow ga gb i c := by
  intro c
  induction c with
  | zero => simp [rowDiff, dRow]
  | succ c ih =>
    rw [dRow, ← ih]
    by_cases e : (ga[i]?.getD [])[c]?.getD 0 = (gb[i]?.getD [])[c]?.getD 0
    · rw [rowDiff_same e, e]; simp [one]
    · rw [rowDiff_other rfl rfl e]; simp [one, e]
theorem diffs_count (ga gb : Rows) : ∀ r, (diffs ga gb r).length = dAll ga gb (colsOf ga) r := by
  intro r
  induction r with
  | zero => simp [diffs, dAll]
  | succ r ih => rw [diffs_succ, List.length_append, ih, rowDiff_count, dAll]
theorem far_count {ga gb : Rows} (h : Like ga gb) : farOf ga gb = (dAll ga gb (colsOf ga) ga.length : Int) := by
  rw [farOf_yes h]
  unfold diffsOf
  rw [diffs_count]
theorem one_comm (a b : Int) : one a b = one b a := by
  unfold one
  by_cases h : a = b
  · rw [if_pos h, if_pos h.symm]
  · rw [if_neg h, if_neg fun e => h e.symm]
theorem one_tri (a b c : Int) : one a b ≤ one a c + one c b := by
  unfold one
  by_cases h : a = c
  · subst h; simp
  · rw [if_neg h]; split <;> omega
theorem dRow_comm (ga gb : Rows) (i : Nat) : ∀ c, dRow ga gb i c = dRow gb ga i c := by
  intro c
  induction c with
  | zero => rfl
  | succ c ih => rw [dRow, dRow, ih, one_comm]
theorem dAll_comm (ga gb : Rows) (c : Nat) : ∀ r, dAll ga gb c r = dAll gb ga c r := by
  intro r
  induction r with
  | zero => rfl
  | succ r ih => rw [dAll, dAll, ih, dRow_comm]
theorem dRow_tri (ga gb gc : Rows) (i : Nat) : ∀ c, dRow ga gb i c ≤ dRow ga gc i c + dRow gc gb i c := by
  intro c
  induction c with
  | zero => exact Nat.zero_le _
  | succ c ih =>
    rw [dRow, dRow, dRow]
    have := one_tri ((ga[i]?.getD [])[c]?.getD 0) ((gb[i]?.getD [])[c]?.getD 0) ((gc[i]?.getD [])[c]?.getD 0)
    omega
theorem dAll_tri (ga gb gc : Rows) (c : Nat) : ∀ r, dAll ga gb c r ≤ dAll ga gc c r + dAll gc gb c r := by
  intro r
  induction r with
  | zero => exact Nat.zero_le _
  | succ r ih =>
    rw [dAll, dAll, dAll]
    have := dRow_tri ga gb gc r c
    omega
theorem dRow_le (ga gb : Rows) (i : Nat) : ∀ c, dRow ga gb i c ≤ c := by
  intro c
  induction c with
  | zero => exact Nat.zero_le _
  | succ c ih => rw [dRow]; unfold one; split <;> omega
theorem dAll_le (ga gb : Rows) (c : Nat) : ∀ r, dAll ga gb c r ≤ r * c := by
  intro r
  induction r with
  | zero => exact Nat.zero_le _
  | succ r ih => rw [dAll, Nat.add_mul, Nat.one_mul]; have := dRow_le ga gb r c; omega
theorem dRow_zero (ga gb : Rows) (i : Nat) : ∀ c, dRow ga gb i c = 0 → ∀ j, j < c → (ga[i]?.getD [])[j]?.getD 0 = (gb[i]?.getD [])[j]?.getD 0 := by
  intro c
  induction c with
  | zero => intro _ j hj; omega
  | succ c ih =>
    intro h j hj
    rw [dRow] at h
    by_cases e : j = c
    · subst e
      have h2 : one ((ga[i]?.getD [])[j]?.getD 0) ((gb[i]?.getD [])[j]?.getD 0) = 0 := by omega
      unfold one at h2
      by_cases e2 : (ga[i]?.getD [])[j]?.getD 0 = (gb[i]?.getD [])[j]?.getD 0
      · exact e2
      · rw [if_neg e2] at h2; omega
    · exact ih (by omega) j (by omega)
theorem dAll_zero (ga gb : Rows) (c : Nat) : ∀ r, dAll ga gb c r = 0 → ∀ i, i < r → dRow ga gb i c = 0 := by
  intro r
  induction r with
  | zero => intro _ i hi; omega
  | succ r ih =>
    intro h i hi
    rw [dAll] at h
    by_cases e : i = r
    · subst e; omega
    · exact ih (by omega) i (by omega)
theorem dRow_self (g : Rows) (i : Nat) : ∀ c, dRow g g i c = 0 := by
  intro c
  induction c with
  | zero => rfl
  | succ c ih => rw [dRow, ih]; simp [one]
theorem dAll_self (g : Rows) (c : Nat) : ∀ r, dAll g g c r = 0 := by
  intro r
  induction r with
  | zero => rfl
  | succ r ih => rw [dAll, ih, dRow_self]
theorem like_sym {ga gb : Rows} (h : Like ga gb) : Like gb ga := ⟨⟨h.1.2.1, h.1.1, h.1.2.2.symm⟩, h.2.symm⟩
theorem far_comm (ga gb : Rows) (h : Like ga gb) : farOf gb ga = farOf ga gb := by
  rw [far_count h, far_count (like_sym h), dAll_comm, h.2, h.1.2.2]
theorem far_zero {ga gb : Rows} (h : Like ga gb) : farOf ga gb = 0 ↔ ga = gb := by
  rw [far_count h]
  constructor
  · intro h0
    have h0 : dAll ga gb (colsOf ga) ga.length = 0 := by omega
    refine rows_eq h.1.2.2 fun i hi => ?_
    have h1 := (h.1.1.2.2.2.2 i hi).1
    have h2 := (h.1.2.1.2.2.2.2 i (by have := h.1.2.2; omega)).1
    refine List.ext_getElem (by rw [h1, h2, h.2]) fun j hj hj2 => ?_
    have := dRow_zero ga gb i _ (dAll_zero ga gb _ _ h0 i hi) j (by omega)
    simpa [hj, hj2] using this
  · intro e
    subst e
    rw [dAll_self]
    rfl
theorem far_tri {ga gb gc : Rows} (h : Like ga gb) (hc : Like ga gc) : farOf ga gb ≤ farOf ga gc + farOf gc gb := by
  have hcb : Like gc gb := ⟨⟨hc.1.2.1, h.1.2.1, hc.1.2.2.symm.trans h.1.2.2⟩, hc.2.symm.trans h.2⟩
  rw [far_count h, far_count hc, far_count hcb, ← hc.2, ← hc.1.2.2]
  have := dAll_tri ga gb gc (colsOf ga) ga.length
  omega
theorem far_small {ga gb : Rows} (h : Like ga gb) : 0 ≤ farOf ga gb ∧ farOf ga gb ≤ 49 := by
  rw [far_count h]
  have := dAll_le ga gb (colsOf ga) ga.length
  have := Nat.mul_le_mul h.1.1.2.1 h.1.1.2.2.2.1
  omega
end Go.Proofs.Ytdelcebkpdnnjaa
