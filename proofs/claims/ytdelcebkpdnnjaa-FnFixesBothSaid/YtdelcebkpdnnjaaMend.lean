/-
  GridsMend of the program. No condition but that the slices read as the lists.
-/
import Derived.Test.YtdelcebkpdnnjaaLists
import Derived.BigQuiet
namespace Go.Proofs.Ytdelcebkpdnnjaa
open Go.RowKit Go.Deep Go.Sort BigFrame

/-- the middle of the two heights of a row -/
def halfOf (ga gb : Rows) (k : Nat) : Int := (lastOf ga k + firstOf gb k).tdiv 2
/-- both grids with their first k rows mended -/
def mendA (ga gb : Rows) (k : Nat) : Rows := (List.range ga.length).map fun i => if i < k then (ga[i]?.getD []).set (colsOf ga - 1) (halfOf ga gb i) else ga[i]?.getD []
def mendB (ga gb : Rows) (k : Nat) : Rows := (List.range gb.length).map fun i => if i < k then (gb[i]?.getD []).set 0 (halfOf ga gb i) else gb[i]?.getD []
def mendAll (ga gb : Rows) : Rows × Rows := if Same ga gb then (mendA ga gb ga.length, mendB ga gb ga.length) else ([], [])

/-- .. told by the index in the field -/
def hA (ga gb : Rows) (k i : Nat) : Int := if i / colsOf ga < k ∧ i % colsOf ga = colsOf ga - 1 then halfOf ga gb (i / colsOf ga) else cellOf ga i
def hB (ga gb : Rows) (k i : Nat) : Int := if i / colsOf gb < k ∧ i % colsOf gb = 0 then halfOf ga gb (i / colsOf gb) else cellOf gb i

theorem div_row {i j c : Nat} (hj : j < c) : (i * c + j) / c = i := by
  rw [Nat.add_comm, Nat.add_mul_div_right _ _ (by omega), Nat.div_eq_of_lt hj, Nat.zero_add]
theorem mod_row {i j c : Nat} (hj : j < c) : (i * c + j) % c = j := by
  rw [Nat.add_comm, Nat.add_mul_mod_self_right, Nat.mod_eq_of_lt hj]
theorem at_row {n i j c : Nat} (_hc : 0 < c) (h1 : n / c = i) (h2 : n % c = j) : n = i * c + j := by
  have := Nat.div_add_mod n c
  rw [h1, h2, Nat.mul_comm] at this
  omega

theorem hA_set {ga gb : Rows} (hc : 0 < colsOf ga) (k n : Nat) : (if n = k * colsOf ga + (colsOf ga - 1) then Value.int .i64 (halfOf ga gb k) else .int .i64 (hA ga gb k n)) = .int .i64 (hA ga gb (k + 1) n) := by
  unfold hA
  by_cases e : n = k * colsOf ga + (colsOf ga - 1)
  · rw [if_pos e]
    have h1 : n / colsOf ga = k := by rw [e]; exact div_row (by omega)
    have h2 : n % colsOf ga = colsOf ga - 1 := by rw [e]; exact mod_row (by omega)
    rw [h1, h2, if_pos ⟨by omega, rfl⟩]
  · rw [if_neg e]
    by_cases h : n / colsOf ga < k + 1 ∧ n % colsOf ga = colsOf ga - 1
    · have : n / colsOf ga ≠ k := fun h' => e (at_row hc h' h.2)
      rw [if_pos ⟨by omega, h.2⟩, if_pos h]
    · rw [if_neg (fun h' => h ⟨by omega, h'.2⟩), if_neg h]
theorem hB_set {ga gb : Rows} (hc : 0 < colsOf gb) (k n : Nat) : (if n = k * colsOf gb + 0 then Value.int .i64 (halfOf ga gb k) else .int .i64 (hB ga gb k n)) = .int .i64 (hB ga gb (k + 1) n) := by
  unfold hB
  by_cases e : n = k * colsOf gb + 0
  · rw [if_pos e]
    have h1 : n / colsOf gb = k := by rw [e]; exact div_row (by omega)
    have h2 : n % colsOf gb = 0 := by rw [e]; exact mod_row (by omega)
    rw [h1, h2, if_pos ⟨by omega, rfl⟩]
  · rw [if_neg e]
    by_cases h : n / colsOf gb < k + 1 ∧ n % colsOf gb = 0
    · have : n / colsOf gb ≠ k := fun h' => e (at_row hc h' h.2)
      rw [if_pos ⟨by omega, h.2⟩, if_pos h]
    · rw [if_neg (fun h' => h ⟨by omega, h'.2⟩), if_neg h]

theorem row_ext {a b : List Int} (hl : a.length = b.length) (h : ∀ j, j < a.length → a[j]?.getD 0 = b[j]?.getD 0) : a = b := by
  refine List.ext_getElem hl fun i h1 h2 => ?_
  have := h i h1
  simpa [h1, h2] using this

theorem mendA_rows {ga gb : Rows} (h : Same ga gb) : rowsOf (hA ga gb ga.length) ga.length (colsOf ga) = mendA ga gb ga.length := by
  refine rows_eq (by rw [rowsOf_length]; simp [mendA]) fun i hi => ?_
  rw [rowsOf_length] at hi
  have hl := (h.1.2.2.2.2 i hi).1
  have e2 : (mendA ga gb ga.length)[i]?.getD [] = (ga[i]?.getD []).set (colsOf ga - 1) (halfOf ga gb i) := by simp [mendA, hi]
  rw [rowsOf_get _ _ _ _ hi, e2]
  refine row_ext (by simp [hl]) fun j hj => ?_
  have hj : j < colsOf ga := by simpa using hj
  rw [setI_get (by have := h.1.2.2.1; omega), range_get hj]
  unfold hA
  rw [div_row hj, mod_row hj, cell_at rfl hj]
  by_cases e : j = colsOf ga - 1
  · rw [if_pos ⟨hi, e⟩, if_pos e]
  · rw [if_neg (fun h => e h.2), if_neg e]
theorem mendB_rows {ga gb : Rows} (h : Same ga gb) : rowsOf (hB ga gb ga.length) gb.length (colsOf gb) = mendB ga gb ga.length := by
  refine rows_eq (by rw [rowsOf_length]; simp [mendB]) fun i hi => ?_
  rw [rowsOf_length] at hi
  have hl := (h.2.1.2.2.2.2 i hi).1
  have hi2 : i < ga.length := by have := h.2.2; omega
  have e2 : (mendB ga gb ga.length)[i]?.getD [] = (gb[i]?.getD []).set 0 (halfOf ga gb i) := by simp [mendB, hi, hi2]
  rw [rowsOf_get _ _ _ _ hi, e2]
  refine row_ext (by simp [hl]) fun j hj => ?_
  have hj : j < colsOf gb := by simpa using hj
  rw [setI_get (by have := h.2.1.2.2.1; omega), range_get hj]
  unfold hB
  rw [div_row hj, mod_row hj, cell_at rfl hj]
  by_cases e : j = 0
  · rw [if_pos ⟨hi2, e⟩, if_pos e]
  · rw [if_neg (fun h => e h.2), if_neg e]

/-- three cells of a block -/
def Box3 (w : World) (b : Nat) (x y z : Value) : Prop := w.cell? ⟨b, 0, none⟩ = some x ∧ w.cell? ⟨b, 1, none⟩ = some y ∧ w.cell? ⟨b, 2, none⟩ = some z
theorem Box3.block {w w' : World} {b : Nat} {x y z : Value} (h : Box3 w b x y z) (e : w'.heap[b]? = w.heap[b]?) : Box3 w' b x y z :=
  ⟨(World.cell?_of_block e).trans h.1, (World.cell?_of_block e).trans h.2.1, (World.cell?_of_block e).trans h.2.2⟩
theorem Box3.row {w : World} {b : Nat} {x y z : Value} (h : w.rowIs b 64 3 (f3 x y z)) : Box3 w b x y z := ⟨h.cell (i := 0) (by decide), h.cell (i := 1) (by decide), h.cell (i := 2) (by decide)⟩
theorem Box3.other {w : World} {b : Nat} {x y z : Value} (h : Box3 w b x y z) {p : Addr} (hp : b ≠ p.block) (u : Value) : Box3 (w.setCell p u) b x y z := h.block (blk_setCell_other _ _ _ _ hp)

theorem half_small {ga gb : Rows} (h : Same ga gb) (k : Nat) (hk : k < ga.length) : 0 ≤ lastOf ga k + firstOf gb k ∧ lastOf ga k + firstOf gb k ≤ 198 := by
  have h1 := h.1.cell (i := k) (j := colsOf ga - 1) hk (by have := h.1.2.2.1; omega)
  have h2 := h.2.1.cell (i := k) (j := 0) (by have := h.2.2; omega) (by have := h.2.1.2.2.1; omega)
  unfold lastOf firstOf
  omega

theorem mendAll_yes {ga gb : Rows} (h : Same ga gb) : mendAll ga gb = (mendA ga gb ga.length, mendB ga gb ga.length) := if_pos h
theorem mendAll_no {ga gb : Rows} (h : ¬ Same ga gb) : mendAll ga gb = ([], []) := if_neg h
end Go.Proofs.Ytdelcebkpdnnjaa
