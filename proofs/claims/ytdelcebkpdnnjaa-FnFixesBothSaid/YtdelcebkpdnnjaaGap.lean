/-
  The sum of the differences along the side: apart, gap, GridsGap, GridsAgree of the program. Conditions: the heights are small where a contract says so.
-/
import Derived.Test.YtdelcebkpdnnjaaPair
namespace Go.Proofs.Ytdelcebkpdnnjaa
open Go.RowKit Go.Deep Go.Sort

def aparts (a b : Int) : Int := max a b - min a b
/-- the last height of a row of the western, the first of a row of the eastern grid -/
def lastOf (g : Rows) (k : Nat) : Int := (g[k]?.getD [])[colsOf g - 1]?.getD 0
def firstOf (g : Rows) (k : Nat) : Int := (g[k]?.getD [])[0]?.getD 0
def gapUpTo (ga gb : Rows) : Nat → Int
  | 0 => 0
  | k + 1 => gapUpTo ga gb k + aparts (lastOf ga k) (firstOf gb k)
def gapOf (ga gb : Rows) : Int := if Same ga gb then gapUpTo ga gb ga.length else -1

theorem GridOk.cell {g : Rows} (h : GridOk g) {i j : Nat} (hi : i < g.length) (hj : j < colsOf g) : 0 ≤ (g[i]?.getD [])[j]?.getD 0 ∧ (g[i]?.getD [])[j]?.getD 0 ≤ 99 := by
  obtain ⟨h1, h2⟩ := h.2.2.2.2 i hi
  exact h2 j (by omega)
theorem gap_small {ga gb : Rows} (h : Same ga gb) : ∀ k, k ≤ ga.length → 0 ≤ gapUpTo ga gb k ∧ gapUpTo ga gb k ≤ 99 * k := by
  obtain ⟨h1, h2, h3⟩ := h
  have ha := h1.2.2.1
  have hb := h2.2.2.1
  intro k
  induction k with
  | zero => intro _; exact ⟨Int.le_refl _, Int.le_refl _⟩
  | succ k ih =>
    intro hk
    obtain ⟨i1, i2⟩ := ih (by omega)
    have c1 := h1.cell (i := k) (j := colsOf ga - 1) (by omega) (by omega)
    have c2 := h2.cell (i := k) (j := 0) (by omega) (by omega)
    rw [gapUpTo, aparts]
    unfold lastOf firstOf
    omega

theorem ints_of_row {w : World} {a n : Nat} {h : Nat → Int} {t : TypeId} (hr : w.rowIs a t n (fun i => .int .i64 (h i))) (hn : n ≤ 1000000) : Ints w (.slice (some ⟨a, 0, none⟩) n n) ((List.range n).map h) := by
  have hl : ((List.range n).map h).length = n := by simp
  refine ⟨_, n, by rw [hl], by omega, by omega, fun _ => ⟨a, 0, rfl, hr.lt, fun j hj => ?_⟩⟩
  rw [hl] at hj
  rw [Nat.zero_add, hr.cell hj]
  simp [hj]
theorem range_get {n m : Nat} {h : Nat → Int} (hm : m < n) : ((List.range n).map h)[m]?.getD 0 = h m := by simp [hm]
theorem small_cells {g : Rows} (h : GridOk g) : g.length * colsOf g ≤ 49 := by
  have := Nat.mul_le_mul h.2.1 h.2.2.2.1
  omega
theorem idx_lt {i j n c : Nat} (hi : i < n) (hj : j < c) : i * c + j < n * c := by
  have := Nat.mul_le_mul_right c (show i + 1 ≤ n by omega)
  rw [Nat.add_mul, Nat.one_mul] at this
  omega

/-- a height of a grid's field -/
theorem at_grid (g : Rows) (r : Int) (a i j : Nat) (w : World) (hg : GridOk g) (hr : w.rowIs a 3 (g.length * colsOf g) (fun i => .int .i64 (cellOf g i))) (hi : i < g.length) (hj : j < colsOf g) :
    Calls Try.prog 53 #[fv r (colsOf g) (.slice (some ⟨a, 0, none⟩) (g.length * colsOf g) (g.length * colsOf g)), .int .i64 i, .int .i64 j] w fun e w' => e = .returned (.int .i64 ((g[i]?.getD [])[j]?.getD 0)) ∧ Below w.heap.size w w' := by
  have h1 := small_cells hg
  have h2 := hg.2.1
  have h3 := hg.2.2.2.1
  have hx := idx_lt hi hj
  have h := at_any r (colsOf g) i j _ _ w (ints_of_row hr (by omega)) (by omega) (by omega) (by omega) (by simpa using hx)
  rw [range_get hx, cell_at rfl hj] at h
  exact h

theorem row_regrown {w : World} {a n : Nat} {t : TypeId} {f : Nat → Value} (h : w.rowIs a t n f) (d os) : (grow (redrawn w d) os).rowIs a t n f :=
  h.of_block ((below_regrown w d os).block a h.lt)

/-- pairOf as one contract -/
theorem gap_val {ga gb : Rows} (h : Same ga gb) : gapOf ga gb = gapUpTo ga gb ga.length := if_pos h
theorem gap_none {ga gb : Rows} (h : ¬ Same ga gb) : gapOf ga gb = -1 := if_neg h

end Go.Proofs.Ytdelcebkpdnnjaa
