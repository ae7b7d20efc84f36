/-
  fieldOf where the lists are no grid. No condition beyond that.
-/
import Derived.Test.YtdelcebkpdnnjaaField2
namespace Go.Proofs.Ytdelcebkpdnnjaa
open Go.RowKit Go.Deep Go.Sort

abbrev noField : Ending := .returned (.tuple #[fv 0 0 (.slice none 0 0), .bool false])

theorem field_zero (w : World) : (w.alloc (.cells #[.int .i64 0, .int .i64 0, .slice none 0 0] 64)).rowIs w.heap.size 64 3 (fun i => (#[.int .i64 0, .int .i64 0, .slice none 0 0] : Array Value)[i]?.getD undef) :=
  World.rowIs_alloc w #[.int .i64 0, .int .i64 0, .slice none 0 0] 64 (fun i => (#[.int .i64 0, .int .i64 0, .slice none 0 0] : Array Value)[i]?.getD undef) (fun i hi => by simp at hi; match i, hi with | 0, _ => rfl | 1, _ => rfl | 2, _ => rfl)

set_option maxHeartbeats 2000000 in
set_option maxRecDepth 100000 in
theorem fieldOf_rows (v : Value) (g : Rows) (w : World) (h : Grid w v g) (hg : g.length < 1 ∨ 7 < g.length) :
    Calls Try.prog 78 #[v] w fun e w' => e = noField ∧ Below w.heap.size w w' := by
  obtain ⟨a, cap, rfl, h1, h2, h3⟩ := h
  clear h3
  rcases hg with hg | hg
  · have t1 : decide ((g.length : Int) < 1) = true := decide_eq_true (by omega)
    go_enter Try.func78, Try.ntmps78
    go_wp2
    refine bodyPost_ret (v := .tuple #[fv 0 0 (.slice none 0 0), .bool false]) ?_ rfl ⟨rfl, (Below.refl _ _).alloc (Nat.le_refl _) _⟩
    rw [results_cell_tmp rfl]
    exact field_result (field_zero w) rfl rfl rfl _
  · have t1 : decide ((g.length : Int) < 1) = false := decide_eq_false (by omega)
    have t2 : decide ((7 : Int) < (g.length : Int)) = true := decide_eq_true (by omega)
    go_enter Try.func78, Try.ntmps78
    go_wp2
    refine bodyPost_ret (v := .tuple #[fv 0 0 (.slice none 0 0), .bool false]) ?_ rfl ⟨rfl, (Below.refl _ _).alloc (Nat.le_refl _) _⟩
    rw [results_cell_tmp rfl]
    exact field_result (field_zero w) rfl rfl rfl _

set_option maxHeartbeats 2000000 in
set_option maxRecDepth 100000 in
theorem fieldOf_cols (v : Value) (g : Rows) (w : World) (h : Grid w v g) (g1 : 1 ≤ g.length) (g2 : g.length ≤ 7) (hg : colsOf g < 1 ∨ 7 < colsOf g) :
    Calls Try.prog 78 #[v] w fun e w' => e = noField ∧ Below w.heap.size w w' := by
  obtain ⟨a, cap, rfl, h1, h2, h3⟩ := h
  obtain ⟨b, off, rfl, hb, hcell⟩ := h3 (by omega)
  obtain ⟨r0, c0, i0⟩ := hcell 0 (by omega)
  obtain ⟨x0, cap0, rfl, e0, _⟩ := i0
  have ec : (g[0]?.getD []).length = colsOf g := rfl
  rw [ec] at c0 e0
  have t1 : decide ((g.length : Int) < 1) = false := decide_eq_false (by omega)
  have t2 : decide ((7 : Int) < (g.length : Int)) = false := decide_eq_false (by omega)
  obtain ⟨c, hc⟩ : ∃ c, c = colsOf g := ⟨_, rfl⟩
  rw [← hc] at c0 e0 hg
  clear hcell ec hc h3
  rw [Nat.add_zero] at c0
  rcases hg with hg | hg
  · have t3 : decide ((c : Int) < 1) = true := decide_eq_true (by omega)
    go_enter Try.func78, Try.ntmps78
    go_wp2
    refine bodyPost_ret (v := .tuple #[fv 0 0 (.slice none 0 0), .bool false]) ?_ rfl ⟨rfl, (Below.refl _ _).alloc (Nat.le_refl _) _⟩
    rw [results_cell_tmp rfl]
    exact field_result (field_zero w) rfl rfl rfl _
  · have t3 : decide ((c : Int) < 1) = false := decide_eq_false (by omega)
    have t4 : decide ((7 : Int) < (c : Int)) = true := decide_eq_true (by omega)
    go_enter Try.func78, Try.ntmps78
    go_wp2
    refine bodyPost_ret (v := .tuple #[fv 0 0 (.slice none 0 0), .bool false]) ?_ rfl ⟨rfl, (Below.refl _ _).alloc (Nat.le_refl _) _⟩
    rw [results_cell_tmp rfl]
    exact field_result (field_zero w) rfl rfl rfl _
end Go.Proofs.Ytdelcebkpdnnjaa
