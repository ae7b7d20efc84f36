/-
  doable: whether a correction of a field can be done. Conditions: a grid; the field's row reads as the grid.
-/
import Derived.Test.YtdelcebkpdnnjaaRow
namespace Go.Proofs.Ytdelcebkpdnnjaa
open Go.RowKit Go.Deep Go.Sort BigFrame

set_option maxHeartbeats 4000000 in
set_option maxRecDepth 100000 in
theorem doable_any (g : Rows) (a cap m : Nat) (f : Nat → Value) (R C O N : Int) (w : World) (hg : GridOk g) (hr : w.rowIs a 3 m f) (hfo : FldOk (g.length * colsOf g) cap m f (cellOf g)) :
    Calls Try.prog 96 #[fv g.length (colsOf g) (.slice (some ⟨a, 0, none⟩) (g.length * colsOf g) cap), .agg #[.int .i64 R, .int .i64 C, .int .i64 O, .int .i64 N]] w fun e w' => e = .returned (.bool (decide (Can g (R, C, O, N)))) ∧ Below w.heap.size w w' := by
  have HG := Lib.hid hg
  have HFO := Lib.hid hfo
  clear hfo
  have f1 := Box3.row (field_row w (.int .i64 g.length) (.int .i64 (colsOf g)) (.slice (some ⟨a, 0, none⟩) (g.length * colsOf g) cap))
  obtain ⟨W, hW⟩ : ∃ W, W = (w.alloc (.cells #[.int .i64 g.length, .int .i64 (colsOf g), .slice (some ⟨a, 0, none⟩) (g.length * colsOf g) cap] 64)).alloc (.cells #[.int .i64 R, .int .i64 C, .int .i64 O, .int .i64 N] 41) := ⟨_, rfl⟩
  have HB : Hid (Below w.heap.size w W) := by rw [hW]; exact ((Below.refl w.heap.size w).alloc (Nat.le_refl _) _).alloc (by simp) _
  have hz : w.heap.size ≤ W.heap.size := HB.out.size
  have hRow : W.rowIs a 3 m f := by rw [hW]; exact (hr.alloc _).alloc _
  have hq : QAt W (w.heap.size + 1) 0 (R, C, O, N) := by
    rw [hW]
    have := QAt_new (w.alloc (.cells #[.int .i64 g.length, .int .i64 (colsOf g), .slice (some ⟨a, 0, none⟩) (g.length * colsOf g) cap] 64)) (R, C, O, N) 41
    simpa using this
  have hf : Box3 W w.heap.size (.int .i64 g.length) (.int .i64 (colsOf g)) (.slice (some ⟨a, 0, none⟩) (g.length * colsOf g) cap) := by
    rw [hW]
    exact ⟨(World.cell?_alloc_old _ _ _ (by simp)).trans f1.1, (World.cell?_alloc_old _ _ _ (by simp)).trans f1.2.1, (World.cell?_alloc_old _ _ _ (by simp)).trans f1.2.2⟩
  obtain ⟨q0', q1, q2, q3⟩ := hq.zero
  obtain ⟨k0, k1, k2⟩ := hf
  have c0 := cell_regrown q0'
  have c1 := cell_regrown q1
  have c2 := cell_regrown q2
  have c3 := cell_regrown q3
  have m0 := cell_regrown k0
  have m1 := cell_regrown k1
  have m2 := cell_regrown k2
  have hgl2 := hg.2.1
  have hca2 := hg.2.2.2.1
  have HR := Lib.hid hRow
  have hw2 := hW.symm
  clear hW hr hg f1 q0' q1 q2 q3 k0 k1 k2 hq hRow
  have cH : ∀ d os, Calls Try.prog 52 #[fv g.length (colsOf g) (.slice (some ⟨a, 0, none⟩) (g.length * colsOf g) cap), .int .i64 R, .int .i64 C] (grow (redrawn W d) os) fun e w'' => e = .returned (.bool (decide (HasCell g.length (colsOf g) R C))) ∧ ∃ p : Regrown, w'' = grow (redrawn W p.d) p.os := fun d os => Calls.regrown_of (has_any _ _ _ R C _)
  by_cases h1 : HasCell g.length (colsOf g) R C
  · rw [decide_eq_true h1] at cH
    obtain ⟨i, rfl⟩ : ∃ i : Nat, R = (i : Int) := ⟨R.toNat, by have := h1.1; omega⟩
    obtain ⟨j, rfl⟩ : ∃ j : Nat, C = (j : Int) := ⟨C.toNat, by have := h1.2.2.1; omega⟩
    have hi : i < g.length := by have := h1.2.1; omega
    have hj : j < colsOf g := by have := h1.2.2.2; omega
    obtain ⟨x, hx⟩ : ∃ x, x = (g[i]?.getD [])[j]?.getD 0 := ⟨_, rfl⟩
    have cA : ∀ d os, Calls Try.prog 53 #[fv g.length (colsOf g) (.slice (some ⟨a, 0, none⟩) (g.length * colsOf g) cap), .int .i64 i, .int .i64 j] (grow (redrawn W d) os) fun e w'' => e = .returned (.int .i64 x) ∧ ∃ p : Regrown, w'' = grow (redrawn W p.d) p.os := fun d os => by rw [hx]; exact Calls.regrown_of (at_part g _ a cap m f i j _ HG.out (row_regrown HR.out d os) HFO.out hi hj)
    by_cases h2 : x = O
    · have t2 : (x == O) = true := by simp [h2]
      by_cases h3 : 0 ≤ N ∧ N ≤ 99
      · have cI : ∀ d os, Calls Try.prog 94 #[.int .i64 N] (grow (redrawn W d) os) fun e w'' => e = .returned (.bool true) ∧ ∃ p : Regrown, w'' = grow (redrawn W p.d) p.os := fun d os => Calls.regrown_of ((isHeight_yes N _ h3.1 h3.2).mono fun e w' ⟨he, hw⟩ => ⟨he, by subst hw; exact Below.refl _ _⟩)
        by_cases h4 : N = O
        · have t4 : (N != O) = false := by simp [h4]
          have HD : Hid (decide (Can g ((i : Int), (j : Int), O, N)) = false) := decide_eq_false fun h => h.2.2.2.2.2.2.2 h4
          clear h1 h2 h3 h4 hx
          go_enter Try.func96, Try.ntmps96
          go_wp2
          try rw [hw2]
          clear hw2
          refine wp_region_quiet_below (by kernel_rfl) (by kernel_rfl) ?_
          repeat (go_big_quiet_step (first | with_reducible exact cH _ _ | with_reducible exact cA _ _ | with_reducible exact cI _ _))
          refine wpQuiet_nil ?_
          intro _ hw'
          obtain ⟨⟨dq, osq⟩, hw''⟩ := hw'
          subst hw''
          have HBQ := Lib.hid (below_regrown W dq osq)
          clear cH cA cI
          go_wp2
          go_ret
          exact ⟨ret_bool HD.out.symm, HB.out.trans (HBQ.out.mono hz)⟩
        · have t4 : (N != O) = true := by simp [h4]
          have HD : Hid (decide (Can g ((i : Int), (j : Int), O, N)) = true) := decide_eq_true ⟨h1.1, h1.2.1, h1.2.2.1, h1.2.2.2, by show (g[i]?.getD [])[j]?.getD 0 = O; rw [← hx]; exact h2, h3.1, h3.2, h4⟩
          clear h1 h2 h3 h4 hx
          go_enter Try.func96, Try.ntmps96
          go_wp2
          try rw [hw2]
          clear hw2
          refine wp_region_quiet_below (by kernel_rfl) (by kernel_rfl) ?_
          repeat (go_big_quiet_step (first | with_reducible exact cH _ _ | with_reducible exact cA _ _ | with_reducible exact cI _ _))
          refine wpQuiet_nil ?_
          intro _ hw'
          obtain ⟨⟨dq, osq⟩, hw''⟩ := hw'
          subst hw''
          have HBQ := Lib.hid (below_regrown W dq osq)
          clear cH cA cI
          go_wp2
          go_ret
          exact ⟨ret_bool HD.out.symm, HB.out.trans (HBQ.out.mono hz)⟩
      · have cI : ∀ d os, Calls Try.prog 94 #[.int .i64 N] (grow (redrawn W d) os) fun e w'' => e = .returned (.bool false) ∧ ∃ p : Regrown, w'' = grow (redrawn W p.d) p.os := fun d os => Calls.regrown_of ((isHeight_no N _ h3).mono fun e w' ⟨he, hw⟩ => ⟨he, by subst hw; exact Below.refl _ _⟩)
        have HD : Hid (decide (Can g ((i : Int), (j : Int), O, N)) = false) := decide_eq_false fun h => h3 ⟨h.2.2.2.2.2.1, h.2.2.2.2.2.2.1⟩
        clear h1 h2 h3 hx
        go_enter Try.func96, Try.ntmps96
        go_wp2
        try rw [hw2]
        clear hw2
        refine wp_region_quiet_below (by kernel_rfl) (by kernel_rfl) ?_
        repeat (go_big_quiet_step (first | with_reducible exact cH _ _ | with_reducible exact cA _ _ | with_reducible exact cI _ _))
        refine wpQuiet_nil ?_
        intro _ hw'
        obtain ⟨⟨dq, osq⟩, hw''⟩ := hw'
        subst hw''
        have HBQ := Lib.hid (below_regrown W dq osq)
        clear cH cA cI
        go_wp2
        go_ret
        exact ⟨ret_bool HD.out.symm, HB.out.trans (HBQ.out.mono hz)⟩
    · have t2 : (x == O) = false := by simp [h2]
      have HD : Hid (decide (Can g ((i : Int), (j : Int), O, N)) = false) := decide_eq_false fun h => h2 (by rw [hx]; exact h.2.2.2.2.1)
      clear h1 h2 hx
      go_enter Try.func96, Try.ntmps96
      go_wp2
      try rw [hw2]
      clear hw2
      refine wp_region_quiet_below (by kernel_rfl) (by kernel_rfl) ?_
      repeat (go_big_quiet_step (first | with_reducible exact cH _ _ | with_reducible exact cA _ _))
      refine wpQuiet_nil ?_
      intro _ hw'
      obtain ⟨⟨dq, osq⟩, hw''⟩ := hw'
      subst hw''
      have HBQ := Lib.hid (below_regrown W dq osq)
      clear cH cA
      go_wp2
      go_ret
      exact ⟨ret_bool HD.out.symm, HB.out.trans (HBQ.out.mono hz)⟩
  · rw [decide_eq_false h1] at cH
    have HD : Hid (decide (Can g (R, C, O, N)) = false) := decide_eq_false fun h => h1 ⟨h.1, h.2.1, h.2.2.1, h.2.2.2.1⟩
    clear h1
    go_enter Try.func96, Try.ntmps96
    go_wp2
    try rw [hw2]
    clear hw2
    refine wp_region_quiet_below (by kernel_rfl) (by kernel_rfl) ?_
    repeat (go_big_quiet_step (first | with_reducible exact cH _ _))
    refine wpQuiet_nil ?_
    intro _ hw'
    obtain ⟨⟨dq, osq⟩, hw''⟩ := hw'
    subst hw''
    have HBQ := Lib.hid (below_regrown W dq osq)
    clear cH
    go_wp2
    go_ret
    exact ⟨ret_bool HD.out.symm, HB.out.trans (HBQ.out.mono hz)⟩
end Go.Proofs.Ytdelcebkpdnnjaa
