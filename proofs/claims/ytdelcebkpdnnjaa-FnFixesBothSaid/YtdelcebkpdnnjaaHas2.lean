/-
  has of a field at whatever numbers, slices.Clone of a row of ints, and whether a correction can be done. Conditions: a grid; sizes.
-/
import Derived.Test.YtdelcebkpdnnjaaEd
import Derived.Test.YtdelcebkpdnnjaaHas
import Derived.Test.YtdelcebkpdnnjaaAppI
import Derived.Lib.QuietBelow
import Derived.WalkSpells
namespace Go.Proofs.Ytdelcebkpdnnjaa
open Go.RowKit Go.Deep Go.Sort BigFrame

def HasCell (r c i j : Int) : Prop := 0 ≤ i ∧ i < r ∧ 0 ≤ j ∧ j < c
instance (r c i j : Int) : Decidable (HasCell r c i j) := by unfold HasCell; infer_instance

set_option maxHeartbeats 1000000 in
theorem has_any (r c : Nat) (v : Value) (i j : Int) (w : World) :
    Calls Try.prog 52 #[fv r c v, .int .i64 i, .int .i64 j] w fun e w' => e = .returned (.bool (decide (HasCell r c i j))) ∧ Below w.heap.size w w' := by
  by_cases t1 : 0 ≤ i
  · have d1 : decide ((0 : Int) ≤ i) = true := decide_eq_true t1
    by_cases t2 : i < (r : Int)
    · have d2 : decide (i < (r : Int)) = true := decide_eq_true t2
      by_cases t3 : 0 ≤ j
      · have d3 : decide ((0 : Int) ≤ j) = true := decide_eq_true t3
        by_cases t4 : j < (c : Int)
        · have H := Lib.hid (show decide (HasCell r c i j) = true from decide_eq_true ⟨t1, t2, t3, t4⟩)
          go_enter Try.func52, Try.ntmps52
          go_wp2
          go_ret
          exact ⟨ret_bool H.out.symm, (Below.refl _ _).alloc (Nat.le_refl _) _⟩
        · have d4 : decide (j < (c : Int)) = false := decide_eq_false t4
          have H := Lib.hid (show decide (HasCell r c i j) = false from decide_eq_false fun h => t4 h.2.2.2)
          clear t4
          go_enter Try.func52, Try.ntmps52
          go_wp2
          go_ret
          exact ⟨ret_bool H.out.symm, (Below.refl _ _).alloc (Nat.le_refl _) _⟩
      · have d3 : decide ((0 : Int) ≤ j) = false := decide_eq_false t3
        have H := Lib.hid (show decide (HasCell r c i j) = false from decide_eq_false fun h => t3 h.2.2.1)
        clear t3
        go_enter Try.func52, Try.ntmps52
        go_wp2
        go_ret
        exact ⟨ret_bool H.out.symm, (Below.refl _ _).alloc (Nat.le_refl _) _⟩
    · have d2 : decide (i < (r : Int)) = false := decide_eq_false t2
      have H := Lib.hid (show decide (HasCell r c i j) = false from decide_eq_false fun h => t2 h.2.1)
      clear t2
      go_enter Try.func52, Try.ntmps52
      go_wp2
      go_ret
      exact ⟨ret_bool H.out.symm, (Below.refl _ _).alloc (Nat.le_refl _) _⟩
  · have d1 : decide ((0 : Int) ≤ i) = false := decide_eq_false t1
    have H := Lib.hid (show decide (HasCell r c i j) = false from decide_eq_false fun h => t1 h.1)
    clear t1
    go_enter Try.func52, Try.ntmps52
    go_wp2
    go_ret
    exact ⟨ret_bool H.out.symm, (Below.refl _ _).alloc (Nat.le_refl _) _⟩

set_option maxHeartbeats 400000 in
set_option maxRecDepth 100000 in
theorem CloneI_any (v : Value) (l : List Int) (w : World) (h : Ints w v l) (hn : l.length ≤ 1073741824) :
    Calls Try.prog 95 #[v] w fun e w' => ∃ v', e = .returned v' ∧ ((l = [] ∧ v' = .slice none 0 0) ∨ w'.ownsRow w.heap.size 3 1 v' l.length (l.map (Value.int .i64))) ∧ Below w.heap.size w w' := by
  obtain ⟨a, cap, rfl, hc1, hc2, hc3⟩ := id h
  have H := Lib.hid h
  have heq := fun (W : World) => Lib.run_eql_slice_nil (P := Try.prog) W 27 3 a l.length cap 0 0 Try.underlying27
  clear h
  cases a with
  | none =>
    have hl : l.length = 0 := by
      rcases Nat.eq_zero_or_pos l.length with h | h
      · exact h
      · obtain ⟨b, off, e, _⟩ := hc3 h; cases e
    obtain rfl : l = [] := List.length_eq_zero_iff.1 hl
    clear hc3 hl
    simp only [Option.isNone_none, List.length_nil] at heq
    go_enter Try.func95, Try.ntmps95
    go_wp2
    go_ret
    exact ⟨_, rfl, .inl (by simp), Below.refl _ _⟩
  | some ad =>
    simp only [Option.isNone_some] at heq
    clear hc3
    have HB : Hid (Below w.heap.size w (w.alloc (.cells #[] 3))) := (Below.refl _ _).alloc (Nat.le_refl _) _
    go_enter Try.func95, Try.ntmps95
    go_wp2_with (at_builtin; refine app_ints _ rfl _ _ rfl w.heap.size _ [] _ l (World.ownsRow_made w #[] 0 (Nat.le_refl _) (by decide) rfl) (H.out.below HB.out (Nat.le_refl _)) rfl rfl (by simp; omega) (by simp) ?_; intro v' w1 hown1 hg1)
    go_ret
    exact ⟨_, rfl, .inr (by simpa using hown1), HB.out.grown hg1 (by simp) (fun k e => by cases e; exact Nat.le_refl _)⟩
end Go.Proofs.Ytdelcebkpdnnjaa
