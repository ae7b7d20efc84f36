/-
  has: whether a field has a cell. Condition: the numbers say that it has.
-/
import Derived.Test.YtdelcebkpdnnjaaMend
namespace Go.Proofs.Ytdelcebkpdnnjaa
open Go.RowKit Go.Deep Go.Sort

set_option maxHeartbeats 400000 in
theorem has_yes (r c : Nat) (v : Value) (i j : Nat) (w : World) (hi : i < r) (hj : j < c) :
    Calls Try.prog 52 #[fv r c v, .int .i64 i, .int .i64 j] w fun e w' => e = .returned (.bool true) ∧ Below w.heap.size w w' := by
  have t1 : (0 : Int) ≤ (i : Int) := by omega
  have t2 : (i : Int) < (r : Int) := by omega
  have t3 : (0 : Int) ≤ (j : Int) := by omega
  have t4 : (j : Int) < (c : Int) := by omega
  go_enter Try.func52, Try.ntmps52
  go_wp2
  go_ret
  exact ⟨rfl, below_n ((Below.refl _ _).alloc (Nat.le_refl _) _) 0⟩
end Go.Proofs.Ytdelcebkpdnnjaa
