/-
  Contracts of the laws' look at the size of a list of corrections. No condition but that the slice reads as the list.
-/
import Derived.Test.YtdelcebkpdnnjaaFixOpen
namespace Go.Proofs.Ytdelcebkpdnnjaa
open Go.RowKit Go.Deep

set_option maxHeartbeats 400000 in
theorem szFixS_yes (v : Value) (l : List Quad) (left : Int) (w : World) (h : Quads w v l) (h1 : (l.length : Int) ≤ left) (h2 : left ≤ 1048576) :
    Calls Try.prog 23 #[v, .int .i64 left] w fun e w' => e = .returned (.int .i64 (left - (l.length : Int))) ∧ Below w.heap.size w w' := by
  obtain ⟨a, cap, rfl, hc1, hc2, hc3⟩ := h
  clear hc3
  go_enter Try.func23, Try.ntmps23
  go_wp2
  go_ret
  exact ⟨rfl, Below.refl _ _⟩
set_option maxHeartbeats 400000 in
theorem szFixS_no (v : Value) (l : List Quad) (left : Int) (w : World) (h : Quads w v l) (h1 : left < (l.length : Int)) (h2 : 0 ≤ left) :
    Calls Try.prog 23 #[v, .int .i64 left] w fun e w' => e = .returned (.int .i64 (-1)) ∧ Below w.heap.size w w' := by
  obtain ⟨a, cap, rfl, hc1, hc2, hc3⟩ := h
  clear hc3
  go_enter Try.func23, Try.ntmps23
  go_wp2
  go_ret
  exact ⟨rfl, Below.refl _ _⟩
end Go.Proofs.Ytdelcebkpdnnjaa
