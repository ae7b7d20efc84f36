/-
  The draws of a place in a list (l91At) and of labels with a place. Conditions: the reader has picked fewer than a thousand times; at most seven labels.
-/
import Derived.Test.YtbpcjdhbbighgaaDrawS
namespace Go.Proofs.Ytbpcjdhbbighgaa
open Go.RowKit Go.Deep

/-- the built pair of numbers is read after a pick -/
theorem pair_at {R : Nat} {w1 w3 : World} {x y : Value} {t : TypeId} (ht : Touch R (R + 1) (w1.alloc (.cells #[x, y] t)) w3) (hR : R < w1.heap.size) : w3.cell? ⟨w1.heap.size, 0, none⟩ = some x ∧ w3.cell? ⟨w1.heap.size, 1, none⟩ = some y := by
  obtain ⟨h0, h1⟩ := cell2_new' w1 x y t
  have e := ht.block w1.heap.size (by simp) (by omega)
  exact ⟨(World.cell?_of_block (a := ⟨w1.heap.size, 0, none⟩) e).trans h0, (World.cell?_of_block (a := ⟨w1.heap.size, 1, none⟩) e).trans h1⟩

end Go.Proofs.Ytbpcjdhbbighgaa
