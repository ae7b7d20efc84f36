/-
  l91Grid, l92Sides: drawn grids. Conditions: the reader has picked fewer than fifty thousand times.
-/
import Derived.Test.YtdelcebkpdnnjaaRough
import Derived.StillTailTactics
namespace Go.Proofs.Ytdelcebkpdnnjaa
open Go.RowKit Go.Deep

/-- lists of rows that a draw gives: some rows, none of them empty, all short -/
def Drawn (g : Rows) : Prop := 1 ≤ g.length ∧ g.length ≤ 8 ∧ ∀ j, j < g.length → 1 ≤ (g[j]?.getD []).length ∧ (g[j]?.getD []).length ≤ 9

set_option maxHeartbeats 1000000 in
set_option maxRecDepth 100000 in
theorem l91Grid_any (R P : Nat) (w : World) (h : Rd w R P) (hP : P ≤ 50000) :
    Calls Try.prog 70 #[.pointer (some ⟨R, 0, none⟩)] w fun e w' => ∃ v g P', e = .returned v ∧ OwnG w.heap.size w'.heap.size w' v g ∧ Drawn g ∧ Rd w' R P' ∧ P' ≤ P + 110 ∧ Touch R (R + 1) w w' := by
  have HR := Lib.hid h
  clear h
  go_enter Try.func70, Try.ntmps70
  go_wp2_with fail
  refine (pick_i R P _ _ HR.out (by omega) (by omega) (by omega)).mono ?_
  rintro e w1 ⟨x, rfl, hx0, hx1, hrd1, ht1⟩
  obtain ⟨xn, rfl⟩ : ∃ n : Nat, x = (n : Int) := ⟨x.toNat, by omega⟩
  have HR1 := Lib.hid hrd1
  have HT1 := Lib.hid ht1
  have z1 := ht1.size
  clear hrd1 ht1
  go_wp2_with fail
  refine (pick_i R (P + 1) _ _ HR1.out (by omega) (by omega) (by omega)).mono ?_
  rintro e w2 ⟨y, rfl, hy0, hy1, hrd2, ht2⟩
  obtain ⟨yn, rfl⟩ : ∃ n : Nat, y = (n : Int) := ⟨y.toNat, by omega⟩
  have HR2 := Lib.hid hrd2
  have HT2 := Lib.hid (HT1.out.trans ht2)
  have z2 := ht2.size
  clear hrd2 ht2
  have C := Lib.hid (l91Rough_any R (P + 1 + 1) (1 + xn) (1 + yn) w2 HR2.out (by omega) (by omega) (by omega) (by omega) (by omega))
  have e1 : ((1 + xn : Nat) : Int) = 1 + (xn : Int) := by omega
  have e2 : ((1 + yn : Nat) : Int) = 1 + (yn : Int) := by omega
  rw [e1, e2] at C
  go_wp2_with fail
  refine C.out.mono ?_
  rintro e w3 ⟨v, g, P', rfl, hO, hgl, hlens, hrd3, hP', ht3⟩
  have z3 := ht3.size
  go_wp2
  go_ret
  exact ⟨v, g, P', rfl, hO.mono (by omega) (Nat.le_refl _), ⟨by omega, by omega, fun j hj => hlens j (by omega)⟩, hrd3, by omega, HT2.out.trans ht3⟩

end Go.Proofs.Ytdelcebkpdnnjaa
