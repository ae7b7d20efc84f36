/-
  l92Fixes, DrawFixesValid, DrawFixesRise: a drawn grid and corrections of it. No condition.
-/
import Derived.Test.YtdelcebkpdnnjaaSome
namespace Go.Proofs.Ytdelcebkpdnnjaa
open Go.RowKit Go.Deep Go.Sort

set_option maxHeartbeats 1000000 in
set_option maxRecDepth 100000 in
theorem l92Fixes_any (R P : Nat) (w : World) (h : Rd w R P) (hP : P ≤ 5000) :
    Calls Try.prog 44 #[.pointer (some ⟨R, 0, none⟩)] w fun e w' => ∃ v u g l P', e = .returned (.tuple #[v, u]) ∧ OwnG w.heap.size w'.heap.size w' v g ∧ OwnQ w.heap.size w'.heap.size w' u l ∧ Drawn g ∧ l.length ≤ 6 ∧ Rd w' R P' ∧ P' ≤ P + 200 ∧ Touch R (R + 1) w w' := by
  have HR := Lib.hid h
  have hRw := h.lt
  clear h
  go_enter Try.func44, Try.ntmps44
  go_wp2_with fail
  refine (l91Grid_any R P w HR.out (by omega)).mono ?_
  rintro e w1 ⟨v, g, P1, rfl, hO, hD, hrd1, hP1, ht1⟩
  have HR1 := Lib.hid hrd1
  have HT1 := Lib.hid ht1
  have HG1 := Lib.hid hO
  have DG := Lib.hid hD
  have z1 := ht1.size
  clear hrd1 ht1 hO hD
  go_wp2_with fail
  refine (pick_i R P1 _ _ HR1.out (by omega) (by omega) (by omega)).mono ?_
  rintro e w2 ⟨x, rfl, hx0, hx1, hrd2, ht2⟩
  obtain ⟨n, rfl⟩ : ∃ n : Nat, x = (n : Int) := ⟨x.toNat, by omega⟩
  have HR2 := Lib.hid hrd2
  have HT2 := Lib.hid (HT1.out.trans ht2)
  have HG2 := Lib.hid (HG1.out.touch ht2 (.inr (by omega)))
  have z2 := ht2.size
  clear hrd2 ht2
  go_wp2_with fail
  refine (l92Some_any R (P1 + 1) n w.heap.size w1.heap.size v g w2 HR2.out (by omega) (by omega) HG2.out hRw z2).mono ?_
  rintro e w3 ⟨u, l, P3, rfl, hQ, hl, hrd3, hP3, ht3⟩
  have HR3 := Lib.hid hrd3
  have HT3 := Lib.hid (HT2.out.trans ht3)
  have HG3 := Lib.hid (HG2.out.touch ht3 (.inr (by omega)))
  have HQ3 := Lib.hid hQ
  have z3 := ht3.size
  clear hrd3 ht3 hQ
  go_wp2
  go_ret2
  exact ⟨v, u, g, l, P3, rfl, HG3.out.mono (Nat.le_refl _) (by omega), HQ3.out.mono (by omega) (Nat.le_refl _), DG.out, by omega, HR3.out, by omega, HT3.out⟩

set_option maxHeartbeats 400000 in
theorem DrawFixesDo_any (v : Value) (n : Nat) (w : World) (h : Bytes w v n) :
    Calls Try.prog 37 #[v] w fun e w' => ∃ va vb g l, e = .returned (.tuple #[va, vb]) ∧ Grid w' va g ∧ Quads w' vb l ∧ Drawn g ∧ l.length ≤ 6 ∧ Below w.heap.size w w' := by
  have C := Lib.hid (l6Open_any v n w h)
  clear h
  go_enter Try.func37, Try.ntmps37
  go_wp2_with fail
  refine C.out.mono ?_
  rintro e w1 ⟨rfl, hrd, hb1⟩
  have B1 := Lib.hid hb1
  have z1 := hb1.size
  clear hb1
  go_wp2_with fail
  refine (l92Fixes_any w.heap.size 0 w1 hrd (by omega)).mono ?_
  rintro e w2 ⟨va, vb, g, l, P2, rfl, ha, hb, da, hl, _, _, ht⟩
  have HA := Lib.hid (ha.grid (Nat.le_refl _))
  have HB := Lib.hid hb.quads
  have HT := Lib.hid (B1.out.trans (ht.below (Nat.le_refl _) z1))
  clear ha hb ht
  go_wp2
  go_ret2
  exact ⟨va, vb, g, l, rfl, HA.out, HB.out, da, hl, HT.out⟩

end Go.Proofs.Ytdelcebkpdnnjaa
