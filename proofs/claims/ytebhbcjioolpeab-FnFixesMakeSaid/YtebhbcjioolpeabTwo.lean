/-
  l91Two, DrawEditionFar: two drawn grids. No condition.
-/
import Derived.Test.YtebhbcjioolpeabDrawM
namespace Go.Proofs.Ytebhbcjioolpeab
open Go.RowKit Go.Deep Go.Sort

set_option maxHeartbeats 2000000 in
set_option maxRecDepth 100000 in
theorem l91Two_any (R P : Nat) (w : World) (h : Rd w R P) (hP : P ≤ 10000) :
    Calls Try.prog 85 #[.pointer (some ⟨R, 0, none⟩)] w fun e w' => ∃ va vb ga gb, e = .returned (.tuple #[va, vb]) ∧ Grid w' va ga ∧ Grid w' vb gb ∧ Drawn ga ∧ Drawn gb ∧ Touch R (R + 1) w w' := by
  have HR := Lib.hid h
  have hRw := h.lt
  clear h
  go_enter Try.func85, Try.ntmps85
  go_wp2_with fail
  refine (pick_i R P _ _ HR.out (by omega) (by omega) (by omega)).mono ?_
  rintro e w1 ⟨x, rfl, hx0, hx1, hrd1, ht1⟩
  obtain ⟨xn, rfl⟩ : ∃ n : Nat, x = (n : Int) := ⟨x.toNat, by omega⟩
  have HR1 := Lib.hid hrd1
  have HT1 := Lib.hid ht1
  have z1 := ht1.size
  clear hrd1 ht1
  obtain ⟨n, hn⟩ : ∃ n, n = 1 + xn := ⟨_, rfl⟩
  have e1 : 1 + (xn : Int) = (n : Int) := by omega
  have e1' : IntKind.i64.wrap (1 + (xn : Int)) = (n : Int) := by rw [e1]; exact IntWalk.i64_in _ (by omega)
  have e1n : IntKind.i64.wrap (n : Int) = (n : Int) := IntWalk.i64_in _ (by omega)
  have hn4 : 1 ≤ n ∧ n ≤ 4 := by omega
  clear hn
  go_wp2_with fail
  refine (pick_i R (P + 1) _ _ HR1.out (by omega) (by omega) (by omega)).mono ?_
  rintro e w2 ⟨y, rfl, hy0, hy1, hrd2, ht2⟩
  obtain ⟨yn, rfl⟩ : ∃ n : Nat, y = (n : Int) := ⟨y.toNat, by omega⟩
  have HR2 := Lib.hid hrd2
  have HT2 := Lib.hid (HT1.out.trans ht2)
  have z2 := ht2.size
  clear hrd2 ht2
  obtain ⟨m, hm⟩ : ∃ n, n = 1 + yn := ⟨_, rfl⟩
  have e2 : 1 + (yn : Int) = (m : Int) := by omega
  have e2' : IntKind.i64.wrap (1 + (yn : Int)) = (m : Int) := by rw [e2]; exact IntWalk.i64_in _ (by omega)
  have e2n : IntKind.i64.wrap (m : Int) = (m : Int) := IntWalk.i64_in _ (by omega)
  have hm4 : 1 ≤ m ∧ m ≤ 4 := by omega
  clear hm
  go_wp2_with fail
  refine (l91Rough_any R (P + 1 + 1) n m w2 HR2.out (by omega) (by omega) (by omega) (by omega) (by omega)).mono ?_
  rintro e w3 ⟨va, ga, P3, rfl, hOa, hgal, hla, hrd3, hP3, ht3⟩
  have HR3 := Lib.hid hrd3
  have HT3 := Lib.hid (HT2.out.trans ht3)
  have z3 := ht3.size
  have HA3 := Lib.hid hOa
  have DA : Hid (Drawn ga) := ⟨by omega, by omega, fun j hj => hla j (by omega)⟩
  clear hrd3 ht3 hOa hla
  go_wp2_with fail
  refine (pick_i R P3 _ _ HR3.out (by omega) (by omega) (by omega)).mono ?_
  rintro e w4 ⟨c, rfl, hc0, hc1, hrd4, ht4⟩
  have HR4 := Lib.hid hrd4
  have HT4 := Lib.hid (HT3.out.trans ht4)
  have z4 := ht4.size
  have HA4 := Lib.hid (HA3.out.touch ht4 (.inr (by omega)))
  clear hrd4 ht4
  by_cases c0 : c = 0
  · subst c0
    go_wp2_with fail
    refine (l91Grid_any R (P3 + 1) _ HR4.out (by omega)).mono ?_
    rintro e w7 ⟨v, g, P7, rfl, hO, hD, hrd7, hP7, ht7⟩
    have z7 := ht7.size
    go_wp2
    go_ret2
    exact ⟨va, v, ga, g, rfl, (HA4.out.touch ht7 (.inr (by omega))).grid (by omega), hO.grid (Nat.le_refl _), DA.out, hD, HT4.out.trans ht7⟩
  · have q0 : (c == 0) = false := by simp [c0]
    clear c0
    go_wp2_with fail
    refine (l91Rough_any R (P3 + 1) n m w4 HR4.out (by omega) (by omega) (by omega) (by omega) (by omega)).mono ?_
    rintro e w7 ⟨v, g, P7, rfl, hO, hgl, hlb, hrd7, hP7, ht7⟩
    have z7 := ht7.size
    go_wp2
    go_ret2
    exact ⟨va, v, ga, g, rfl, (HA4.out.touch ht7 (.inr (by omega))).grid (by omega), hO.grid (Nat.le_refl _), DA.out, ⟨by omega, by omega, fun j hj => hlb j (by omega)⟩, HT4.out.trans ht7⟩

set_option maxHeartbeats 400000 in
theorem DrawFixesMake_any (v : Value) (n : Nat) (w : World) (h : Bytes w v n) :
    Calls Try.prog 48 #[v] w fun e w' => ∃ va vb ga gb, e = .returned (.tuple #[va, vb]) ∧ Grid w' va ga ∧ Grid w' vb gb ∧ Drawn ga ∧ Drawn gb ∧ Below w.heap.size w w' := by
  have C := Lib.hid (l6Open_any v n w h)
  clear h
  go_enter Try.func48, Try.ntmps48
  go_wp2_with fail
  refine C.out.mono ?_
  rintro e w1 ⟨rfl, hrd, hb1⟩
  have B1 := Lib.hid hb1
  have z1 := hb1.size
  clear hb1
  go_wp2_with fail
  refine (l91Two_any w.heap.size 0 w1 hrd (by omega)).mono ?_
  rintro e w2 ⟨va, vb, ga, gb, rfl, ha, hb, da, db, ht⟩
  have HA := Lib.hid ha
  have HB := Lib.hid hb
  have HT := Lib.hid (B1.out.trans (ht.below (Nat.le_refl _) z1))
  clear ha hb ht
  go_wp2
  go_ret2
  exact ⟨va, vb, ga, gb, rfl, HA.out, HB.out, da, db, HT.out⟩

end Go.Proofs.Ytebhbcjioolpeab
