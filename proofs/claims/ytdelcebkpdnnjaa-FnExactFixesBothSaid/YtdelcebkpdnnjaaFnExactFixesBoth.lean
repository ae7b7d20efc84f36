/-
  FnExactFixesBoth: for all arguments the law returns true and leaves what was there as it was. No condition.
-/
import Derived.Test.YtdelcebkpdnnjaaBothAll
import Derived.Test.YtdelcebkpdnnjaaOwnG
import Derived.Test.YtdelcebkpdnnjaaFixSz
import Derived.Test.YtdelcebkpdnnjaaFixOpen
import Derived.Test.YtdelcebkpdnnjaaFacts
import Derived.ProofKit
import Derived.OpenShut
import Derived.ShutString
import Derived.ChangeOld
import Derived.Below
namespace Go.Proofs.Ytdelcebkpdnnjaa
open Go.RowKit Go.Deep

set_option maxHeartbeats 4000000 in
set_option maxRecDepth 100000 in
theorem FnExactFixesBoth_walk (v0 : Value) (g0 : Rows) (v1 : Value) (l1 : List Quad) (v2 : Value) (l2 : List Quad) (w : World) (h0 : Grid w v0 g0) (h1 : Quads w v1 l1) (h2 : Quads w v2 l2) :
    Calls Try.prog 5 #[v0, v1, v2] w fun e w' => e = .returned (.bool true) ∧ Below w.heap.size w w' := by
  obtain ⟨a0, c0, rfl, hc01, hc02, hc03⟩ := id h0
  have H0 := Lib.hid (show GridB w.heap.size w _ g0 from h0)
  clear h0 hc03
  obtain ⟨a1, c1, rfl, hc11, hc12, hc13⟩ := id h1
  have H1 := Lib.hid h1.quadsB
  clear h1 hc13
  obtain ⟨a2, c2, rfl, hc21, hc22, hc23⟩ := id h2
  have H2 := Lib.hid h2.quadsB
  clear h2 hc23
  have s0 := Nat.le_refl w.heap.size
  go_enter Try.func5, Try.ntmps5
  go_wp2_with fail
  refine (szIntSS_any _ g0 _ _ (H0.out.grid (by omega)) (by omega) (by omega)).mono ?_
  rintro e w1 ⟨m0, rfl, hS0, hb1⟩
  have s1 := hb1.size
  replace H0 := Lib.hid (H0.out.below hb1 (by omega))
  replace H1 := Lib.hid (H1.out.below hb1 (by omega))
  replace H2 := Lib.hid (H2.out.below hb1 (by omega))
  have B := Lib.hid (hb1)
  have S0 := Lib.hid hS0
  clear hS0 hb1
  by_cases hn0 : m0 < 0
  · go_wp2
    go_ret
    exact ⟨rfl, B.out⟩
  obtain ⟨e0a, e0b, e0c, e0d⟩ := S0.out.resolve_left hn0
  have Z0 := Lib.hid e0d
  clear S0 e0d
  by_cases hbig1 : m0 < l1.length
  · go_wp2_with fail
    refine (szFixS_no _ l1 _ _ (H1.out.quads (by omega)) (by omega) (by omega)).mono ?_
    rintro e wn ⟨rfl, hbn⟩
    go_wp2
    go_ret
    exact ⟨rfl, B.out.trans (hbn.mono (by omega))⟩
  go_wp2_with fail
  refine (szFixS_yes _ l1 _ _ (H1.out.quads (by omega)) (by omega) (by omega)).mono ?_
  rintro e w2 ⟨rfl, hb2⟩
  have s2 := hb2.size
  replace H0 := Lib.hid (H0.out.below hb2 (by omega))
  replace H1 := Lib.hid (H1.out.below hb2 (by omega))
  replace H2 := Lib.hid (H2.out.below hb2 (by omega))
  replace B := Lib.hid (B.out.trans (hb2.mono (by omega)))
  clear hb2
  have hl1 : l1.length ≤ 1099511627776 := by omega
  by_cases hbig2 : (m0 - (l1.length : Int)) < l2.length
  · go_wp2_with fail
    refine (szFixS_no _ l2 _ _ (H2.out.quads (by omega)) (by omega) (by omega)).mono ?_
    rintro e wn ⟨rfl, hbn⟩
    go_wp2
    go_ret
    exact ⟨rfl, B.out.trans (hbn.mono (by omega))⟩
  go_wp2_with fail
  refine (szFixS_yes _ l2 _ _ (H2.out.quads (by omega)) (by omega) (by omega)).mono ?_
  rintro e w3 ⟨rfl, hb3⟩
  have s3 := hb3.size
  replace H0 := Lib.hid (H0.out.below hb3 (by omega))
  replace H1 := Lib.hid (H1.out.below hb3 (by omega))
  replace H2 := Lib.hid (H2.out.below hb3 (by omega))
  replace B := Lib.hid (B.out.trans (hb3.mono (by omega)))
  clear hb3
  have hl2 : l2.length ≤ 1099511627776 := by omega
  obtain ⟨R0, hR0⟩ : ∃ R, R = bothOf g0 l1 l2 := ⟨_, rfl⟩
  have hRn0 : R0.length ≤ 1099511627776 := by rw [hR0]; exact bothOf_len g0 l1 l2
  obtain ⟨R1, hR1⟩ : ∃ R, R = decide (BothOk g0 l1 l2) := ⟨_, rfl⟩
  have hne1 : (R1 != R1) = false := by simp
  have C1 : Hid (∀ v0 v1 v2 W, Grid W v0 g0 → Quads W v1 l1 → Quads W v2 l2 → Calls Try.prog 17 #[v0, v1, v2] W fun e w' => ∃ u0, e = .returned (.tuple #[u0, .bool R1]) ∧ OwnQ W.heap.size w'.heap.size w' u0 R0 ∧ Below W.heap.size W w') := by rw [hR0, hR1]; exact fun v0 v1 v2 W h0 h1 h2 => FixesBoth_any v0 v1 v2 g0 l1 l2 W h0 h1 h2
  have C2 : Hid (∀ v0 v1 v2 W, Grid W v0 g0 → Quads W v1 l1 → Quads W v2 l2 → Calls Try.prog 18 #[v0, v1, v2] W fun e w' => ∃ u0, e = .returned (.tuple #[u0, .bool R1]) ∧ OwnQ W.heap.size w'.heap.size w' u0 R0 ∧ Below W.heap.size W w') := by rw [hR0, hR1]; exact fun v0 v1 v2 W h0 h1 h2 => specFixesBoth_any v0 v1 v2 g0 l1 l2 W h0 h1 h2
  clear hR0 hR1
  have T0 := tot_le Z0.out g0.length (Nat.le_refl _)
  go_wp2_with fail
  refine (toIntSS_own _ g0 _ (H0.out.grid (by omega)) e0c Z0.out).mono ?_
  rintro e w4 ⟨vP0, rfl, hP0, hb4⟩
  have s4 := hb4.size
  replace H0 := Lib.hid (H0.out.below hb4 (by omega))
  replace H1 := Lib.hid (H1.out.below hb4 (by omega))
  replace H2 := Lib.hid (H2.out.below hb4 (by omega))
  replace B := Lib.hid (B.out.trans (hb4.mono (by omega)))
  have P0 := Lib.hid hP0
  clear hP0 hb4
  go_wp2_with fail
  refine (toFixS_any _ l1 _ (H1.out.quads (by omega)) hl1).mono ?_
  rintro e w5 ⟨vP1, rfl, hP1, hb5⟩
  have s5 := hb5.size
  replace H0 := Lib.hid (H0.out.below hb5 (by omega))
  replace H1 := Lib.hid (H1.out.below hb5 (by omega))
  replace H2 := Lib.hid (H2.out.below hb5 (by omega))
  replace P0 := Lib.hid (P0.out.below hb5 (by omega))
  replace B := Lib.hid (B.out.trans (hb5.mono (by omega)))
  have P1 := Lib.hid hP1
  clear hP1 hb5
  go_wp2_with fail
  refine (toFixS_any _ l2 _ (H2.out.quads (by omega)) hl2).mono ?_
  rintro e w6 ⟨vP2, rfl, hP2, hb6⟩
  have s6 := hb6.size
  replace H0 := Lib.hid (H0.out.below hb6 (by omega))
  replace H1 := Lib.hid (H1.out.below hb6 (by omega))
  replace H2 := Lib.hid (H2.out.below hb6 (by omega))
  replace P0 := Lib.hid (P0.out.below hb6 (by omega))
  replace P1 := Lib.hid (P1.out.below hb6 (by omega))
  replace B := Lib.hid (B.out.trans (hb6.mono (by omega)))
  have P2 := Lib.hid hP2
  clear hP2 hb6
  go_wp2_with fail
  refine (C2.out _ _ _ _ (P0.out.grid (by omega)) P1.out.quads P2.out.quads).mono ?_
  rintro e w7 ⟨zW0, rfl, hW0, hb7⟩
  have s7 := hb7.size
  replace H0 := Lib.hid (H0.out.below hb7 (by omega))
  replace H1 := Lib.hid (H1.out.below hb7 (by omega))
  replace H2 := Lib.hid (H2.out.below hb7 (by omega))
  replace P0 := Lib.hid (P0.out.below hb7 (by omega))
  replace P1 := Lib.hid (P1.out.below hb7 (by omega))
  replace P2 := Lib.hid (P2.out.below hb7 (by omega))
  replace B := Lib.hid (B.out.trans (hb7.mono (by omega)))
  have W0 := Lib.hid hW0
  clear hW0 hb7
  clear P0
  clear P1
  clear P2
  go_wp2_with fail
  refine (toIntSS_own _ g0 _ (H0.out.grid (by omega)) e0c Z0.out).mono ?_
  rintro e w8 ⟨vX0, rfl, hX0, hb8⟩
  have s8 := hb8.size
  replace H0 := Lib.hid (H0.out.below hb8 (by omega))
  replace H1 := Lib.hid (H1.out.below hb8 (by omega))
  replace H2 := Lib.hid (H2.out.below hb8 (by omega))
  replace W0 := Lib.hid (W0.out.below hb8 (by omega))
  replace B := Lib.hid (B.out.trans (hb8.mono (by omega)))
  have X0 := Lib.hid hX0
  clear hX0 hb8
  go_wp2_with fail
  refine (toFixS_any _ l1 _ (H1.out.quads (by omega)) hl1).mono ?_
  rintro e w9 ⟨vX1, rfl, hX1, hb9⟩
  have s9 := hb9.size
  replace H0 := Lib.hid (H0.out.below hb9 (by omega))
  replace H1 := Lib.hid (H1.out.below hb9 (by omega))
  replace H2 := Lib.hid (H2.out.below hb9 (by omega))
  replace W0 := Lib.hid (W0.out.below hb9 (by omega))
  replace X0 := Lib.hid (X0.out.below hb9 (by omega))
  replace B := Lib.hid (B.out.trans (hb9.mono (by omega)))
  have X1 := Lib.hid hX1
  clear hX1 hb9
  go_wp2_with fail
  refine (toFixS_any _ l2 _ (H2.out.quads (by omega)) hl2).mono ?_
  rintro e w10 ⟨vX2, rfl, hX2, hb10⟩
  have s10 := hb10.size
  replace H0 := Lib.hid (H0.out.below hb10 (by omega))
  replace H1 := Lib.hid (H1.out.below hb10 (by omega))
  replace H2 := Lib.hid (H2.out.below hb10 (by omega))
  replace W0 := Lib.hid (W0.out.below hb10 (by omega))
  replace X0 := Lib.hid (X0.out.below hb10 (by omega))
  replace X1 := Lib.hid (X1.out.below hb10 (by omega))
  replace B := Lib.hid (B.out.trans (hb10.mono (by omega)))
  have X2 := Lib.hid hX2
  clear hX2 hb10
  go_wp2_with fail
  refine (C1.out _ _ _ _ (X0.out.grid (by omega)) X1.out.quads X2.out.quads).mono ?_
  rintro e w11 ⟨zG0, rfl, hG0, hb11⟩
  have s11 := hb11.size
  replace H0 := Lib.hid (H0.out.below hb11 (by omega))
  replace H1 := Lib.hid (H1.out.below hb11 (by omega))
  replace H2 := Lib.hid (H2.out.below hb11 (by omega))
  replace W0 := Lib.hid (W0.out.below hb11 (by omega))
  replace X0 := Lib.hid (X0.out.below hb11 (by omega))
  replace X1 := Lib.hid (X1.out.below hb11 (by omega))
  replace X2 := Lib.hid (X2.out.below hb11 (by omega))
  replace B := Lib.hid (B.out.trans (hb11.mono (by omega)))
  have G0 := Lib.hid hG0
  clear hG0 hb11
  go_wp2_with fail
  refine (eqFixS_any _ _ R0 R0 _ G0.out.quads W0.out.quads).mono ?_
  rintro e w12 ⟨rfl, hb12⟩
  have s12 := hb12.size
  replace H0 := Lib.hid (H0.out.below hb12 (by omega))
  replace H1 := Lib.hid (H1.out.below hb12 (by omega))
  replace H2 := Lib.hid (H2.out.below hb12 (by omega))
  replace W0 := Lib.hid (W0.out.below hb12 (by omega))
  replace X0 := Lib.hid (X0.out.below hb12 (by omega))
  replace X1 := Lib.hid (X1.out.below hb12 (by omega))
  replace X2 := Lib.hid (X2.out.below hb12 (by omega))
  replace G0 := Lib.hid (G0.out.below hb12 (by omega))
  replace B := Lib.hid (B.out.trans (hb12.mono (by omega)))
  clear hb12
  rw [decide_eq_true rfl]
  go_wp2_with fail
  refine (toIntSS_own _ g0 _ (H0.out.grid (by omega)) e0c Z0.out).mono ?_
  rintro e w13 ⟨vY0, rfl, hY0, hb13⟩
  have s13 := hb13.size
  replace H0 := Lib.hid (H0.out.below hb13 (by omega))
  replace H1 := Lib.hid (H1.out.below hb13 (by omega))
  replace H2 := Lib.hid (H2.out.below hb13 (by omega))
  replace W0 := Lib.hid (W0.out.below hb13 (by omega))
  replace X0 := Lib.hid (X0.out.below hb13 (by omega))
  replace X1 := Lib.hid (X1.out.below hb13 (by omega))
  replace X2 := Lib.hid (X2.out.below hb13 (by omega))
  replace G0 := Lib.hid (G0.out.below hb13 (by omega))
  replace B := Lib.hid (B.out.trans (hb13.mono (by omega)))
  have Y0 := Lib.hid hY0
  clear hY0 hb13
  go_wp2_with fail
  refine (eqIntSS_b _ _ g0 g0 _ (X0.out.grid (by omega)) (Y0.out.grid (by omega))).mono ?_
  rintro e w14 ⟨rfl, hb14⟩
  have s14 := hb14.size
  replace H0 := Lib.hid (H0.out.below hb14 (by omega))
  replace H1 := Lib.hid (H1.out.below hb14 (by omega))
  replace H2 := Lib.hid (H2.out.below hb14 (by omega))
  replace W0 := Lib.hid (W0.out.below hb14 (by omega))
  replace X0 := Lib.hid (X0.out.below hb14 (by omega))
  replace X1 := Lib.hid (X1.out.below hb14 (by omega))
  replace X2 := Lib.hid (X2.out.below hb14 (by omega))
  replace G0 := Lib.hid (G0.out.below hb14 (by omega))
  replace Y0 := Lib.hid (Y0.out.below hb14 (by omega))
  replace B := Lib.hid (B.out.trans (hb14.mono (by omega)))
  clear hb14
  rw [decide_eq_true rfl]
  clear Y0
  go_wp2_with fail
  refine (toFixS_any _ l1 _ (H1.out.quads (by omega)) hl1).mono ?_
  rintro e w15 ⟨vY1, rfl, hY1, hb15⟩
  have s15 := hb15.size
  replace H0 := Lib.hid (H0.out.below hb15 (by omega))
  replace H1 := Lib.hid (H1.out.below hb15 (by omega))
  replace H2 := Lib.hid (H2.out.below hb15 (by omega))
  replace W0 := Lib.hid (W0.out.below hb15 (by omega))
  replace X0 := Lib.hid (X0.out.below hb15 (by omega))
  replace X1 := Lib.hid (X1.out.below hb15 (by omega))
  replace X2 := Lib.hid (X2.out.below hb15 (by omega))
  replace G0 := Lib.hid (G0.out.below hb15 (by omega))
  replace B := Lib.hid (B.out.trans (hb15.mono (by omega)))
  have Y1 := Lib.hid hY1
  clear hY1 hb15
  go_wp2_with fail
  refine (eqFixS_any _ _ l1 l1 _ X1.out.quads Y1.out.quads).mono ?_
  rintro e w16 ⟨rfl, hb16⟩
  have s16 := hb16.size
  replace H0 := Lib.hid (H0.out.below hb16 (by omega))
  replace H1 := Lib.hid (H1.out.below hb16 (by omega))
  replace H2 := Lib.hid (H2.out.below hb16 (by omega))
  replace W0 := Lib.hid (W0.out.below hb16 (by omega))
  replace X0 := Lib.hid (X0.out.below hb16 (by omega))
  replace X1 := Lib.hid (X1.out.below hb16 (by omega))
  replace X2 := Lib.hid (X2.out.below hb16 (by omega))
  replace G0 := Lib.hid (G0.out.below hb16 (by omega))
  replace Y1 := Lib.hid (Y1.out.below hb16 (by omega))
  replace B := Lib.hid (B.out.trans (hb16.mono (by omega)))
  clear hb16
  rw [decide_eq_true rfl]
  clear Y1
  go_wp2_with fail
  refine (toFixS_any _ l2 _ (H2.out.quads (by omega)) hl2).mono ?_
  rintro e w17 ⟨vY2, rfl, hY2, hb17⟩
  have s17 := hb17.size
  replace H0 := Lib.hid (H0.out.below hb17 (by omega))
  replace H1 := Lib.hid (H1.out.below hb17 (by omega))
  replace H2 := Lib.hid (H2.out.below hb17 (by omega))
  replace W0 := Lib.hid (W0.out.below hb17 (by omega))
  replace X0 := Lib.hid (X0.out.below hb17 (by omega))
  replace X1 := Lib.hid (X1.out.below hb17 (by omega))
  replace X2 := Lib.hid (X2.out.below hb17 (by omega))
  replace G0 := Lib.hid (G0.out.below hb17 (by omega))
  replace B := Lib.hid (B.out.trans (hb17.mono (by omega)))
  have Y2 := Lib.hid hY2
  clear hY2 hb17
  go_wp2_with fail
  refine (eqFixS_any _ _ l2 l2 _ X2.out.quads Y2.out.quads).mono ?_
  rintro e w18 ⟨rfl, hb18⟩
  have s18 := hb18.size
  replace H0 := Lib.hid (H0.out.below hb18 (by omega))
  replace H1 := Lib.hid (H1.out.below hb18 (by omega))
  replace H2 := Lib.hid (H2.out.below hb18 (by omega))
  replace W0 := Lib.hid (W0.out.below hb18 (by omega))
  replace X0 := Lib.hid (X0.out.below hb18 (by omega))
  replace X1 := Lib.hid (X1.out.below hb18 (by omega))
  replace X2 := Lib.hid (X2.out.below hb18 (by omega))
  replace G0 := Lib.hid (G0.out.below hb18 (by omega))
  replace Y2 := Lib.hid (Y2.out.below hb18 (by omega))
  replace B := Lib.hid (B.out.trans (hb18.mono (by omega)))
  clear hb18
  rw [decide_eq_true rfl]
  clear Y2
  go_wp2_with fail
  refine (markIntSS_any _ g0 _ _ _ _ X0.out e0c Z0.out (by omega) (by omega)).mono ?_
  rintro e w19 ⟨rfl, hM0, hb19⟩
  have s19 := hb19.size
  replace H0 := Lib.hid (H0.out.touch hb19 (by omega))
  replace H1 := Lib.hid (H1.out.touch hb19 (by omega))
  replace H2 := Lib.hid (H2.out.touch hb19 (by omega))
  replace W0 := Lib.hid (W0.out.touch hb19 (by omega))
  replace X1 := Lib.hid (X1.out.touch hb19 (by omega))
  replace X2 := Lib.hid (X2.out.touch hb19 (by omega))
  replace G0 := Lib.hid (G0.out.touch hb19 (by omega))
  replace B := Lib.hid (B.out.trans (hb19.below (by omega) (by omega)))
  have M0 := Lib.hid hM0
  clear X0
  clear hM0 hb19
  clear M0
  go_wp2_with fail
  refine (markFixS_any _ l1 _ _ _ _ X1.out hl1 (by omega) (by omega)).mono ?_
  rintro e w20 ⟨rfl, hM1, hb20⟩
  have s20 := hb20.size
  replace H0 := Lib.hid (H0.out.touch hb20 (by omega))
  replace H1 := Lib.hid (H1.out.touch hb20 (by omega))
  replace H2 := Lib.hid (H2.out.touch hb20 (by omega))
  replace W0 := Lib.hid (W0.out.touch hb20 (by omega))
  replace X2 := Lib.hid (X2.out.touch hb20 (by omega))
  replace G0 := Lib.hid (G0.out.touch hb20 (by omega))
  replace B := Lib.hid (B.out.trans (hb20.below (by omega) (by omega)))
  have M1 := Lib.hid hM1
  clear X1
  clear hM1 hb20
  clear M1
  go_wp2_with fail
  refine (markFixS_any _ l2 _ _ _ _ X2.out hl2 (by omega) (by omega)).mono ?_
  rintro e w21 ⟨rfl, hM2, hb21⟩
  have s21 := hb21.size
  replace H0 := Lib.hid (H0.out.touch hb21 (by omega))
  replace H1 := Lib.hid (H1.out.touch hb21 (by omega))
  replace H2 := Lib.hid (H2.out.touch hb21 (by omega))
  replace W0 := Lib.hid (W0.out.touch hb21 (by omega))
  replace G0 := Lib.hid (G0.out.touch hb21 (by omega))
  replace B := Lib.hid (B.out.trans (hb21.below (by omega) (by omega)))
  have M2 := Lib.hid hM2
  clear X2
  clear hM2 hb21
  clear M2
  go_wp2_with fail
  refine (eqFixS_any _ _ R0 R0 _ G0.out.quads W0.out.quads).mono ?_
  rintro e w22 ⟨rfl, hb22⟩
  have s22 := hb22.size
  replace H0 := Lib.hid (H0.out.below hb22 (by omega))
  replace H1 := Lib.hid (H1.out.below hb22 (by omega))
  replace H2 := Lib.hid (H2.out.below hb22 (by omega))
  replace W0 := Lib.hid (W0.out.below hb22 (by omega))
  replace G0 := Lib.hid (G0.out.below hb22 (by omega))
  replace B := Lib.hid (B.out.trans (hb22.mono (by omega)))
  clear hb22
  rw [decide_eq_true rfl]
  go_wp2_with fail
  refine (markFixS_any _ R0 _ _ _ _ G0.out hRn0 (by omega) (by omega)).mono ?_
  rintro e w23 ⟨rfl, hN0, hb23⟩
  have s23 := hb23.size
  replace H0 := Lib.hid (H0.out.touch hb23 (by omega))
  replace H1 := Lib.hid (H1.out.touch hb23 (by omega))
  replace H2 := Lib.hid (H2.out.touch hb23 (by omega))
  replace W0 := Lib.hid (W0.out.touch hb23 (by omega))
  replace B := Lib.hid (B.out.trans (hb23.below (by omega) (by omega)))
  have N0 := Lib.hid hN0
  clear G0
  clear hN0 hb23
  go_wp2_with fail
  refine (heldFixS_any _ _ _ _ N0.out.quads hRn0 (by omega) (by omega)).mono ?_
  rintro e w24 ⟨rfl, hb24⟩
  have s24 := hb24.size
  replace H0 := Lib.hid (H0.out.below hb24 (by omega))
  replace H1 := Lib.hid (H1.out.below hb24 (by omega))
  replace H2 := Lib.hid (H2.out.below hb24 (by omega))
  replace W0 := Lib.hid (W0.out.below hb24 (by omega))
  replace N0 := Lib.hid (N0.out.below hb24 (by omega))
  replace B := Lib.hid (B.out.trans (hb24.mono (by omega)))
  clear hb24
  go_wp2_with fail
  refine (toIntSS_own _ g0 _ (H0.out.grid (by omega)) e0c Z0.out).mono ?_
  rintro e w25 ⟨vQ0, rfl, hQ0, hb25⟩
  have s25 := hb25.size
  replace H0 := Lib.hid (H0.out.below hb25 (by omega))
  replace H1 := Lib.hid (H1.out.below hb25 (by omega))
  replace H2 := Lib.hid (H2.out.below hb25 (by omega))
  replace W0 := Lib.hid (W0.out.below hb25 (by omega))
  replace N0 := Lib.hid (N0.out.below hb25 (by omega))
  replace B := Lib.hid (B.out.trans (hb25.mono (by omega)))
  have Q0 := Lib.hid hQ0
  clear hQ0 hb25
  go_wp2_with fail
  refine (toFixS_any _ l1 _ (H1.out.quads (by omega)) hl1).mono ?_
  rintro e w26 ⟨vQ1, rfl, hQ1, hb26⟩
  have s26 := hb26.size
  replace H0 := Lib.hid (H0.out.below hb26 (by omega))
  replace H1 := Lib.hid (H1.out.below hb26 (by omega))
  replace H2 := Lib.hid (H2.out.below hb26 (by omega))
  replace W0 := Lib.hid (W0.out.below hb26 (by omega))
  replace N0 := Lib.hid (N0.out.below hb26 (by omega))
  replace Q0 := Lib.hid (Q0.out.below hb26 (by omega))
  replace B := Lib.hid (B.out.trans (hb26.mono (by omega)))
  have Q1 := Lib.hid hQ1
  clear hQ1 hb26
  go_wp2_with fail
  refine (toFixS_any _ l2 _ (H2.out.quads (by omega)) hl2).mono ?_
  rintro e w27 ⟨vQ2, rfl, hQ2, hb27⟩
  have s27 := hb27.size
  replace H0 := Lib.hid (H0.out.below hb27 (by omega))
  replace H1 := Lib.hid (H1.out.below hb27 (by omega))
  replace H2 := Lib.hid (H2.out.below hb27 (by omega))
  replace W0 := Lib.hid (W0.out.below hb27 (by omega))
  replace N0 := Lib.hid (N0.out.below hb27 (by omega))
  replace Q0 := Lib.hid (Q0.out.below hb27 (by omega))
  replace Q1 := Lib.hid (Q1.out.below hb27 (by omega))
  replace B := Lib.hid (B.out.trans (hb27.mono (by omega)))
  have Q2 := Lib.hid hQ2
  clear hQ2 hb27
  go_wp2_with fail
  refine (C1.out _ _ _ _ (Q0.out.grid (by omega)) Q1.out.quads Q2.out.quads).mono ?_
  rintro e w28 ⟨zE0, rfl, hE0, hb28⟩
  have s28 := hb28.size
  replace H0 := Lib.hid (H0.out.below hb28 (by omega))
  replace H1 := Lib.hid (H1.out.below hb28 (by omega))
  replace H2 := Lib.hid (H2.out.below hb28 (by omega))
  replace W0 := Lib.hid (W0.out.below hb28 (by omega))
  replace N0 := Lib.hid (N0.out.below hb28 (by omega))
  replace Q0 := Lib.hid (Q0.out.below hb28 (by omega))
  replace Q1 := Lib.hid (Q1.out.below hb28 (by omega))
  replace Q2 := Lib.hid (Q2.out.below hb28 (by omega))
  replace B := Lib.hid (B.out.trans (hb28.mono (by omega)))
  have E0 := Lib.hid hE0
  clear hE0 hb28
  clear Q0
  clear Q1
  clear Q2
  go_wp2_with fail
  refine (eqFixS_any _ _ R0 R0 _ E0.out.quads W0.out.quads).mono ?_
  rintro e w29 ⟨rfl, hb29⟩
  have s29 := hb29.size
  replace H0 := Lib.hid (H0.out.below hb29 (by omega))
  replace H1 := Lib.hid (H1.out.below hb29 (by omega))
  replace H2 := Lib.hid (H2.out.below hb29 (by omega))
  replace W0 := Lib.hid (W0.out.below hb29 (by omega))
  replace N0 := Lib.hid (N0.out.below hb29 (by omega))
  replace E0 := Lib.hid (E0.out.below hb29 (by omega))
  replace B := Lib.hid (B.out.trans (hb29.mono (by omega)))
  clear hb29
  rw [decide_eq_true rfl]
  go_wp2_with fail
  refine (heldFixS_any _ _ _ _ N0.out.quads hRn0 (by omega) (by omega)).mono ?_
  rintro e w30 ⟨rfl, hb30⟩
  have s30 := hb30.size
  replace H0 := Lib.hid (H0.out.below hb30 (by omega))
  replace H1 := Lib.hid (H1.out.below hb30 (by omega))
  replace H2 := Lib.hid (H2.out.below hb30 (by omega))
  replace W0 := Lib.hid (W0.out.below hb30 (by omega))
  replace N0 := Lib.hid (N0.out.below hb30 (by omega))
  replace E0 := Lib.hid (E0.out.below hb30 (by omega))
  replace B := Lib.hid (B.out.trans (hb30.mono (by omega)))
  clear hb30
  go_wp2
  go_ret
  exact ⟨rfl, B.out⟩
end Go.Proofs.Ytdelcebkpdnnjaa
namespace Go.Proofs.Ytdelcebkpdnnjaa.fnExactFixesBoth
open Go.ChangeShapes Go.WideShapes Go.ChangeAt Go.RowKit
set_option linter.unusedVariables false

theorem own : ownKnob Try.prog.godebug = none := by kernel_rfl
theorem laidOut : laidOutB Try.prog = true := fact_laid
set_option maxRecDepth 100000 in
theorem lifted (os : Os) (started : os.Started) (H : Type) (enc : TypeId × Value → H) :
    ReturnsInHanded {} Try.checked os 5 .any (Rows.fnExactFixesBothSpec.pre6 enc Try.prog Try.f5 Rows.fnExactFixesBothRow.domain false) (Rows.fnExactFixesBothSpec.post enc Try.prog Try.f5 false true false false) := by
  refine returnsInHanded_of_change (C := Try.checked) own started (by kernel_rfl) Try.func5
    (ChangeSpec.witness6 (enc := enc) (C := Try.checked) false ⟨#[], #[.slice none 0 0, .slice none 0 0, .slice none 0 0], []⟩ 8 (by kernel_rfl) (by kernel_rfl) (by kernel_rfl) (by kernel_rfl)) ?_
  intro W base args ds gs before hval0 hW hcnd _
  have hval : ∀ (j : Nat) t v, Try.f5.params[j]? = some t → args[j]? = some v → Value.okWide Try.prog W .any base t v := hval0
  have hW' := hW
  obtain ⟨p, q, hA0, hV, rfl, hfz, hnd⟩ := hW
  have hA : DataW.TrodAll enc Try.prog W 0 (fun _ => true) true Try.f5.params.toList args.toList ds p := hA0
  rw [Try.params5] at hA hval
  obtain ⟨v0, vs0, d0, ds0, p0, q0, hargs, rfl, rfl, h0, r0⟩ := trodAll_cons hA
  obtain ⟨v1, vs1, d1, ds1, p1, q1, rfl, rfl, rfl, h1, r1⟩ := trodAll_cons r0
  obtain ⟨v2, vs2, d2, ds2, p2, q2, rfl, rfl, rfl, h2, r2⟩ := trodAll_cons r1
  obtain ⟨rfl, rfl, rfl⟩ := trodAll_nil r2
  obtain rfl : args = #[v0, v1, v2] := by cases args; simp_all
  obtain ⟨rfl, rfl⟩ := trodVars_none hV
  obtain ⟨a0, len0, cap0, rfl⟩ := okWide_slice Try.underlying23 (hval 0 23 v0 rfl rfl)
  have k0 := h0
  have lt0 : ∀ x ∈ p0, x.block < W.heap.size := by obtain ⟨m, hm⟩ := k0; exact DataW.trod_lt m _ _ _ hm
  obtain ⟨z0, w0⟩ : ∃ zs, Grid W (.slice a0 len0 cap0) zs := rows_opened h0
  obtain ⟨a1, len1, cap1, rfl⟩ := okWide_slice Try.underlying45 (hval 1 45 v1 rfl rfl)
  have k1 := h1
  have lt1 : ∀ x ∈ p1, x.block < W.heap.size := by obtain ⟨m, hm⟩ := k1; exact DataW.trod_lt m _ _ _ hm
  obtain ⟨z1, w1⟩ : ∃ zs, Quads W (.slice a1 len1 cap1) zs := fixes_opened h1
  obtain ⟨a2, len2, cap2, rfl⟩ := okWide_slice Try.underlying45 (hval 2 45 v2 rfl rfl)
  have k2 := h2
  have lt2 : ∀ x ∈ p2, x.block < W.heap.size := by obtain ⟨m, hm⟩ := k2; exact DataW.trod_lt m _ _ _ hm
  obtain ⟨z2, w2⟩ : ∃ zs, Quads W (.slice a2 len2 cap2) zs := fixes_opened h2
  clear hA0 hval0
  refine (FnExactFixesBoth_walk _ z0 _ z1 _ z2 W w0 w1 w2).mono fun e W' ⟨he, bel⟩ => ?_
  subst he
  exact ⟨_, rfl, _, _, _, [], _, [], hW', trodAll_mk1 (shut_bool Try.underlying4 _), (trodAll_cons_mk (Below.trod laidOut (by kernel_rfl) (of_decide_eq_true (by kernel_rfl)) k0 bel lt0) (trodAll_cons_mk (Below.trod laidOut (by kernel_rfl) (of_decide_eq_true (by kernel_rfl)) k1 bel lt1) (trodAll_cons_mk (Below.trod laidOut (by kernel_rfl) (of_decide_eq_true (by kernel_rfl)) k2 bel lt2) trodAll_mk0))), rfl, bel.frame _, fun h => by cases h⟩
theorem fact_inPlace : (Rows.fnExactFixesBothRow.inPlace == Try.prog.inPlace 5) = true := by kernel_rfl
theorem fact_unfollowed : (Rows.fnExactFixesBothRow.unfollowed == Try.prog.unfollowed 5) = true := by kernel_rfl
theorem fact_recurses : (Rows.fnExactFixesBothRow.recurses == Try.prog.recurses 5) = true := by kernel_rfl
theorem fact_named : (Rows.fnExactFixesBothRow.named == Try.prog.varsNamed 5) = true := by kernel_rfl
theorem fact_plain : (Rows.fnExactFixesBothRow.plainKeys == Try.prog.plainKeys) = true := by kernel_rfl
theorem joined : joinedFacts Try.pinned.checked.prog 5 Try.f5 Rows.fnExactFixesBothSpec Rows.fnExactFixesBothRow = true :=
  joined_of (f := 5) (fn := Try.f5) (s := Rows.fnExactFixesBothSpec) (c := Rows.fnExactFixesBothRow) (by kernel_rfl) (by kernel_rfl) (by kernel_rfl) (by kernel_rfl) (by kernel_rfl) fact_inPlace fact_unfollowed fact_recurses fact_named (by kernel_rfl) (by kernel_rfl) (by kernel_rfl) (by kernel_rfl) (by kernel_rfl) (by kernel_rfl) (by kernel_rfl) (by kernel_rfl) (by kernel_rfl) fact_plain (by kernel_rfl) rfl rfl (by kernel_rfl) (by kernel_rfl) (by kernel_rfl) (by kernel_rfl)

/-- the statement -/
theorem proved : Rows.FnExactFixesBothSaid :=
  OpenClaim.holds_of_wide 5 Try.f5 rfl rfl rfl rfl rfl rfl rfl ⟨rfl, rfl, rfl, rfl, rfl⟩ rfl rfl rfl rfl rfl (by kernel_rfl) Try.func5 joined
    (of_decide_eq_true (by kernel_rfl)) (by unfold Func.isWrapper; first | (rw [if_pos (by decide +kernel)]; kernel_rfl) | (rw [if_neg (by decide +kernel)]; exact ⟨rfl, rfl⟩))
    (fun os started H enc _ => lifted os started H enc)
#print axioms proved
end Go.Proofs.Ytdelcebkpdnnjaa.fnExactFixesBoth
