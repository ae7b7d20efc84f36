/-
  FnExactFixesClash: for all arguments the law returns true and leaves what was there as it was. No condition.
-/
import Derived.Test.YtebhbcjioolpeabClash
import Derived.Test.YtebhbcjioolpeabOwnG
import Derived.Test.YtebhbcjioolpeabFixSz
import Derived.Test.YtebhbcjioolpeabFixOpen
import Derived.Test.YtebhbcjioolpeabFacts
import Derived.ProofKit
import Derived.OpenShut
import Derived.ShutString
import Derived.ChangeOld
import Derived.Below
namespace Go.Proofs.Ytebhbcjioolpeab
open Go.RowKit Go.Deep

set_option maxHeartbeats 4000000 in
set_option maxRecDepth 100000 in
theorem FnExactFixesClash_walk (v0 : Value) (g0 : Rows) (v1 : Value) (l1 : List Quad) (v2 : Value) (l2 : List Quad) (w : World) (h0 : Grid w v0 g0) (h1 : Quads w v1 l1) (h2 : Quads w v2 l2) :
    Calls Try.prog 9 #[v0, v1, v2] w fun e w' => e = .returned (.bool true) ∧ Below w.heap.size w w' := by
  obtain ⟨a0, c0, rfl, hc01, hc02, hc03⟩ := id h0
  have H0 := Lib.hid (show GridB w.heap.size w _ g0 from h0)
  clear h0 hc03
  obtain ⟨a1, c1, rfl, hc11, hc12, hc13⟩ := id h1
  have H1 := Lib.hid h1.quadsB
  clear h1 hc13
  obtain ⟨a2, c2, rfl, hc21, hc22, hc23⟩ := id h2
  have H2 := Lib.hid h2.quadsB
  clear h2 hc23
  have s0 := Nat.le_refl w.heap.size
  go_enter Try.func9, Try.ntmps9
  go_wp2_with fail
  refine (szIntSS_any _ g0 _ _ (H0.out.grid (by omega)) (by omega) (by omega)).mono ?_
  rintro e w1 ⟨m0, rfl, hS0, hb1⟩
  have s1 := hb1.size
  replace H0 := Lib.hid (H0.out.below hb1 (by omega))
  replace H1 := Lib.hid (H1.out.below hb1 (by omega))
  replace H2 := Lib.hid (H2.out.below hb1 (by omega))
  have B := Lib.hid (hb1)
  have S0 := Lib.hid hS0
  clear hS0 hb1
  by_cases hn0 : m0 < 0
  · go_wp2
    go_ret
    exact ⟨rfl, B.out⟩
  obtain ⟨e0a, e0b, e0c, e0d⟩ := S0.out.resolve_left hn0
  have Z0 := Lib.hid e0d
  clear S0 e0d
  by_cases hbig1 : m0 < l1.length
  · go_wp2_with fail
    refine (szFixS_no _ l1 _ _ (H1.out.quads (by omega)) (by omega) (by omega)).mono ?_
    rintro e wn ⟨rfl, hbn⟩
    go_wp2
    go_ret
    exact ⟨rfl, B.out.trans (hbn.mono (by omega))⟩
  go_wp2_with fail
  refine (szFixS_yes _ l1 _ _ (H1.out.quads (by omega)) (by omega) (by omega)).mono ?_
  rintro e w2 ⟨rfl, hb2⟩
  have s2 := hb2.size
  replace H0 := Lib.hid (H0.out.below hb2 (by omega))
  replace H1 := Lib.hid (H1.out.below hb2 (by omega))
  replace H2 := Lib.hid (H2.out.below hb2 (by omega))
  replace B := Lib.hid (B.out.trans (hb2.mono (by omega)))
  clear hb2
  have hl1 : l1.length ≤ 1099511627776 := by omega
  by_cases hbig2 : (m0 - (l1.length : Int)) < l2.length
  · go_wp2_with fail
    refine (szFixS_no _ l2 _ _ (H2.out.quads (by omega)) (by omega) (by omega)).mono ?_
    rintro e wn ⟨rfl, hbn⟩
    go_wp2
    go_ret
    exact ⟨rfl, B.out.trans (hbn.mono (by omega))⟩
  go_wp2_with fail
  refine (szFixS_yes _ l2 _ _ (H2.out.quads (by omega)) (by omega) (by omega)).mono ?_
  rintro e w3 ⟨rfl, hb3⟩
  have s3 := hb3.size
  replace H0 := Lib.hid (H0.out.below hb3 (by omega))
  replace H1 := Lib.hid (H1.out.below hb3 (by omega))
  replace H2 := Lib.hid (H2.out.below hb3 (by omega))
  replace B := Lib.hid (B.out.trans (hb3.mono (by omega)))
  clear hb3
  have hl2 : l2.length ≤ 1099511627776 := by omega
  obtain ⟨R0, hR0⟩ : ∃ R, R = decide (ClashOk g0 l1 l2) := ⟨_, rfl⟩
  have hne0 : (R0 != R0) = false := by simp
  have C1 : Hid (∀ v0 v1 v2 W, Grid W v0 g0 → Quads W v1 l1 → Quads W v2 l2 → Calls Try.prog 47 #[v0, v1, v2] W fun e w' => e = .returned (.bool R0) ∧ Below W.heap.size W w') := by rw [hR0]; exact fun v0 v1 v2 W h0 h1 h2 => FixesClash_any v0 v1 v2 g0 l1 l2 W h0 h1 h2
  have C2 : Hid (∀ v0 v1 v2 W, Grid W v0 g0 → Quads W v1 l1 → Quads W v2 l2 → Calls Try.prog 46 #[v0, v1, v2] W fun e w' => e = .returned (.bool R0) ∧ Below W.heap.size W w') := by rw [hR0]; exact fun v0 v1 v2 W h0 h1 h2 => specFixesClash_any v0 v1 v2 g0 l1 l2 W h0 h1 h2
  clear hR0
  have T0 := tot_le Z0.out g0.length (Nat.le_refl _)
  go_wp2_with fail
  refine (toIntSS_own _ g0 _ (H0.out.grid (by omega)) e0c Z0.out).mono ?_
  rintro e w4 ⟨vP0, rfl, hP0, hb4⟩
  have s4 := hb4.size
  replace H0 := Lib.hid (H0.out.below hb4 (by omega))
  replace H1 := Lib.hid (H1.out.below hb4 (by omega))
  replace H2 := Lib.hid (H2.out.below hb4 (by omega))
  replace B := Lib.hid (B.out.trans (hb4.mono (by omega)))
  have P0 := Lib.hid hP0
  clear hP0 hb4
  go_wp2_with fail
  refine (toFixS_any _ l1 _ (H1.out.quads (by omega)) hl1).mono ?_
  rintro e w5 ⟨vP1, rfl, hP1, hb5⟩
  have s5 := hb5.size
  replace H0 := Lib.hid (H0.out.below hb5 (by omega))
  replace H1 := Lib.hid (H1.out.below hb5 (by omega))
  replace H2 := Lib.hid (H2.out.below hb5 (by omega))
  replace P0 := Lib.hid (P0.out.below hb5 (by omega))
  replace B := Lib.hid (B.out.trans (hb5.mono (by omega)))
  have P1 := Lib.hid hP1
  clear hP1 hb5
  go_wp2_with fail
  refine (toFixS_any _ l2 _ (H2.out.quads (by omega)) hl2).mono ?_
  rintro e w6 ⟨vP2, rfl, hP2, hb6⟩
  have s6 := hb6.size
  replace H0 := Lib.hid (H0.out.below hb6 (by omega))
  replace H1 := Lib.hid (H1.out.below hb6 (by omega))
  replace H2 := Lib.hid (H2.out.below hb6 (by omega))
  replace P0 := Lib.hid (P0.out.below hb6 (by omega))
  replace P1 := Lib.hid (P1.out.below hb6 (by omega))
  replace B := Lib.hid (B.out.trans (hb6.mono (by omega)))
  have P2 := Lib.hid hP2
  clear hP2 hb6
  go_wp2_with fail
  refine (C2.out _ _ _ _ (P0.out.grid (by omega)) P1.out.quads P2.out.quads).mono ?_
  rintro e w7 ⟨rfl, hb7⟩
  have s7 := hb7.size
  replace H0 := Lib.hid (H0.out.below hb7 (by omega))
  replace H1 := Lib.hid (H1.out.below hb7 (by omega))
  replace H2 := Lib.hid (H2.out.below hb7 (by omega))
  replace P0 := Lib.hid (P0.out.below hb7 (by omega))
  replace P1 := Lib.hid (P1.out.below hb7 (by omega))
  replace P2 := Lib.hid (P2.out.below hb7 (by omega))
  replace B := Lib.hid (B.out.trans (hb7.mono (by omega)))
  clear hb7
  clear P0
  clear P1
  clear P2
  go_wp2_with fail
  refine (toIntSS_own _ g0 _ (H0.out.grid (by omega)) e0c Z0.out).mono ?_
  rintro e w8 ⟨vX0, rfl, hX0, hb8⟩
  have s8 := hb8.size
  replace H0 := Lib.hid (H0.out.below hb8 (by omega))
  replace H1 := Lib.hid (H1.out.below hb8 (by omega))
  replace H2 := Lib.hid (H2.out.below hb8 (by omega))
  replace B := Lib.hid (B.out.trans (hb8.mono (by omega)))
  have X0 := Lib.hid hX0
  clear hX0 hb8
  go_wp2_with fail
  refine (toFixS_any _ l1 _ (H1.out.quads (by omega)) hl1).mono ?_
  rintro e w9 ⟨vX1, rfl, hX1, hb9⟩
  have s9 := hb9.size
  replace H0 := Lib.hid (H0.out.below hb9 (by omega))
  replace H1 := Lib.hid (H1.out.below hb9 (by omega))
  replace H2 := Lib.hid (H2.out.below hb9 (by omega))
  replace X0 := Lib.hid (X0.out.below hb9 (by omega))
  replace B := Lib.hid (B.out.trans (hb9.mono (by omega)))
  have X1 := Lib.hid hX1
  clear hX1 hb9
  go_wp2_with fail
  refine (toFixS_any _ l2 _ (H2.out.quads (by omega)) hl2).mono ?_
  rintro e w10 ⟨vX2, rfl, hX2, hb10⟩
  have s10 := hb10.size
  replace H0 := Lib.hid (H0.out.below hb10 (by omega))
  replace H1 := Lib.hid (H1.out.below hb10 (by omega))
  replace H2 := Lib.hid (H2.out.below hb10 (by omega))
  replace X0 := Lib.hid (X0.out.below hb10 (by omega))
  replace X1 := Lib.hid (X1.out.below hb10 (by omega))
  replace B := Lib.hid (B.out.trans (hb10.mono (by omega)))
  have X2 := Lib.hid hX2
  clear hX2 hb10
  go_wp2_with fail
  refine (C1.out _ _ _ _ (X0.out.grid (by omega)) X1.out.quads X2.out.quads).mono ?_
  rintro e w11 ⟨rfl, hb11⟩
  have s11 := hb11.size
  replace H0 := Lib.hid (H0.out.below hb11 (by omega))
  replace H1 := Lib.hid (H1.out.below hb11 (by omega))
  replace H2 := Lib.hid (H2.out.below hb11 (by omega))
  replace X0 := Lib.hid (X0.out.below hb11 (by omega))
  replace X1 := Lib.hid (X1.out.below hb11 (by omega))
  replace X2 := Lib.hid (X2.out.below hb11 (by omega))
  replace B := Lib.hid (B.out.trans (hb11.mono (by omega)))
  clear hb11
  go_wp2_with fail
  refine (toIntSS_own _ g0 _ (H0.out.grid (by omega)) e0c Z0.out).mono ?_
  rintro e w12 ⟨vY0, rfl, hY0, hb12⟩
  have s12 := hb12.size
  replace H0 := Lib.hid (H0.out.below hb12 (by omega))
  replace H1 := Lib.hid (H1.out.below hb12 (by omega))
  replace H2 := Lib.hid (H2.out.below hb12 (by omega))
  replace X0 := Lib.hid (X0.out.below hb12 (by omega))
  replace X1 := Lib.hid (X1.out.below hb12 (by omega))
  replace X2 := Lib.hid (X2.out.below hb12 (by omega))
  replace B := Lib.hid (B.out.trans (hb12.mono (by omega)))
  have Y0 := Lib.hid hY0
  clear hY0 hb12
  go_wp2_with fail
  refine (eqIntSS_b _ _ g0 g0 _ (X0.out.grid (by omega)) (Y0.out.grid (by omega))).mono ?_
  rintro e w13 ⟨rfl, hb13⟩
  have s13 := hb13.size
  replace H0 := Lib.hid (H0.out.below hb13 (by omega))
  replace H1 := Lib.hid (H1.out.below hb13 (by omega))
  replace H2 := Lib.hid (H2.out.below hb13 (by omega))
  replace X0 := Lib.hid (X0.out.below hb13 (by omega))
  replace X1 := Lib.hid (X1.out.below hb13 (by omega))
  replace X2 := Lib.hid (X2.out.below hb13 (by omega))
  replace Y0 := Lib.hid (Y0.out.below hb13 (by omega))
  replace B := Lib.hid (B.out.trans (hb13.mono (by omega)))
  clear hb13
  rw [decide_eq_true rfl]
  clear Y0
  go_wp2_with fail
  refine (toFixS_any _ l1 _ (H1.out.quads (by omega)) hl1).mono ?_
  rintro e w14 ⟨vY1, rfl, hY1, hb14⟩
  have s14 := hb14.size
  replace H0 := Lib.hid (H0.out.below hb14 (by omega))
  replace H1 := Lib.hid (H1.out.below hb14 (by omega))
  replace H2 := Lib.hid (H2.out.below hb14 (by omega))
  replace X0 := Lib.hid (X0.out.below hb14 (by omega))
  replace X1 := Lib.hid (X1.out.below hb14 (by omega))
  replace X2 := Lib.hid (X2.out.below hb14 (by omega))
  replace B := Lib.hid (B.out.trans (hb14.mono (by omega)))
  have Y1 := Lib.hid hY1
  clear hY1 hb14
  go_wp2_with fail
  refine (eqFixS_any _ _ l1 l1 _ X1.out.quads Y1.out.quads).mono ?_
  rintro e w15 ⟨rfl, hb15⟩
  have s15 := hb15.size
  replace H0 := Lib.hid (H0.out.below hb15 (by omega))
  replace H1 := Lib.hid (H1.out.below hb15 (by omega))
  replace H2 := Lib.hid (H2.out.below hb15 (by omega))
  replace X0 := Lib.hid (X0.out.below hb15 (by omega))
  replace X1 := Lib.hid (X1.out.below hb15 (by omega))
  replace X2 := Lib.hid (X2.out.below hb15 (by omega))
  replace Y1 := Lib.hid (Y1.out.below hb15 (by omega))
  replace B := Lib.hid (B.out.trans (hb15.mono (by omega)))
  clear hb15
  rw [decide_eq_true rfl]
  clear Y1
  go_wp2_with fail
  refine (toFixS_any _ l2 _ (H2.out.quads (by omega)) hl2).mono ?_
  rintro e w16 ⟨vY2, rfl, hY2, hb16⟩
  have s16 := hb16.size
  replace H0 := Lib.hid (H0.out.below hb16 (by omega))
  replace H1 := Lib.hid (H1.out.below hb16 (by omega))
  replace H2 := Lib.hid (H2.out.below hb16 (by omega))
  replace X0 := Lib.hid (X0.out.below hb16 (by omega))
  replace X1 := Lib.hid (X1.out.below hb16 (by omega))
  replace X2 := Lib.hid (X2.out.below hb16 (by omega))
  replace B := Lib.hid (B.out.trans (hb16.mono (by omega)))
  have Y2 := Lib.hid hY2
  clear hY2 hb16
  go_wp2_with fail
  refine (eqFixS_any _ _ l2 l2 _ X2.out.quads Y2.out.quads).mono ?_
  rintro e w17 ⟨rfl, hb17⟩
  have s17 := hb17.size
  replace H0 := Lib.hid (H0.out.below hb17 (by omega))
  replace H1 := Lib.hid (H1.out.below hb17 (by omega))
  replace H2 := Lib.hid (H2.out.below hb17 (by omega))
  replace X0 := Lib.hid (X0.out.below hb17 (by omega))
  replace X1 := Lib.hid (X1.out.below hb17 (by omega))
  replace X2 := Lib.hid (X2.out.below hb17 (by omega))
  replace Y2 := Lib.hid (Y2.out.below hb17 (by omega))
  replace B := Lib.hid (B.out.trans (hb17.mono (by omega)))
  clear hb17
  rw [decide_eq_true rfl]
  clear Y2
  go_wp2
  go_ret
  exact ⟨rfl, B.out⟩
end Go.Proofs.Ytebhbcjioolpeab
namespace Go.Proofs.Ytebhbcjioolpeab.fnExactFixesClash
open Go.ChangeShapes Go.WideShapes Go.ChangeAt Go.RowKit
set_option linter.unusedVariables false

theorem own : ownKnob Try.prog.godebug = none := by kernel_rfl
theorem laidOut : laidOutB Try.prog = true := fact_laid
set_option maxRecDepth 100000 in
theorem lifted (os : Os) (started : os.Started) (H : Type) (enc : TypeId × Value → H) :
    ReturnsInHanded {} Try.checked os 9 .any (Rows.fnExactFixesClashSpec.pre6 enc Try.prog Try.f9 Rows.fnExactFixesClashRow.domain false) (Rows.fnExactFixesClashSpec.post enc Try.prog Try.f9 false true false false) := by
  refine returnsInHanded_of_change (C := Try.checked) own started (by kernel_rfl) Try.func9
    (ChangeSpec.witness6 (enc := enc) (C := Try.checked) false ⟨#[], #[.slice none 0 0, .slice none 0 0, .slice none 0 0], []⟩ 8 (by kernel_rfl) (by kernel_rfl) (by kernel_rfl) (by kernel_rfl)) ?_
  intro W base args ds gs before hval0 hW hcnd _
  have hval : ∀ (j : Nat) t v, Try.f9.params[j]? = some t → args[j]? = some v → Value.okWide Try.prog W .any base t v := hval0
  have hW' := hW
  obtain ⟨p, q, hA0, hV, rfl, hfz, hnd⟩ := hW
  have hA : DataW.TrodAll enc Try.prog W 0 (fun _ => true) true Try.f9.params.toList args.toList ds p := hA0
  rw [Try.params9] at hA hval
  obtain ⟨v0, vs0, d0, ds0, p0, q0, hargs, rfl, rfl, h0, r0⟩ := trodAll_cons hA
  obtain ⟨v1, vs1, d1, ds1, p1, q1, rfl, rfl, rfl, h1, r1⟩ := trodAll_cons r0
  obtain ⟨v2, vs2, d2, ds2, p2, q2, rfl, rfl, rfl, h2, r2⟩ := trodAll_cons r1
  obtain ⟨rfl, rfl, rfl⟩ := trodAll_nil r2
  obtain rfl : args = #[v0, v1, v2] := by cases args; simp_all
  obtain ⟨rfl, rfl⟩ := trodVars_none hV
  obtain ⟨a0, len0, cap0, rfl⟩ := okWide_slice Try.underlying23 (hval 0 23 v0 rfl rfl)
  have k0 := h0
  have lt0 : ∀ x ∈ p0, x.block < W.heap.size := by obtain ⟨m, hm⟩ := k0; exact DataW.trod_lt m _ _ _ hm
  obtain ⟨z0, w0⟩ : ∃ zs, Grid W (.slice a0 len0 cap0) zs := rows_opened h0
  obtain ⟨a1, len1, cap1, rfl⟩ := okWide_slice Try.underlying42 (hval 1 42 v1 rfl rfl)
  have k1 := h1
  have lt1 : ∀ x ∈ p1, x.block < W.heap.size := by obtain ⟨m, hm⟩ := k1; exact DataW.trod_lt m _ _ _ hm
  obtain ⟨z1, w1⟩ : ∃ zs, Quads W (.slice a1 len1 cap1) zs := fixes_opened h1
  obtain ⟨a2, len2, cap2, rfl⟩ := okWide_slice Try.underlying42 (hval 2 42 v2 rfl rfl)
  have k2 := h2
  have lt2 : ∀ x ∈ p2, x.block < W.heap.size := by obtain ⟨m, hm⟩ := k2; exact DataW.trod_lt m _ _ _ hm
  obtain ⟨z2, w2⟩ : ∃ zs, Quads W (.slice a2 len2 cap2) zs := fixes_opened h2
  clear hA0 hval0
  refine (FnExactFixesClash_walk _ z0 _ z1 _ z2 W w0 w1 w2).mono fun e W' ⟨he, bel⟩ => ?_
  subst he
  exact ⟨_, rfl, _, _, _, [], _, [], hW', trodAll_mk1 (shut_bool Try.underlying4 _), (trodAll_cons_mk (Below.trod laidOut (by kernel_rfl) (of_decide_eq_true (by kernel_rfl)) k0 bel lt0) (trodAll_cons_mk (Below.trod laidOut (by kernel_rfl) (of_decide_eq_true (by kernel_rfl)) k1 bel lt1) (trodAll_cons_mk (Below.trod laidOut (by kernel_rfl) (of_decide_eq_true (by kernel_rfl)) k2 bel lt2) trodAll_mk0))), rfl, bel.frame _, fun h => by cases h⟩
theorem fact_inPlace : (Rows.fnExactFixesClashRow.inPlace == Try.prog.inPlace 9) = true := by kernel_rfl
theorem fact_unfollowed : (Rows.fnExactFixesClashRow.unfollowed == Try.prog.unfollowed 9) = true := by kernel_rfl
theorem fact_recurses : (Rows.fnExactFixesClashRow.recurses == Try.prog.recurses 9) = true := by kernel_rfl
theorem fact_named : (Rows.fnExactFixesClashRow.named == Try.prog.varsNamed 9) = true := by kernel_rfl
theorem fact_plain : (Rows.fnExactFixesClashRow.plainKeys == Try.prog.plainKeys) = true := by kernel_rfl
theorem joined : joinedFacts Try.pinned.checked.prog 9 Try.f9 Rows.fnExactFixesClashSpec Rows.fnExactFixesClashRow = true :=
  joined_of (f := 9) (fn := Try.f9) (s := Rows.fnExactFixesClashSpec) (c := Rows.fnExactFixesClashRow) (by kernel_rfl) (by kernel_rfl) (by kernel_rfl) (by kernel_rfl) (by kernel_rfl) fact_inPlace fact_unfollowed fact_recurses fact_named (by kernel_rfl) (by kernel_rfl) (by kernel_rfl) (by kernel_rfl) (by kernel_rfl) (by kernel_rfl) (by kernel_rfl) (by kernel_rfl) (by kernel_rfl) fact_plain (by kernel_rfl) rfl rfl (by kernel_rfl) (by kernel_rfl) (by kernel_rfl) (by kernel_rfl)

/-- the statement -/
theorem proved : Rows.FnExactFixesClashSaid :=
  OpenClaim.holds_of_wide 9 Try.f9 rfl rfl rfl rfl rfl rfl rfl ⟨rfl, rfl, rfl, rfl, rfl⟩ rfl rfl rfl rfl rfl (by kernel_rfl) Try.func9 joined
    (of_decide_eq_true (by kernel_rfl)) (by unfold Func.isWrapper; first | (rw [if_pos (by decide +kernel)]; kernel_rfl) | (rw [if_neg (by decide +kernel)]; exact ⟨rfl, rfl⟩))
    (fun os started H enc _ => lifted os started H enc)
#print axioms proved
end Go.Proofs.Ytebhbcjioolpeab.fnExactFixesClash
