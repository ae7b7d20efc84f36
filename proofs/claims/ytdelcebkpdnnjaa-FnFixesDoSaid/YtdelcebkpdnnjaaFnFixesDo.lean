/-
  FnFixesDo: for all arguments the law returns true and leaves what was there as it was. No condition.
-/
import Derived.Test.YtdelcebkpdnnjaaFixD
import Derived.Test.YtdelcebkpdnnjaaDoAll
import Derived.Test.YtdelcebkpdnnjaaSame
import Derived.Test.YtdelcebkpdnnjaaFacts
import Derived.ProofKit
import Derived.OpenShut
import Derived.ShutString
import Derived.ChangeOld
import Derived.Below
import Derived.Test.YtdelcebkpdnnjaaFacts
import Derived.ProofKit
import Derived.OpenShut
import Derived.ShutString
import Derived.ChangeOld
import Derived.Below
namespace Go.Proofs.Ytdelcebkpdnnjaa
open Go.RowKit Go.Deep

set_option maxHeartbeats 4000000 in
set_option maxRecDepth 100000 in
theorem FnFixesDo_walk (v : Value) (n : Nat) (w : World) (h : Bytes w v n) :
    Calls Try.prog 8 #[v] w fun e w' => e = .returned (.bool true) ∧ Below w.heap.size w w' := by
  have CD := Lib.hid (DrawFixesDo_any v n w h)
  obtain ⟨a, cap, rfl, h1, h2, h3⟩ := h
  clear h3
  by_cases hbig : 1048576 < n
  · have hb' : (1048576 : Int) < (n : Int) := by omega
    go_enter Try.func8, Try.ntmps8
    go_wp2
    go_ret
    exact ⟨rfl, Below.refl _ _⟩
  have hb' : ¬ (1048576 : Int) < (n : Int) := by omega
  clear hbig
  go_enter Try.func8, Try.ntmps8
  go_wp2_with fail
  refine CD.out.mono ?_
  rintro e w1 ⟨va, vb, ga, l, rfl, hA, hB, dA, hl6, hb1⟩
  have B := Lib.hid hb1
  have s1 := hb1.size
  obtain ⟨bp, cp, rfl, c1, c2, c3⟩ := id hB
  clear c3
  have A := Lib.hid (show GridB w1.heap.size w1 va ga from hA)
  have L := Lib.hid (show QuadsB w1.heap.size w1 (.slice bp l.length cp) l from hB)
  clear hA hB hb1 CD
  go_wp2_with fail
  with_reducible refine (FixesDo_any va _ ga l w1 (A.out.grid (by omega)) (L.out.quads (by omega))).mono ?_
  rintro e w2 ⟨vo, rfl, hO, hb2⟩
  have s2 := hb2.size
  replace A := Lib.hid (A.out.below hb2 (by omega))
  replace L := Lib.hid (L.out.below hb2 (by omega))
  replace B := Lib.hid (B.out.trans (hb2.mono (by omega)))
  clear hb2
  have OG := Lib.hid (show GridB w2.heap.size w2 vo (edAll ga l) from hO.grid (Nat.le_refl _))
  clear hO
  go_wp2_with fail
  with_reducible refine (specFixesDo_any va _ ga l w2 (A.out.grid (by omega)) (L.out.quads (by omega))).mono ?_
  rintro e w3 ⟨vu, rfl, hO, hb3⟩
  have s3 := hb3.size
  replace A := Lib.hid (A.out.below hb3 (by omega))
  replace L := Lib.hid (L.out.below hb3 (by omega))
  replace OG := Lib.hid (OG.out.below hb3 (by omega))
  replace B := Lib.hid (B.out.trans (hb3.mono (by omega)))
  clear hb3
  have UG := Lib.hid (show GridB w3.heap.size w3 vu (edAll ga l) from hO.grid (Nat.le_refl _))
  clear hO
  by_cases hs : EdOk ga l
  · rw [decide_eq_true hs]
    rw [edAll_yes hs] at OG UG
    have HS := Lib.hid hs
    have OKA := Lib.hid hs.1
    have OKE := Lib.hid hs.grid.1
    have RT : Hid (riseOf ga l = totOf (edition ga l) - totOf ga) := rise_tot hs
    have rb := rise_bound ga l
    have tb := tot_bound hs.1
    have tb2 := tot_bound hs.grid.1
    obtain ⟨R, hR⟩ : ∃ x, x = riseOf ga l := ⟨_, rfl⟩
    obtain ⟨T0, hT0⟩ : ∃ x, x = totOf ga := ⟨_, rfl⟩
    obtain ⟨T1, hT1⟩ : ∃ x, x = totOf (edition ga l) := ⟨_, rfl⟩
    obtain ⟨N, hN⟩ : ∃ x, x = (diffsOf ga (edition ga l)).length := ⟨_, rfl⟩
    obtain ⟨M, hM⟩ : ∃ x, x = (cellsOut ga l).length := ⟨_, rfl⟩
    have nm : N ≤ M := by rw [hN, hM]; exact diffs_in_cells hs
    have nb : N ≤ 49 := by rw [hN]; exact make_len hs.like
    rw [← hR] at rb
    rw [← hT0] at tb
    rw [← hT1] at tb2
    have RR := Lib.hid hR
    have RT0 := Lib.hid hT0
    have RT1 := Lib.hid hT1
    have RN := Lib.hid hN
    have RM := Lib.hid hM
    have LK := Lib.hid hs.like
    have rt : T1 - T0 = R := by rw [hR, hT0, hT1]; exact RT.out.symm
    clear hs hR hT0 hT1 hN hM RT
    go_wp2_with fail
    with_reducible refine (sameGrid_b vo vu _ _ w3 (OG.out.grid (by omega)) (UG.out.grid (by omega))).mono ?_
    rintro e w4 ⟨rfl, hb4⟩
    rw [decide_eq_true (rfl : edition ga l = edition ga l)]
    have s4 := hb4.size
    replace A := Lib.hid (A.out.below hb4 (by omega))
    replace L := Lib.hid (L.out.below hb4 (by omega))
    replace OG := Lib.hid (OG.out.below hb4 (by omega))
    replace UG := Lib.hid (UG.out.below hb4 (by omega))
    replace B := Lib.hid (B.out.trans (hb4.mono (by omega)))
    clear hb4
    clear UG
    go_wp2_with fail
    with_reducible refine (FixesShort_any va _ ga l w4 (A.out.grid (by omega)) (L.out.quads (by omega))).mono ?_
    rintro e w5 ⟨vs, rfl, hO, hb5⟩
    rw [decide_eq_true HS.out]
    obtain ⟨sa, sc, rfl, _, _, _⟩ := hO.quads
    rw [shortOf_yes HS.out, ← RN.out]
    clear hO
    have s5 := hb5.size
    replace A := Lib.hid (A.out.below hb5 (by omega))
    replace L := Lib.hid (L.out.below hb5 (by omega))
    replace OG := Lib.hid (OG.out.below hb5 (by omega))
    replace B := Lib.hid (B.out.trans (hb5.mono (by omega)))
    clear hb5
    go_wp2_with fail
    with_reducible refine (FixesRise_any va _ ga l w5 (A.out.grid (by omega)) (L.out.quads (by omega))).mono ?_
    rintro e w6 ⟨rfl, hb6⟩
    rw [decide_eq_true HS.out, ← RR.out]
    have s6 := hb6.size
    replace A := Lib.hid (A.out.below hb6 (by omega))
    replace L := Lib.hid (L.out.below hb6 (by omega))
    replace OG := Lib.hid (OG.out.below hb6 (by omega))
    replace B := Lib.hid (B.out.trans (hb6.mono (by omega)))
    clear hb6
    go_wp2_with fail
    with_reducible refine (EditionFar_any va vo ga (edition ga l) w6 (A.out.grid (by omega)) (OG.out.grid (by omega))).mono ?_
    rintro e w7 ⟨rfl, hb7⟩
    rw [farOf_yes LK.out, ← RN.out]
    have s7 := hb7.size
    replace A := Lib.hid (A.out.below hb7 (by omega))
    replace L := Lib.hid (L.out.below hb7 (by omega))
    replace OG := Lib.hid (OG.out.below hb7 (by omega))
    replace B := Lib.hid (B.out.trans (hb7.mono (by omega)))
    clear hb7
    go_wp2_with fail
    with_reducible refine (FixesCells_any va _ ga l w7 (A.out.grid (by omega)) (L.out.quads (by omega))).mono ?_
    rintro e w8 ⟨vc, rfl, hO, hb8⟩
    obtain ⟨ca, cc, rfl, _, _, _⟩ := hO.ints
    rw [← RM.out]
    clear hO
    have s8 := hb8.size
    replace A := Lib.hid (A.out.below hb8 (by omega))
    replace L := Lib.hid (L.out.below hb8 (by omega))
    replace OG := Lib.hid (OG.out.below hb8 (by omega))
    replace B := Lib.hid (B.out.trans (hb8.mono (by omega)))
    clear hb8
    clear L
    go_wp2_with fail
    with_reducible refine (totalOf_any vo _ w8 (OG.out.grid (by omega)) OKE.out).mono ?_
    rintro e w9 ⟨rfl, hb9⟩
    rw [← RT1.out]
    have s9 := hb9.size
    replace A := Lib.hid (A.out.below hb9 (by omega))
    replace OG := Lib.hid (OG.out.below hb9 (by omega))
    replace B := Lib.hid (B.out.trans (hb9.mono (by omega)))
    clear hb9
    go_wp2_with fail
    with_reducible refine (totalOf_any va _ w9 (A.out.grid (by omega)) OKA.out).mono ?_
    rintro e w10 ⟨rfl, hb10⟩
    rw [← RT0.out]
    have s10 := hb10.size
    replace A := Lib.hid (A.out.below hb10 (by omega))
    replace OG := Lib.hid (OG.out.below hb10 (by omega))
    replace B := Lib.hid (B.out.trans (hb10.mono (by omega)))
    clear hb10
    have wr := wrap_small (x := T1 - T0) (by omega) (by omega)
    rw [rt] at wr
    go_wp2
    go_ret
    exact ⟨ret_bool (by simp <;> omega), B.out⟩
  · rw [decide_eq_false hs]
    rw [edAll_no hs] at OG UG
    clear hs
    go_wp2_with fail
    with_reducible refine (sameGrid_b vo vu _ _ w3 (OG.out.grid (by omega)) (UG.out.grid (by omega))).mono ?_
    rintro e w4 ⟨rfl, hb4⟩
    rw [decide_eq_true (rfl : ([] : Rows) = [])]
    have s4 := hb4.size
    replace A := Lib.hid (A.out.below hb4 (by omega))
    replace L := Lib.hid (L.out.below hb4 (by omega))
    replace OG := Lib.hid (OG.out.below hb4 (by omega))
    replace UG := Lib.hid (UG.out.below hb4 (by omega))
    replace B := Lib.hid (B.out.trans (hb4.mono (by omega)))
    clear hb4
    go_wp2_with fail
    with_reducible refine (sameGrid_b vo vu _ _ w4 (OG.out.grid (by omega)) (UG.out.grid (by omega))).mono ?_
    rintro e w5 ⟨rfl, hb5⟩
    rw [decide_eq_true (rfl : ([] : Rows) = [])]
    have s5 := hb5.size
    replace A := Lib.hid (A.out.below hb5 (by omega))
    replace L := Lib.hid (L.out.below hb5 (by omega))
    replace OG := Lib.hid (OG.out.below hb5 (by omega))
    replace UG := Lib.hid (UG.out.below hb5 (by omega))
    replace B := Lib.hid (B.out.trans (hb5.mono (by omega)))
    clear hb5
    go_wp2
    go_ret
    exact ⟨rfl, B.out⟩
end Go.Proofs.Ytdelcebkpdnnjaa
namespace Go.Proofs.Ytdelcebkpdnnjaa.fnFixesDo
open Go.ChangeShapes Go.WideShapes Go.ChangeAt Go.RowKit
set_option linter.unusedVariables false

theorem own : ownKnob Try.prog.godebug = none := by kernel_rfl
theorem laidOut : laidOutB Try.prog = true := fact_laid
set_option maxRecDepth 100000 in
theorem lifted (os : Os) (started : os.Started) (H : Type) (enc : TypeId × Value → H) :
    ReturnsInHanded {} Try.checked os 8 .any (Rows.fnFixesDoSpec.pre6 enc Try.prog Try.f8 Rows.fnFixesDoRow.domain false) (Rows.fnFixesDoSpec.post enc Try.prog Try.f8 false true false false) := by
  refine returnsInHanded_of_change (C := Try.checked) own started (by kernel_rfl) Try.func8
    (ChangeSpec.witness6 (enc := enc) (C := Try.checked) false ⟨#[], #[.slice none 0 0], []⟩ 8 (by kernel_rfl) (by kernel_rfl) (by kernel_rfl) (by kernel_rfl)) ?_
  intro W base args ds gs before hval0 hW hcnd _
  have hval : ∀ (j : Nat) t v, Try.f8.params[j]? = some t → args[j]? = some v → Value.okWide Try.prog W .any base t v := hval0
  have hW' := hW
  obtain ⟨p, q, hA0, hV, rfl, hfz, hnd⟩ := hW
  have hA : DataW.TrodAll enc Try.prog W 0 (fun _ => true) true Try.f8.params.toList args.toList ds p := hA0
  rw [Try.params8] at hA hval
  obtain ⟨v0, vs0, d0, ds0, p0, q0, hargs, rfl, rfl, h0, r0⟩ := trodAll_cons hA
  obtain ⟨rfl, rfl, rfl⟩ := trodAll_nil r0
  obtain rfl : args = #[v0] := by cases args; simp_all
  obtain ⟨rfl, rfl⟩ := trodVars_none hV
  obtain ⟨a0, len0, cap0, rfl⟩ := okWide_slice Try.underlying22 (hval 0 22 v0 rfl rfl)
  have k0 := h0
  have lt0 : ∀ x ∈ p0, x.block < W.heap.size := by obtain ⟨m, hm⟩ := k0; exact DataW.trod_lt m _ _ _ hm
  obtain ⟨z0, w0⟩ : ∃ zs, Bytes W (.slice a0 len0 cap0) zs := bytes_opened h0
  clear hA0 hval0
  refine (FnFixesDo_walk _ z0 W w0).mono fun e W' ⟨he, bel⟩ => ?_
  subst he
  exact ⟨_, rfl, _, _, _, [], _, [], hW', trodAll_mk1 (shut_bool Try.underlying4 _), (trodAll_cons_mk (Below.trod laidOut (by kernel_rfl) (of_decide_eq_true (by kernel_rfl)) k0 bel lt0) trodAll_mk0), rfl, bel.frame _, fun h => by cases h⟩
theorem fact_inPlace : (Rows.fnFixesDoRow.inPlace == Try.prog.inPlace 8) = true := by kernel_rfl
theorem fact_unfollowed : (Rows.fnFixesDoRow.unfollowed == Try.prog.unfollowed 8) = true := by kernel_rfl
theorem fact_recurses : (Rows.fnFixesDoRow.recurses == Try.prog.recurses 8) = true := by kernel_rfl
theorem fact_named : (Rows.fnFixesDoRow.named == Try.prog.varsNamed 8) = true := by kernel_rfl
theorem fact_plain : (Rows.fnFixesDoRow.plainKeys == Try.prog.plainKeys) = true := by kernel_rfl
theorem joined : joinedFacts Try.pinned.checked.prog 8 Try.f8 Rows.fnFixesDoSpec Rows.fnFixesDoRow = true :=
  joined_of (f := 8) (fn := Try.f8) (s := Rows.fnFixesDoSpec) (c := Rows.fnFixesDoRow) (by kernel_rfl) (by kernel_rfl) (by kernel_rfl) (by kernel_rfl) (by kernel_rfl) fact_inPlace fact_unfollowed fact_recurses fact_named (by kernel_rfl) (by kernel_rfl) (by kernel_rfl) (by kernel_rfl) (by kernel_rfl) (by kernel_rfl) (by kernel_rfl) (by kernel_rfl) (by kernel_rfl) fact_plain (by kernel_rfl) rfl rfl (by kernel_rfl) (by kernel_rfl) (by kernel_rfl) (by kernel_rfl)

/-- the statement -/
theorem proved : Rows.FnFixesDoSaid :=
  OpenClaim.holds_of_wide 8 Try.f8 rfl rfl rfl rfl rfl rfl rfl ⟨rfl, rfl, rfl, rfl, rfl⟩ rfl rfl rfl rfl rfl (by kernel_rfl) Try.func8 joined
    (of_decide_eq_true (by kernel_rfl)) (by unfold Func.isWrapper; first | (rw [if_pos (by decide +kernel)]; kernel_rfl) | (rw [if_neg (by decide +kernel)]; exact ⟨rfl, rfl⟩))
    (fun os started H enc _ => lifted os started H enc)
#print axioms proved
end Go.Proofs.Ytdelcebkpdnnjaa.fnFixesDo
