/-
  FnFixesMake: for all arguments the law returns true and leaves what was there as it was. No condition.
-/
import Derived.Test.YtebhbcjioolpeabTwo
import Derived.Test.YtebhbcjioolpeabBackOk
import Derived.Test.YtebhbcjioolpeabSameQ
import Derived.Test.YtebhbcjioolpeabFacts
import Derived.ProofKit
import Derived.OpenShut
import Derived.ShutString
import Derived.ChangeOld
import Derived.Below
import Derived.Test.YtebhbcjioolpeabFacts
import Derived.ProofKit
import Derived.OpenShut
import Derived.ShutString
import Derived.ChangeOld
import Derived.Below
namespace Go.Proofs.Ytebhbcjioolpeab
open Go.RowKit Go.Deep

set_option maxHeartbeats 4000000 in
set_option maxRecDepth 100000 in
theorem FnFixesMake_walk (v : Value) (n : Nat) (w : World) (h : Bytes w v n) :
    Calls Try.prog 10 #[v] w fun e w' => e = .returned (.bool true) ∧ Below w.heap.size w w' := by
  have CD := Lib.hid (DrawFixesMake_any v n w h)
  obtain ⟨a, cap, rfl, h1, h2, h3⟩ := h
  clear h3
  by_cases hbig : 1048576 < n
  · have hb' : (1048576 : Int) < (n : Int) := by omega
    go_enter Try.func10, Try.ntmps10
    go_wp2
    go_ret
    exact ⟨rfl, Below.refl _ _⟩
  have hb' : ¬ (1048576 : Int) < (n : Int) := by omega
  clear hbig
  go_enter Try.func10, Try.ntmps10
  go_wp2_with fail
  refine CD.out.mono ?_
  rintro e w1 ⟨va, vb, ga, gb, rfl, hA, hB, dA, dB, hb1⟩
  have B := Lib.hid hb1
  have s1 := hb1.size
  have A := Lib.hid (show GridB w1.heap.size w1 va ga from hA)
  have G := Lib.hid (show GridB w1.heap.size w1 vb gb from hB)
  clear hA hB hb1 CD
  go_wp2_with fail
  with_reducible refine (FixesMake_any va vb ga gb w1 (A.out.grid (by omega)) (G.out.grid (by omega))).mono ?_
  rintro e w2 ⟨vo, rfl, hO, hb2⟩
  have s2 := hb2.size
  replace A := Lib.hid (A.out.below hb2 (by omega))
  replace G := Lib.hid (G.out.below hb2 (by omega))
  replace B := Lib.hid (B.out.trans (hb2.mono (by omega)))
  clear hb2
  have OQ := Lib.hid (show QuadsB w2.heap.size w2 vo (makeOf ga gb) from hO.quadsB)
  clear hO
  go_wp2_with fail
  with_reducible refine (specFixesMake_any va vb ga gb w2 (A.out.grid (by omega)) (G.out.grid (by omega))).mono ?_
  rintro e w3 ⟨vu, rfl, hO, hb3⟩
  have s3 := hb3.size
  replace A := Lib.hid (A.out.below hb3 (by omega))
  replace G := Lib.hid (G.out.below hb3 (by omega))
  replace OQ := Lib.hid (OQ.out.below hb3 (by omega))
  replace B := Lib.hid (B.out.trans (hb3.mono (by omega)))
  clear hb3
  have UQ := Lib.hid (show QuadsB w3.heap.size w3 vu (makeOf ga gb) from hO.quadsB)
  clear hO
  obtain ⟨sl, hsl⟩ : ∃ x, x = makeOf ga gb := ⟨_, rfl⟩
  rw [← hsl] at OQ UQ
  obtain ⟨oa, oc, rfl, o1, o2, o3⟩ := id OQ.out
  clear o3
  by_cases hs : Like ga gb
  · rw [decide_eq_true hs]
    rw [makeOf_yes hs] at hsl
    have HS := Lib.hid hs
    have SL := Lib.hid hsl
    have AO : Hid (AreOk ga sl) := by show AreOk ga sl; rw [hsl]; exact short_are hs
    have EO : Hid (edition ga sl = gb) := by show _ = _; rw [hsl]; exact (make_ok hs).2
    have BO : Hid (EdOk gb (backL sl) ∧ edition gb (backL sl) = ga) := by show _ ∧ _; have := back_ok AO.out.1; rw [EO.out] at this; exact this
    have FO : Hid (farOf ga gb = (sl.length : Int)) := by show _ = _; rw [hsl]; exact farOf_yes hs
    have n49 : sl.length ≤ 49 := by rw [hsl]; exact make_len hs
    clear hs hsl
    have CO : Hid (∀ w, Grid w va ga → Quads w (.slice oa sl.length oc) sl → Calls Try.prog 23 #[va, .slice oa sl.length oc] w fun e w' => ∃ v, e = .returned (.tuple #[v, .bool true]) ∧ OwnG w.heap.size w'.heap.size w' v (gb) ∧ Below w.heap.size w w') := by
      intro w hg hl
      have h := FixesDo_any va (.slice oa sl.length oc) ga sl w hg hl
      rw [decide_eq_true AO.out.1, edAll_yes AO.out.1, EO.out] at h
      exact h
    have CB : Hid (∀ w, Grid w va ga → Quads w (.slice oa sl.length oc) sl → Calls Try.prog 24 #[va, .slice oa sl.length oc] w fun e w' => ∃ v, e = .returned (.tuple #[v, .bool true]) ∧ OwnQ w.heap.size w'.heap.size w' v (backL sl) ∧ Below w.heap.size w w') := by
      intro w hg hl
      have h := FixesBack_any va (.slice oa sl.length oc) ga sl w hg hl
      rw [decide_eq_true AO.out.1, backOf_yes AO.out.1] at h
      exact h
    have CS : Hid (∀ w vk, Grid w vb gb → Quads w vk (backL sl) → Calls Try.prog 45 #[vb, vk] w fun e w' => ∃ v, e = .returned (.tuple #[v, .bool true]) ∧ OwnQ w.heap.size w'.heap.size w' v (diffsOf gb ga) ∧ Below w.heap.size w w') := by
      intro w vk hg hl
      have h := FixesShort_any vb vk gb _ w hg hl
      rw [decide_eq_true BO.out.1, shortOf_yes BO.out.1, BO.out.2] at h
      exact h
    have CM : Hid (∀ w, Grid w vb gb → Grid w va ga → Calls Try.prog 49 #[vb, va] w fun e w' => ∃ v, e = .returned (.tuple #[v, .bool true]) ∧ OwnQ w.heap.size w'.heap.size w' v (diffsOf gb ga) ∧ Below w.heap.size w w') := by
      intro w hg hl
      have h := FixesMake_any vb va gb ga w hg hl
      rw [decide_eq_true (like_sym HS.out), makeOf_yes (like_sym HS.out)] at h
      exact h
    go_wp2_with fail
    with_reducible refine (sameFixes_any _ vu sl sl w3 (OQ.out.quads (by omega)) (UQ.out.quads (by omega))).mono ?_
    rintro e w4 ⟨rfl, hb4⟩
    rw [decide_eq_true (rfl : sl = sl)]
    have s4 := hb4.size
    replace A := Lib.hid (A.out.below hb4 (by omega))
    replace G := Lib.hid (G.out.below hb4 (by omega))
    replace OQ := Lib.hid (OQ.out.below hb4 (by omega))
    replace UQ := Lib.hid (UQ.out.below hb4 (by omega))
    replace B := Lib.hid (B.out.trans (hb4.mono (by omega)))
    clear hb4
    clear UQ
    go_wp2_with fail
    with_reducible refine (CO.out w4 (A.out.grid (by omega)) (OQ.out.quads (by omega))).mono ?_
    rintro e w5 ⟨x, rfl, hO, hb5⟩
    have s5 := hb5.size
    replace A := Lib.hid (A.out.below hb5 (by omega))
    replace G := Lib.hid (G.out.below hb5 (by omega))
    replace OQ := Lib.hid (OQ.out.below hb5 (by omega))
    replace B := Lib.hid (B.out.trans (hb5.mono (by omega)))
    clear hb5
    have XG := Lib.hid (show GridB w5.heap.size w5 x (gb) from hO.grid (Nat.le_refl _))
    clear hO
    go_wp2_with fail
    with_reducible refine (CB.out w5 (A.out.grid (by omega)) (OQ.out.quads (by omega))).mono ?_
    rintro e w6 ⟨bk, rfl, hO, hb6⟩
    have s6 := hb6.size
    replace A := Lib.hid (A.out.below hb6 (by omega))
    replace G := Lib.hid (G.out.below hb6 (by omega))
    replace OQ := Lib.hid (OQ.out.below hb6 (by omega))
    replace XG := Lib.hid (XG.out.below hb6 (by omega))
    replace B := Lib.hid (B.out.trans (hb6.mono (by omega)))
    clear hb6
    have BQ := Lib.hid (show QuadsB w6.heap.size w6 bk (backL sl) from hO.quadsB)
    clear hO
    go_wp2_with fail
    with_reducible refine (CS.out w6 bk (G.out.grid (by omega)) (BQ.out.quads (by omega))).mono ?_
    rintro e w7 ⟨sh, rfl, hO, hb7⟩
    have s7 := hb7.size
    replace A := Lib.hid (A.out.below hb7 (by omega))
    replace G := Lib.hid (G.out.below hb7 (by omega))
    replace OQ := Lib.hid (OQ.out.below hb7 (by omega))
    replace XG := Lib.hid (XG.out.below hb7 (by omega))
    replace BQ := Lib.hid (BQ.out.below hb7 (by omega))
    replace B := Lib.hid (B.out.trans (hb7.mono (by omega)))
    clear hb7
    have HQ := Lib.hid (show QuadsB w7.heap.size w7 sh (diffsOf gb ga) from hO.quadsB)
    clear hO
    go_wp2_with fail
    with_reducible refine (CM.out w7 (G.out.grid (by omega)) (A.out.grid (by omega))).mono ?_
    rintro e w8 ⟨ot, rfl, hO, hb8⟩
    have s8 := hb8.size
    replace A := Lib.hid (A.out.below hb8 (by omega))
    replace G := Lib.hid (G.out.below hb8 (by omega))
    replace OQ := Lib.hid (OQ.out.below hb8 (by omega))
    replace XG := Lib.hid (XG.out.below hb8 (by omega))
    replace BQ := Lib.hid (BQ.out.below hb8 (by omega))
    replace HQ := Lib.hid (HQ.out.below hb8 (by omega))
    replace B := Lib.hid (B.out.trans (hb8.mono (by omega)))
    clear hb8
    have TQ := Lib.hid (show QuadsB w8.heap.size w8 ot (diffsOf gb ga) from hO.quadsB)
    clear hO
    clear CO CB CS CM
    clear BQ
    go_wp2_with fail
    with_reducible refine (sameGrid_b x vb _ _ w8 (XG.out.grid (by omega)) (G.out.grid (by omega))).mono ?_
    rintro e w9 ⟨rfl, hb9⟩
    rw [decide_eq_true (rfl : gb = gb)]
    have s9 := hb9.size
    replace A := Lib.hid (A.out.below hb9 (by omega))
    replace G := Lib.hid (G.out.below hb9 (by omega))
    replace OQ := Lib.hid (OQ.out.below hb9 (by omega))
    replace XG := Lib.hid (XG.out.below hb9 (by omega))
    replace HQ := Lib.hid (HQ.out.below hb9 (by omega))
    replace TQ := Lib.hid (TQ.out.below hb9 (by omega))
    replace B := Lib.hid (B.out.trans (hb9.mono (by omega)))
    clear hb9
    go_wp2_with fail
    with_reducible refine (FixesAre_any va _ ga sl w9 (A.out.grid (by omega)) (OQ.out.quads (by omega))).mono ?_
    rintro e w10 ⟨rfl, hb10⟩
    rw [decide_eq_true AO.out]
    have s10 := hb10.size
    replace A := Lib.hid (A.out.below hb10 (by omega))
    replace G := Lib.hid (G.out.below hb10 (by omega))
    replace OQ := Lib.hid (OQ.out.below hb10 (by omega))
    replace XG := Lib.hid (XG.out.below hb10 (by omega))
    replace HQ := Lib.hid (HQ.out.below hb10 (by omega))
    replace TQ := Lib.hid (TQ.out.below hb10 (by omega))
    replace B := Lib.hid (B.out.trans (hb10.mono (by omega)))
    clear hb10
    go_wp2_with fail
    with_reducible refine (EditionFar_any va vb ga gb w10 (A.out.grid (by omega)) (G.out.grid (by omega))).mono ?_
    rintro e w11 ⟨rfl, hb11⟩
    rw [FO.out]
    have s11 := hb11.size
    replace A := Lib.hid (A.out.below hb11 (by omega))
    replace G := Lib.hid (G.out.below hb11 (by omega))
    replace OQ := Lib.hid (OQ.out.below hb11 (by omega))
    replace XG := Lib.hid (XG.out.below hb11 (by omega))
    replace HQ := Lib.hid (HQ.out.below hb11 (by omega))
    replace TQ := Lib.hid (TQ.out.below hb11 (by omega))
    replace B := Lib.hid (B.out.trans (hb11.mono (by omega)))
    clear hb11
    go_wp2_with fail
    with_reducible refine (sameFixes_any sh ot _ _ w11 (HQ.out.quads (by omega)) (TQ.out.quads (by omega))).mono ?_
    rintro e w12 ⟨rfl, hb12⟩
    rw [decide_eq_true (rfl : diffsOf gb ga = diffsOf gb ga)]
    have s12 := hb12.size
    replace A := Lib.hid (A.out.below hb12 (by omega))
    replace G := Lib.hid (G.out.below hb12 (by omega))
    replace OQ := Lib.hid (OQ.out.below hb12 (by omega))
    replace XG := Lib.hid (XG.out.below hb12 (by omega))
    replace HQ := Lib.hid (HQ.out.below hb12 (by omega))
    replace TQ := Lib.hid (TQ.out.below hb12 (by omega))
    replace B := Lib.hid (B.out.trans (hb12.mono (by omega)))
    clear hb12
    go_wp2
    go_ret
    exact ⟨ret_bool (by simp), B.out⟩
  · rw [decide_eq_false hs]
    clear hs hsl
    go_wp2_with fail
    with_reducible refine (sameFixes_any _ vu sl sl w3 (OQ.out.quads (by omega)) (UQ.out.quads (by omega))).mono ?_
    rintro e w4 ⟨rfl, hb4⟩
    rw [decide_eq_true (rfl : sl = sl)]
    have s4 := hb4.size
    replace A := Lib.hid (A.out.below hb4 (by omega))
    replace G := Lib.hid (G.out.below hb4 (by omega))
    replace OQ := Lib.hid (OQ.out.below hb4 (by omega))
    replace UQ := Lib.hid (UQ.out.below hb4 (by omega))
    replace B := Lib.hid (B.out.trans (hb4.mono (by omega)))
    clear hb4
    go_wp2_with fail
    with_reducible refine (sameFixes_any _ vu sl sl w4 (OQ.out.quads (by omega)) (UQ.out.quads (by omega))).mono ?_
    rintro e w5 ⟨rfl, hb5⟩
    rw [decide_eq_true (rfl : sl = sl)]
    have s5 := hb5.size
    replace A := Lib.hid (A.out.below hb5 (by omega))
    replace G := Lib.hid (G.out.below hb5 (by omega))
    replace OQ := Lib.hid (OQ.out.below hb5 (by omega))
    replace UQ := Lib.hid (UQ.out.below hb5 (by omega))
    replace B := Lib.hid (B.out.trans (hb5.mono (by omega)))
    clear hb5
    go_wp2
    go_ret
    exact ⟨rfl, B.out⟩
end Go.Proofs.Ytebhbcjioolpeab
namespace Go.Proofs.Ytebhbcjioolpeab.fnFixesMake
open Go.ChangeShapes Go.WideShapes Go.ChangeAt Go.RowKit
set_option linter.unusedVariables false

theorem own : ownKnob Try.prog.godebug = none := by kernel_rfl
theorem laidOut : laidOutB Try.prog = true := fact_laid
set_option maxRecDepth 100000 in
theorem lifted (os : Os) (started : os.Started) (H : Type) (enc : TypeId × Value → H) :
    ReturnsInHanded {} Try.checked os 10 .any (Rows.fnFixesMakeSpec.pre6 enc Try.prog Try.f10 Rows.fnFixesMakeRow.domain false) (Rows.fnFixesMakeSpec.post enc Try.prog Try.f10 false true false false) := by
  refine returnsInHanded_of_change (C := Try.checked) own started (by kernel_rfl) Try.func10
    (ChangeSpec.witness6 (enc := enc) (C := Try.checked) false ⟨#[], #[.slice none 0 0], []⟩ 8 (by kernel_rfl) (by kernel_rfl) (by kernel_rfl) (by kernel_rfl)) ?_
  intro W base args ds gs before hval0 hW hcnd _
  have hval : ∀ (j : Nat) t v, Try.f10.params[j]? = some t → args[j]? = some v → Value.okWide Try.prog W .any base t v := hval0
  have hW' := hW
  obtain ⟨p, q, hA0, hV, rfl, hfz, hnd⟩ := hW
  have hA : DataW.TrodAll enc Try.prog W 0 (fun _ => true) true Try.f10.params.toList args.toList ds p := hA0
  rw [Try.params10] at hA hval
  obtain ⟨v0, vs0, d0, ds0, p0, q0, hargs, rfl, rfl, h0, r0⟩ := trodAll_cons hA
  obtain ⟨rfl, rfl, rfl⟩ := trodAll_nil r0
  obtain rfl : args = #[v0] := by cases args; simp_all
  obtain ⟨rfl, rfl⟩ := trodVars_none hV
  obtain ⟨a0, len0, cap0, rfl⟩ := okWide_slice Try.underlying22 (hval 0 22 v0 rfl rfl)
  have k0 := h0
  have lt0 : ∀ x ∈ p0, x.block < W.heap.size := by obtain ⟨m, hm⟩ := k0; exact DataW.trod_lt m _ _ _ hm
  obtain ⟨z0, w0⟩ : ∃ zs, Bytes W (.slice a0 len0 cap0) zs := bytes_opened h0
  clear hA0 hval0
  refine (FnFixesMake_walk _ z0 W w0).mono fun e W' ⟨he, bel⟩ => ?_
  subst he
  exact ⟨_, rfl, _, _, _, [], _, [], hW', trodAll_mk1 (shut_bool Try.underlying4 _), (trodAll_cons_mk (Below.trod laidOut (by kernel_rfl) (of_decide_eq_true (by kernel_rfl)) k0 bel lt0) trodAll_mk0), rfl, bel.frame _, fun h => by cases h⟩
theorem fact_inPlace : (Rows.fnFixesMakeRow.inPlace == Try.prog.inPlace 10) = true := by kernel_rfl
theorem fact_unfollowed : (Rows.fnFixesMakeRow.unfollowed == Try.prog.unfollowed 10) = true := by kernel_rfl
theorem fact_recurses : (Rows.fnFixesMakeRow.recurses == Try.prog.recurses 10) = true := by kernel_rfl
theorem fact_named : (Rows.fnFixesMakeRow.named == Try.prog.varsNamed 10) = true := by kernel_rfl
theorem fact_plain : (Rows.fnFixesMakeRow.plainKeys == Try.prog.plainKeys) = true := by kernel_rfl
theorem joined : joinedFacts Try.pinned.checked.prog 10 Try.f10 Rows.fnFixesMakeSpec Rows.fnFixesMakeRow = true :=
  joined_of (f := 10) (fn := Try.f10) (s := Rows.fnFixesMakeSpec) (c := Rows.fnFixesMakeRow) (by kernel_rfl) (by kernel_rfl) (by kernel_rfl) (by kernel_rfl) (by kernel_rfl) fact_inPlace fact_unfollowed fact_recurses fact_named (by kernel_rfl) (by kernel_rfl) (by kernel_rfl) (by kernel_rfl) (by kernel_rfl) (by kernel_rfl) (by kernel_rfl) (by kernel_rfl) (by kernel_rfl) fact_plain (by kernel_rfl) rfl rfl (by kernel_rfl) (by kernel_rfl) (by kernel_rfl) (by kernel_rfl)

/-- the statement -/
theorem proved : Rows.FnFixesMakeSaid :=
  OpenClaim.holds_of_wide 10 Try.f10 rfl rfl rfl rfl rfl rfl rfl ⟨rfl, rfl, rfl, rfl, rfl⟩ rfl rfl rfl rfl rfl (by kernel_rfl) Try.func10 joined
    (of_decide_eq_true (by kernel_rfl)) (by unfold Func.isWrapper; first | (rw [if_pos (by decide +kernel)]; kernel_rfl) | (rw [if_neg (by decide +kernel)]; exact ⟨rfl, rfl⟩))
    (fun os started H enc _ => lifted os started H enc)
#print axioms proved
end Go.Proofs.Ytebhbcjioolpeab.fnFixesMake
