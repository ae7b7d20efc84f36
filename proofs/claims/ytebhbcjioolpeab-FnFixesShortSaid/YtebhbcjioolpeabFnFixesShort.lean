/-
  FnFixesShort: for all arguments the law returns true and leaves what was there as it was. No condition.
-/
import Derived.Test.YtebhbcjioolpeabFixD
import Derived.Test.YtebhbcjioolpeabBackOk
import Derived.Test.YtebhbcjioolpeabSameQ
import Derived.Test.YtebhbcjioolpeabFacts
import Derived.ProofKit
import Derived.OpenShut
import Derived.ShutString
import Derived.ChangeOld
import Derived.Below
import Derived.Test.YtebhbcjioolpeabFacts
import Derived.ProofKit
import Derived.OpenShut
import Derived.ShutString
import Derived.ChangeOld
import Derived.Below
namespace Go.Proofs.Ytebhbcjioolpeab
open Go.RowKit Go.Deep

set_option maxHeartbeats 4000000 in
set_option maxRecDepth 100000 in
theorem FnFixesShort_walk (v : Value) (n : Nat) (w : World) (h : Bytes w v n) :
    Calls Try.prog 11 #[v] w fun e w' => e = .returned (.bool true) ∧ Below w.heap.size w w' := by
  have CD := Lib.hid (DrawFixesShort_any v n w h)
  obtain ⟨a, cap, rfl, h1, h2, h3⟩ := h
  clear h3
  by_cases hbig : 1048576 < n
  · have hb' : (1048576 : Int) < (n : Int) := by omega
    go_enter Try.func11, Try.ntmps11
    go_wp2
    go_ret
    exact ⟨rfl, Below.refl _ _⟩
  have hb' : ¬ (1048576 : Int) < (n : Int) := by omega
  clear hbig
  go_enter Try.func11, Try.ntmps11
  go_wp2_with fail
  refine CD.out.mono ?_
  rintro e w1 ⟨va, vb, ga, l, rfl, hA, hB, dA, hl6, hb1⟩
  have B := Lib.hid hb1
  have s1 := hb1.size
  obtain ⟨bp, cp, rfl, c1, c2, c3⟩ := id hB
  clear c3
  have A := Lib.hid (show GridB w1.heap.size w1 va ga from hA)
  have L := Lib.hid (show QuadsB w1.heap.size w1 (.slice bp l.length cp) l from hB)
  clear hA hB hb1 CD
  go_wp2_with fail
  with_reducible refine (FixesShort_any va _ ga l w1 (A.out.grid (by omega)) (L.out.quads (by omega))).mono ?_
  rintro e w2 ⟨vo, rfl, hO, hb2⟩
  have s2 := hb2.size
  replace A := Lib.hid (A.out.below hb2 (by omega))
  replace L := Lib.hid (L.out.below hb2 (by omega))
  replace B := Lib.hid (B.out.trans (hb2.mono (by omega)))
  clear hb2
  have OQ := Lib.hid (show QuadsB w2.heap.size w2 vo (shortOf ga l) from hO.quadsB)
  clear hO
  go_wp2_with fail
  with_reducible refine (specFixesShort_any va _ ga l w2 (A.out.grid (by omega)) (L.out.quads (by omega))).mono ?_
  rintro e w3 ⟨vu, rfl, hO, hb3⟩
  have s3 := hb3.size
  replace A := Lib.hid (A.out.below hb3 (by omega))
  replace L := Lib.hid (L.out.below hb3 (by omega))
  replace OQ := Lib.hid (OQ.out.below hb3 (by omega))
  replace B := Lib.hid (B.out.trans (hb3.mono (by omega)))
  clear hb3
  have UQ := Lib.hid (show QuadsB w3.heap.size w3 vu (shortOf ga l) from hO.quadsB)
  clear hO
  obtain ⟨sl, hsl⟩ : ∃ x, x = shortOf ga l := ⟨_, rfl⟩
  rw [← hsl] at OQ UQ
  obtain ⟨oa, oc, rfl, o1, o2, o3⟩ := id OQ.out
  clear o3
  by_cases hs : EdOk ga l
  · rw [decide_eq_true hs]
    rw [shortOf_yes hs] at hsl
    have HS := Lib.hid hs
    have SL := Lib.hid hsl
    have n1 : sl.length ≤ l.length := by rw [hsl]; exact short_len hs
    have AO : Hid (AreOk ga sl) := by show AreOk ga sl; rw [hsl]; exact short_are hs.like
    have EO : Hid (edition ga sl = edition ga l) := by show _ = _; rw [hsl]; exact (make_ok hs.like).2
    clear hs hsl
    have CD : Hid (∀ w, Grid w va ga → Quads w (.slice bp l.length cp) l → Calls Try.prog 23 #[va, .slice bp l.length cp] w fun e w' => ∃ v, e = .returned (.tuple #[v, .bool true]) ∧ OwnG w.heap.size w'.heap.size w' v (edition ga l) ∧ Below w.heap.size w w') := by
      intro w hg hl
      have h := FixesDo_any va (.slice bp l.length cp) ga l w hg hl
      rw [decide_eq_true HS.out, edAll_yes HS.out] at h
      exact h
    have CO : Hid (∀ w, Grid w va ga → Quads w (.slice oa sl.length oc) sl → Calls Try.prog 23 #[va, .slice oa sl.length oc] w fun e w' => ∃ v, e = .returned (.tuple #[v, .bool true]) ∧ OwnG w.heap.size w'.heap.size w' v (edition ga l) ∧ Below w.heap.size w w') := by
      intro w hg hl
      have h := FixesDo_any va (.slice oa sl.length oc) ga sl w hg hl
      rw [decide_eq_true AO.out.1, edAll_yes AO.out.1, EO.out] at h
      exact h
    have CZ : Hid (∀ w, Grid w va ga → Quads w (.slice oa sl.length oc) sl → Calls Try.prog 45 #[va, .slice oa sl.length oc] w fun e w' => ∃ v, e = .returned (.tuple #[v, .bool true]) ∧ OwnQ w.heap.size w'.heap.size w' v (sl) ∧ Below w.heap.size w w') := by
      intro w hg hl
      have h := FixesShort_any va (.slice oa sl.length oc) ga sl w hg hl
      rw [decide_eq_true AO.out.1, shortOf_yes AO.out.1, EO.out, ← SL.out] at h
      exact h
    go_wp2_with fail
    with_reducible refine (sameFixes_any _ vu sl sl w3 (OQ.out.quads (by omega)) (UQ.out.quads (by omega))).mono ?_
    rintro e w4 ⟨rfl, hb4⟩
    rw [decide_eq_true (rfl : sl = sl)]
    have s4 := hb4.size
    replace A := Lib.hid (A.out.below hb4 (by omega))
    replace L := Lib.hid (L.out.below hb4 (by omega))
    replace OQ := Lib.hid (OQ.out.below hb4 (by omega))
    replace UQ := Lib.hid (UQ.out.below hb4 (by omega))
    replace B := Lib.hid (B.out.trans (hb4.mono (by omega)))
    clear hb4
    go_wp2_with fail
    with_reducible refine (CD.out w4 (A.out.grid (by omega)) (L.out.quads (by omega))).mono ?_
    rintro e w5 ⟨x, rfl, hO, hb5⟩
    have s5 := hb5.size
    replace A := Lib.hid (A.out.below hb5 (by omega))
    replace L := Lib.hid (L.out.below hb5 (by omega))
    replace OQ := Lib.hid (OQ.out.below hb5 (by omega))
    replace UQ := Lib.hid (UQ.out.below hb5 (by omega))
    replace B := Lib.hid (B.out.trans (hb5.mono (by omega)))
    clear hb5
    have XG := Lib.hid (show GridB w5.heap.size w5 x (edition ga l) from hO.grid (Nat.le_refl _))
    clear hO
    go_wp2_with fail
    with_reducible refine (CO.out w5 (A.out.grid (by omega)) (OQ.out.quads (by omega))).mono ?_
    rintro e w6 ⟨y, rfl, hO, hb6⟩
    have s6 := hb6.size
    replace A := Lib.hid (A.out.below hb6 (by omega))
    replace L := Lib.hid (L.out.below hb6 (by omega))
    replace OQ := Lib.hid (OQ.out.below hb6 (by omega))
    replace UQ := Lib.hid (UQ.out.below hb6 (by omega))
    replace XG := Lib.hid (XG.out.below hb6 (by omega))
    replace B := Lib.hid (B.out.trans (hb6.mono (by omega)))
    clear hb6
    have YG := Lib.hid (show GridB w6.heap.size w6 y (edition ga l) from hO.grid (Nat.le_refl _))
    clear hO
    go_wp2_with fail
    with_reducible refine (CZ.out w6 (A.out.grid (by omega)) (OQ.out.quads (by omega))).mono ?_
    rintro e w7 ⟨z, rfl, hO, hb7⟩
    have s7 := hb7.size
    replace A := Lib.hid (A.out.below hb7 (by omega))
    replace L := Lib.hid (L.out.below hb7 (by omega))
    replace OQ := Lib.hid (OQ.out.below hb7 (by omega))
    replace UQ := Lib.hid (UQ.out.below hb7 (by omega))
    replace XG := Lib.hid (XG.out.below hb7 (by omega))
    replace YG := Lib.hid (YG.out.below hb7 (by omega))
    replace B := Lib.hid (B.out.trans (hb7.mono (by omega)))
    clear hb7
    have ZQ := Lib.hid (show QuadsB w7.heap.size w7 z (sl) from hO.quadsB)
    clear hO
    clear CD CO CZ
    go_wp2_with fail
    with_reducible refine (sameGrid_b x y _ _ w7 (XG.out.grid (by omega)) (YG.out.grid (by omega))).mono ?_
    rintro e w8 ⟨rfl, hb8⟩
    rw [decide_eq_true (rfl : edition ga l = edition ga l)]
    have s8 := hb8.size
    replace A := Lib.hid (A.out.below hb8 (by omega))
    replace L := Lib.hid (L.out.below hb8 (by omega))
    replace OQ := Lib.hid (OQ.out.below hb8 (by omega))
    replace UQ := Lib.hid (UQ.out.below hb8 (by omega))
    replace XG := Lib.hid (XG.out.below hb8 (by omega))
    replace YG := Lib.hid (YG.out.below hb8 (by omega))
    replace ZQ := Lib.hid (ZQ.out.below hb8 (by omega))
    replace B := Lib.hid (B.out.trans (hb8.mono (by omega)))
    clear hb8
    go_wp2_with fail
    with_reducible refine (sameFixes_any z _ sl sl w8 (ZQ.out.quads (by omega)) (OQ.out.quads (by omega))).mono ?_
    rintro e w9 ⟨rfl, hb9⟩
    rw [decide_eq_true (rfl : sl = sl)]
    have s9 := hb9.size
    replace A := Lib.hid (A.out.below hb9 (by omega))
    replace L := Lib.hid (L.out.below hb9 (by omega))
    replace OQ := Lib.hid (OQ.out.below hb9 (by omega))
    replace UQ := Lib.hid (UQ.out.below hb9 (by omega))
    replace XG := Lib.hid (XG.out.below hb9 (by omega))
    replace YG := Lib.hid (YG.out.below hb9 (by omega))
    replace ZQ := Lib.hid (ZQ.out.below hb9 (by omega))
    replace B := Lib.hid (B.out.trans (hb9.mono (by omega)))
    clear hb9
    go_wp2_with fail
    with_reducible refine (FixesAre_any va _ ga sl w9 (A.out.grid (by omega)) (OQ.out.quads (by omega))).mono ?_
    rintro e w10 ⟨rfl, hb10⟩
    rw [decide_eq_true AO.out]
    have s10 := hb10.size
    replace A := Lib.hid (A.out.below hb10 (by omega))
    replace L := Lib.hid (L.out.below hb10 (by omega))
    replace OQ := Lib.hid (OQ.out.below hb10 (by omega))
    replace UQ := Lib.hid (UQ.out.below hb10 (by omega))
    replace XG := Lib.hid (XG.out.below hb10 (by omega))
    replace YG := Lib.hid (YG.out.below hb10 (by omega))
    replace ZQ := Lib.hid (ZQ.out.below hb10 (by omega))
    replace B := Lib.hid (B.out.trans (hb10.mono (by omega)))
    clear hb10
    go_wp2
    go_ret
    exact ⟨rfl, B.out⟩
  · rw [decide_eq_false hs]
    clear hs hsl
    go_wp2_with fail
    with_reducible refine (sameFixes_any _ vu sl sl w3 (OQ.out.quads (by omega)) (UQ.out.quads (by omega))).mono ?_
    rintro e w4 ⟨rfl, hb4⟩
    rw [decide_eq_true (rfl : sl = sl)]
    have s4 := hb4.size
    replace A := Lib.hid (A.out.below hb4 (by omega))
    replace L := Lib.hid (L.out.below hb4 (by omega))
    replace OQ := Lib.hid (OQ.out.below hb4 (by omega))
    replace UQ := Lib.hid (UQ.out.below hb4 (by omega))
    replace B := Lib.hid (B.out.trans (hb4.mono (by omega)))
    clear hb4
    go_wp2_with fail
    with_reducible refine (sameFixes_any _ vu sl sl w4 (OQ.out.quads (by omega)) (UQ.out.quads (by omega))).mono ?_
    rintro e w5 ⟨rfl, hb5⟩
    rw [decide_eq_true (rfl : sl = sl)]
    have s5 := hb5.size
    replace A := Lib.hid (A.out.below hb5 (by omega))
    replace L := Lib.hid (L.out.below hb5 (by omega))
    replace OQ := Lib.hid (OQ.out.below hb5 (by omega))
    replace UQ := Lib.hid (UQ.out.below hb5 (by omega))
    replace B := Lib.hid (B.out.trans (hb5.mono (by omega)))
    clear hb5
    go_wp2
    go_ret
    exact ⟨rfl, B.out⟩
end Go.Proofs.Ytebhbcjioolpeab
namespace Go.Proofs.Ytebhbcjioolpeab.fnFixesShort
open Go.ChangeShapes Go.WideShapes Go.ChangeAt Go.RowKit
set_option linter.unusedVariables false

theorem own : ownKnob Try.prog.godebug = none := by kernel_rfl
theorem laidOut : laidOutB Try.prog = true := fact_laid
set_option maxRecDepth 100000 in
theorem lifted (os : Os) (started : os.Started) (H : Type) (enc : TypeId × Value → H) :
    ReturnsInHanded {} Try.checked os 11 .any (Rows.fnFixesShortSpec.pre6 enc Try.prog Try.f11 Rows.fnFixesShortRow.domain false) (Rows.fnFixesShortSpec.post enc Try.prog Try.f11 false true false false) := by
  refine returnsInHanded_of_change (C := Try.checked) own started (by kernel_rfl) Try.func11
    (ChangeSpec.witness6 (enc := enc) (C := Try.checked) false ⟨#[], #[.slice none 0 0], []⟩ 8 (by kernel_rfl) (by kernel_rfl) (by kernel_rfl) (by kernel_rfl)) ?_
  intro W base args ds gs before hval0 hW hcnd _
  have hval : ∀ (j : Nat) t v, Try.f11.params[j]? = some t → args[j]? = some v → Value.okWide Try.prog W .any base t v := hval0
  have hW' := hW
  obtain ⟨p, q, hA0, hV, rfl, hfz, hnd⟩ := hW
  have hA : DataW.TrodAll enc Try.prog W 0 (fun _ => true) true Try.f11.params.toList args.toList ds p := hA0
  rw [Try.params11] at hA hval
  obtain ⟨v0, vs0, d0, ds0, p0, q0, hargs, rfl, rfl, h0, r0⟩ := trodAll_cons hA
  obtain ⟨rfl, rfl, rfl⟩ := trodAll_nil r0
  obtain rfl : args = #[v0] := by cases args; simp_all
  obtain ⟨rfl, rfl⟩ := trodVars_none hV
  obtain ⟨a0, len0, cap0, rfl⟩ := okWide_slice Try.underlying22 (hval 0 22 v0 rfl rfl)
  have k0 := h0
  have lt0 : ∀ x ∈ p0, x.block < W.heap.size := by obtain ⟨m, hm⟩ := k0; exact DataW.trod_lt m _ _ _ hm
  obtain ⟨z0, w0⟩ : ∃ zs, Bytes W (.slice a0 len0 cap0) zs := bytes_opened h0
  clear hA0 hval0
  refine (FnFixesShort_walk _ z0 W w0).mono fun e W' ⟨he, bel⟩ => ?_
  subst he
  exact ⟨_, rfl, _, _, _, [], _, [], hW', trodAll_mk1 (shut_bool Try.underlying4 _), (trodAll_cons_mk (Below.trod laidOut (by kernel_rfl) (of_decide_eq_true (by kernel_rfl)) k0 bel lt0) trodAll_mk0), rfl, bel.frame _, fun h => by cases h⟩
theorem fact_inPlace : (Rows.fnFixesShortRow.inPlace == Try.prog.inPlace 11) = true := by kernel_rfl
theorem fact_unfollowed : (Rows.fnFixesShortRow.unfollowed == Try.prog.unfollowed 11) = true := by kernel_rfl
theorem fact_recurses : (Rows.fnFixesShortRow.recurses == Try.prog.recurses 11) = true := by kernel_rfl
theorem fact_named : (Rows.fnFixesShortRow.named == Try.prog.varsNamed 11) = true := by kernel_rfl
theorem fact_plain : (Rows.fnFixesShortRow.plainKeys == Try.prog.plainKeys) = true := by kernel_rfl
theorem joined : joinedFacts Try.pinned.checked.prog 11 Try.f11 Rows.fnFixesShortSpec Rows.fnFixesShortRow = true :=
  joined_of (f := 11) (fn := Try.f11) (s := Rows.fnFixesShortSpec) (c := Rows.fnFixesShortRow) (by kernel_rfl) (by kernel_rfl) (by kernel_rfl) (by kernel_rfl) (by kernel_rfl) fact_inPlace fact_unfollowed fact_recurses fact_named (by kernel_rfl) (by kernel_rfl) (by kernel_rfl) (by kernel_rfl) (by kernel_rfl) (by kernel_rfl) (by kernel_rfl) (by kernel_rfl) (by kernel_rfl) fact_plain (by kernel_rfl) rfl rfl (by kernel_rfl) (by kernel_rfl) (by kernel_rfl) (by kernel_rfl)

/-- the statement -/
theorem proved : Rows.FnFixesShortSaid :=
  OpenClaim.holds_of_wide 11 Try.f11 rfl rfl rfl rfl rfl rfl rfl ⟨rfl, rfl, rfl, rfl, rfl⟩ rfl rfl rfl rfl rfl (by kernel_rfl) Try.func11 joined
    (of_decide_eq_true (by kernel_rfl)) (by unfold Func.isWrapper; first | (rw [if_pos (by decide +kernel)]; kernel_rfl) | (rw [if_neg (by decide +kernel)]; exact ⟨rfl, rfl⟩))
    (fun os started H enc _ => lifted os started H enc)
#print axioms proved
end Go.Proofs.Ytebhbcjioolpeab.fnFixesShort
