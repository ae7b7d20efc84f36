/-
  FnFixesRise: for all arguments the law returns true and leaves what was there as it was. No condition.
-/
import Derived.Test.YtebhbcjioolpeaaFixD
import Derived.Test.YtebhbcjioolpeaaMakeOk
import Derived.Test.YtebhbcjioolpeaaShort
import Derived.Test.YtebhbcjioolpeaaSame
import Derived.Test.YtebhbcjioolpeaaFacts
import Derived.ProofKit
import Derived.OpenShut
import Derived.ShutString
import Derived.ChangeOld
import Derived.Below
import Derived.Test.YtebhbcjioolpeaaFacts
import Derived.ProofKit
import Derived.OpenShut
import Derived.ShutString
import Derived.ChangeOld
import Derived.Below
namespace Go.Proofs.Ytebhbcjioolpeaa
open Go.RowKit Go.Deep

set_option maxHeartbeats 4000000 in
set_option maxRecDepth 100000 in
theorem FnFixesRise_walk (v : Value) (n : Nat) (v' : Value) (n' : Nat) (w : World) (h : Bytes w v n) (h' : Bytes w v' n') :
    Calls Try.prog 17 #[v, v'] w fun e w' => e = .returned (.bool true) ∧ Below w.heap.size w w' := by
  have CD := Lib.hid (DrawFixesRise_any v n w h)
  obtain ⟨a, cap, rfl, h1, h2, h3⟩ := h
  clear h3
  obtain ⟨a', cap', rfl, h1', h2', h3'⟩ := h'
  clear h3'
  by_cases hbig : 1048576 < n ∨ 1048576 < n'
  · by_cases hb1 : 1048576 < n
    · have hb' : (1048576 : Int) < (n : Int) := by omega
      go_enter Try.func17, Try.ntmps17
      go_wp2
      go_ret
      exact ⟨rfl, Below.refl _ _⟩
    · have hb' : ¬ (1048576 : Int) < (n : Int) := by omega
      have hb2 : (1048576 : Int) < (n' : Int) := by omega
      go_enter Try.func17, Try.ntmps17
      go_wp2
      go_ret
      exact ⟨rfl, Below.refl _ _⟩
  have hb' : ¬ (1048576 : Int) < (n : Int) := by omega
  have hb2 : ¬ (1048576 : Int) < (n' : Int) := by omega
  clear hbig
  go_enter Try.func17, Try.ntmps17
  go_wp2_with fail
  refine CD.out.mono ?_
  rintro e w1 ⟨va, vb, ga, l, rfl, hA, hB, dA, hl6, hb1⟩
  have B := Lib.hid hb1
  have s1 := hb1.size
  obtain ⟨bp, cp, rfl, c1, c2, c3⟩ := id hB
  clear c3
  have A := Lib.hid (show GridB w1.heap.size w1 va ga from hA)
  have L := Lib.hid (show QuadsB w1.heap.size w1 (.slice bp l.length cp) l from hB)
  clear hA hB hb1 CD
  go_wp2_with fail
  with_reducible refine (FixesRise_any va _ ga l w1 (A.out.grid (by omega)) (L.out.quads (by omega))).mono ?_
  rintro e w2 ⟨rfl, hb2⟩
  have s2 := hb2.size
  replace A := Lib.hid (A.out.below hb2 (by omega))
  replace L := Lib.hid (L.out.below hb2 (by omega))
  replace B := Lib.hid (B.out.trans (hb2.mono (by omega)))
  clear hb2
  go_wp2_with fail
  with_reducible refine (specFixesRise_any va _ ga l w2 (A.out.grid (by omega)) (L.out.quads (by omega))).mono ?_
  rintro e w3 ⟨rfl, hb3⟩
  have s3 := hb3.size
  replace A := Lib.hid (A.out.below hb3 (by omega))
  replace L := Lib.hid (L.out.below hb3 (by omega))
  replace B := Lib.hid (B.out.trans (hb3.mono (by omega)))
  clear hb3
  obtain ⟨out, hout⟩ : ∃ x, x = riseOf ga l := ⟨_, rfl⟩
  have OUT := Lib.hid hout
  rw [← hout]
  clear hout
  have t1 : (out != out) = false := by simp
  by_cases hs : EdOk ga l
  · rw [decide_eq_true hs]
    have HS := Lib.hid hs
    clear hs
    obtain ⟨N, hN⟩ : ∃ N, N = l.length := ⟨_, rfl⟩
    have HN := Lib.hid hN
    rw [← hN] at L c1 hl6 ⊢
    clear hN
    obtain ⟨k, hk⟩ : ∃ k, k = n' % (N + 1) := ⟨_, rfl⟩
    have hk1 : k ≤ N := by rw [hk]; have := Nat.mod_lt n' (show 0 < N + 1 by omega); omega
    have r0 : IntKind.i64.wrap ((N : Int) + 1) = (N : Int) + 1 := IntWalk.i64_in _ (by omega)
    have r1 : (n' : Int).tmod ((N : Int) + 1) = (k : Int) := by rw [Int.tmod_eq_emod_of_nonneg (by omega), hk]; exact (Int.natCast_emod n' (N + 1)).symm
    have r2 : ¬ (N : Int) + 1 = 0 := by omega
    have r3 : ¬ (N : Int) + 1 = -1 := by omega
    have r4 := IntWalk.i64_in (k : Int) (by omega)
    have K1 : Hid (k ≤ l.length) := by show k ≤ l.length; rw [← HN.out]; exact hk1
    clear hk
    obtain ⟨ra, hra⟩ : ∃ x, x = riseOf ga (l.take k) := ⟨_, rfl⟩
    obtain ⟨rb, hrb⟩ : ∃ x, x = riseOf (doneUp ga l k) (l.drop k) := ⟨_, rfl⟩
    have b1 := rise_bound ga (l.take k)
    have b2 := rise_bound (doneUp ga l k) (l.drop k)
    rw [← hra] at b1
    rw [← hrb] at b2
    have sum : ra + rb = out := by rw [hra, hrb, OUT.out]; exact rise_parts HS.out K1.out
    have wf := wrap_small (x := ra + rb) (by omega) (by omega)
    rw [sum] at wf
    have RA := Lib.hid hra
    have RB := Lib.hid hrb
    clear hra hrb b1 b2
    have CT : Hid (∀ w, Grid w va ga → Quads w (.slice bp k cp) (l.take k) → Calls Try.prog 55 #[va, .slice bp k cp] w fun e w' => ∃ v, e = .returned (.tuple #[v, .bool true]) ∧ OwnG w.heap.size w'.heap.size w' v (doneUp ga l k) ∧ Below w.heap.size w w') := by
      intro w hg hl
      have h := FixesDo_any va (.slice bp k cp) ga (l.take k) w hg hl
      have h1 := HS.out.take K1.out
      rw [decide_eq_true h1, edAll_yes h1, edition_take K1.out] at h
      exact h
    have CU : Hid (∀ w, Grid w va ga → Quads w (.slice bp k cp) (l.take k) → Calls Try.prog 57 #[va, .slice bp k cp] w fun e w' => e = .returned (.tuple #[.int .i64 ra, .bool true]) ∧ Below w.heap.size w w') := by
      intro w hg hl
      have h := FixesRise_any va (.slice bp k cp) ga (l.take k) w hg hl
      rw [decide_eq_true (HS.out.take K1.out), ← RA.out] at h
      exact h
    have CR : Hid (∀ w vx vr, Grid w vx (doneUp ga l k) → Quads w vr (l.drop k) → Calls Try.prog 57 #[vx, vr] w fun e w' => e = .returned (.tuple #[.int .i64 rb, .bool true]) ∧ Below w.heap.size w w') := by
      intro w vx vr hg hl
      have h := FixesRise_any vx vr _ _ w hg hl
      rw [decide_eq_true (HS.out.drop K1.out), ← RB.out] at h
      exact h
    have CS : Hid (∀ w, Grid w va ga → Quads w (.slice bp N cp) l → Calls Try.prog 59 #[va, .slice bp N cp] w fun e w' => ∃ v, e = .returned (.tuple #[v, .bool true]) ∧ OwnQ w.heap.size w'.heap.size w' v (diffsOf ga (edition ga l)) ∧ Below w.heap.size w w') := by
      intro w hg hl
      have h := FixesShort_any va (.slice bp N cp) ga l w hg hl
      rw [decide_eq_true HS.out, shortOf_yes HS.out] at h
      exact h
    have CV : Hid (∀ w vs, Grid w va ga → Quads w vs (diffsOf ga (edition ga l)) → Calls Try.prog 57 #[va, vs] w fun e w' => e = .returned (.tuple #[.int .i64 out, .bool true]) ∧ Below w.heap.size w w') := by
      intro w vs hg hl
      have h := FixesRise_any va vs _ _ w hg hl
      rw [decide_eq_true (make_ok HS.out.like).1, make_rise HS.out, ← OUT.out] at h
      exact h
    have LT : Hid (QuadsB w1.heap.size w3 (.slice bp k cp) (l.take k)) := L.out.take K1.out
    go_wp2_with fail
    with_reducible refine (CT.out w3 (A.out.grid (by omega)) (LT.out.quads (by omega))).mono ?_
    rintro e w4 ⟨x, rfl, hO, hb4⟩
    have s4 := hb4.size
    replace A := Lib.hid (A.out.below hb4 (by omega))
    replace L := Lib.hid (L.out.below hb4 (by omega))
    replace LT := Lib.hid (LT.out.below hb4 (by omega))
    replace B := Lib.hid (B.out.trans (hb4.mono (by omega)))
    clear hb4
    have XG := Lib.hid (show GridB w4.heap.size w4 x _ from hO.grid (Nat.le_refl _))
    clear hO CT
    go_wp2_with fail
    with_reducible refine (CU.out w4 (A.out.grid (by omega)) (LT.out.quads (by omega))).mono ?_
    rintro e w5 ⟨rfl, hb5⟩
    have s5 := hb5.size
    replace A := Lib.hid (A.out.below hb5 (by omega))
    replace L := Lib.hid (L.out.below hb5 (by omega))
    replace LT := Lib.hid (LT.out.below hb5 (by omega))
    replace XG := Lib.hid (XG.out.below hb5 (by omega))
    replace B := Lib.hid (B.out.trans (hb5.mono (by omega)))
    clear hb5
    clear LT
    clear CU
    have hkc : k < cp ∨ cp = k := by omega
    rcases hkc with hkc | rfl
    · have LD : Hid (QuadsB w1.heap.size w5 (.slice (Option.map (fun x => x.add (k * 4)) bp) (N - k) (cp - k)) (l.drop k)) := L.out.drop K1.out
      go_wp2_with fail
      with_reducible refine (CR.out w5 _ _ (XG.out.grid (by omega)) (LD.out.quads (by omega))).mono ?_
      rintro e w6 ⟨rfl, hb6⟩
      have s6 := hb6.size
      replace A := Lib.hid (A.out.below hb6 (by omega))
      replace L := Lib.hid (L.out.below hb6 (by omega))
      replace XG := Lib.hid (XG.out.below hb6 (by omega))
      replace LD := Lib.hid (LD.out.below hb6 (by omega))
      replace B := Lib.hid (B.out.trans (hb6.mono (by omega)))
      clear hb6
      clear LD XG
      clear CR
      go_wp2_with fail
      with_reducible refine (CS.out w6 (A.out.grid (by omega)) (L.out.quads (by omega))).mono ?_
      rintro e w7 ⟨s, rfl, hO, hb7⟩
      have s7 := hb7.size
      replace A := Lib.hid (A.out.below hb7 (by omega))
      replace L := Lib.hid (L.out.below hb7 (by omega))
      replace B := Lib.hid (B.out.trans (hb7.mono (by omega)))
      clear hb7
      have SQ := Lib.hid (show QuadsB w7.heap.size w7 s _ from hO.quadsB)
      clear hO CS
      clear L
      go_wp2_with fail
      with_reducible refine (CV.out w7 s (A.out.grid (by omega)) (SQ.out.quads (by omega))).mono ?_
      rintro e w8 ⟨rfl, hb8⟩
      have s8 := hb8.size
      replace A := Lib.hid (A.out.below hb8 (by omega))
      replace SQ := Lib.hid (SQ.out.below hb8 (by omega))
      replace B := Lib.hid (B.out.trans (hb8.mono (by omega)))
      clear hb8
      go_wp2
      go_ret
      exact ⟨ret_bool (by simp), B.out⟩
    · obtain rfl : N = cp := by omega
      have LD : Hid (QuadsB w1.heap.size w5 (.slice bp 0 0) (l.drop N)) := L.out.dropAll HN.out
      go_wp2_with fail
      with_reducible refine (CR.out w5 _ _ (XG.out.grid (by omega)) (LD.out.quads (by omega))).mono ?_
      rintro e w6 ⟨rfl, hb6⟩
      have s6 := hb6.size
      replace A := Lib.hid (A.out.below hb6 (by omega))
      replace L := Lib.hid (L.out.below hb6 (by omega))
      replace XG := Lib.hid (XG.out.below hb6 (by omega))
      replace LD := Lib.hid (LD.out.below hb6 (by omega))
      replace B := Lib.hid (B.out.trans (hb6.mono (by omega)))
      clear hb6
      clear LD XG
      clear CR
      go_wp2_with fail
      with_reducible refine (CS.out w6 (A.out.grid (by omega)) (L.out.quads (by omega))).mono ?_
      rintro e w7 ⟨s, rfl, hO, hb7⟩
      have s7 := hb7.size
      replace A := Lib.hid (A.out.below hb7 (by omega))
      replace L := Lib.hid (L.out.below hb7 (by omega))
      replace B := Lib.hid (B.out.trans (hb7.mono (by omega)))
      clear hb7
      have SQ := Lib.hid (show QuadsB w7.heap.size w7 s _ from hO.quadsB)
      clear hO CS
      clear L
      go_wp2_with fail
      with_reducible refine (CV.out w7 s (A.out.grid (by omega)) (SQ.out.quads (by omega))).mono ?_
      rintro e w8 ⟨rfl, hb8⟩
      have s8 := hb8.size
      replace A := Lib.hid (A.out.below hb8 (by omega))
      replace SQ := Lib.hid (SQ.out.below hb8 (by omega))
      replace B := Lib.hid (B.out.trans (hb8.mono (by omega)))
      clear hb8
      go_wp2
      go_ret
      exact ⟨ret_bool (by simp), B.out⟩
  · rw [decide_eq_false hs]
    clear hs
    go_wp2
    go_ret
    exact ⟨ret_bool (by simp), B.out⟩
end Go.Proofs.Ytebhbcjioolpeaa
namespace Go.Proofs.Ytebhbcjioolpeaa.fnFixesRise
open Go.ChangeShapes Go.WideShapes Go.ChangeAt Go.RowKit
set_option linter.unusedVariables false

theorem own : ownKnob Try.prog.godebug = none := by kernel_rfl
theorem laidOut : laidOutB Try.prog = true := fact_laid
set_option maxRecDepth 100000 in
theorem lifted (os : Os) (started : os.Started) (H : Type) (enc : TypeId × Value → H) :
    ReturnsInHanded {} Try.checked os 17 .any (Rows.fnFixesRiseSpec.pre6 enc Try.prog Try.f17 Rows.fnFixesRiseRow.domain false) (Rows.fnFixesRiseSpec.post enc Try.prog Try.f17 false true false false) := by
  refine returnsInHanded_of_change (C := Try.checked) own started (by kernel_rfl) Try.func17
    (ChangeSpec.witness6 (enc := enc) (C := Try.checked) false ⟨#[], #[.slice none 0 0, .slice none 0 0], []⟩ 8 (by kernel_rfl) (by kernel_rfl) (by kernel_rfl) (by kernel_rfl)) ?_
  intro W base args ds gs before hval0 hW hcnd _
  have hval : ∀ (j : Nat) t v, Try.f17.params[j]? = some t → args[j]? = some v → Value.okWide Try.prog W .any base t v := hval0
  have hW' := hW
  obtain ⟨p, q, hA0, hV, rfl, hfz, hnd⟩ := hW
  have hA : DataW.TrodAll enc Try.prog W 0 (fun _ => true) true Try.f17.params.toList args.toList ds p := hA0
  rw [Try.params17] at hA hval
  obtain ⟨v0, vs0, d0, ds0, p0, q0, hargs, rfl, rfl, h0, r0⟩ := trodAll_cons hA
  obtain ⟨v1, vs1, d1, ds1, p1, q1, rfl, rfl, rfl, h1, r1⟩ := trodAll_cons r0
  obtain ⟨rfl, rfl, rfl⟩ := trodAll_nil r1
  obtain rfl : args = #[v0, v1] := by cases args; simp_all
  obtain ⟨rfl, rfl⟩ := trodVars_none hV
  obtain ⟨a0, len0, cap0, rfl⟩ := okWide_slice Try.underlying29 (hval 0 29 v0 rfl rfl)
  have k0 := h0
  have lt0 : ∀ x ∈ p0, x.block < W.heap.size := by obtain ⟨m, hm⟩ := k0; exact DataW.trod_lt m _ _ _ hm
  obtain ⟨z0, w0⟩ : ∃ zs, Bytes W (.slice a0 len0 cap0) zs := bytes_opened h0
  obtain ⟨a1, len1, cap1, rfl⟩ := okWide_slice Try.underlying29 (hval 1 29 v1 rfl rfl)
  have k1 := h1
  have lt1 : ∀ x ∈ p1, x.block < W.heap.size := by obtain ⟨m, hm⟩ := k1; exact DataW.trod_lt m _ _ _ hm
  obtain ⟨z1, w1⟩ : ∃ zs, Bytes W (.slice a1 len1 cap1) zs := bytes_opened h1
  clear hA0 hval0
  refine (FnFixesRise_walk _ z0 _ z1 W w0 w1).mono fun e W' ⟨he, bel⟩ => ?_
  subst he
  exact ⟨_, rfl, _, _, _, [], _, [], hW', trodAll_mk1 (shut_bool Try.underlying4 _), (trodAll_cons_mk (Below.trod laidOut (by kernel_rfl) (of_decide_eq_true (by kernel_rfl)) k0 bel lt0) (trodAll_cons_mk (Below.trod laidOut (by kernel_rfl) (of_decide_eq_true (by kernel_rfl)) k1 bel lt1) trodAll_mk0)), rfl, bel.frame _, fun h => by cases h⟩
theorem fact_inPlace : (Rows.fnFixesRiseRow.inPlace == Try.prog.inPlace 17) = true := by kernel_rfl
theorem fact_unfollowed : (Rows.fnFixesRiseRow.unfollowed == Try.prog.unfollowed 17) = true := by kernel_rfl
theorem fact_recurses : (Rows.fnFixesRiseRow.recurses == Try.prog.recurses 17) = true := by kernel_rfl
theorem fact_named : (Rows.fnFixesRiseRow.named == Try.prog.varsNamed 17) = true := by kernel_rfl
theorem fact_plain : (Rows.fnFixesRiseRow.plainKeys == Try.prog.plainKeys) = true := by kernel_rfl
theorem joined : joinedFacts Try.pinned.checked.prog 17 Try.f17 Rows.fnFixesRiseSpec Rows.fnFixesRiseRow = true :=
  joined_of (f := 17) (fn := Try.f17) (s := Rows.fnFixesRiseSpec) (c := Rows.fnFixesRiseRow) (by kernel_rfl) (by kernel_rfl) (by kernel_rfl) (by kernel_rfl) (by kernel_rfl) fact_inPlace fact_unfollowed fact_recurses fact_named (by kernel_rfl) (by kernel_rfl) (by kernel_rfl) (by kernel_rfl) (by kernel_rfl) (by kernel_rfl) (by kernel_rfl) (by kernel_rfl) (by kernel_rfl) fact_plain (by kernel_rfl) rfl rfl (by kernel_rfl) (by kernel_rfl) (by kernel_rfl) (by kernel_rfl)

/-- the statement -/
theorem proved : Rows.FnFixesRiseSaid :=
  OpenClaim.holds_of_wide 17 Try.f17 rfl rfl rfl rfl rfl rfl rfl ⟨rfl, rfl, rfl, rfl, rfl⟩ rfl rfl rfl rfl rfl (by kernel_rfl) Try.func17 joined
    (of_decide_eq_true (by kernel_rfl)) (by unfold Func.isWrapper; first | (rw [if_pos (by decide +kernel)]; kernel_rfl) | (rw [if_neg (by decide +kernel)]; exact ⟨rfl, rfl⟩))
    (fun os started H enc _ => lifted os started H enc)
#print axioms proved
end Go.Proofs.Ytebhbcjioolpeaa.fnFixesRise
