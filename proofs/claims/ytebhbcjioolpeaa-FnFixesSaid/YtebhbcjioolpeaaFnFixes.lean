/-
  FnFixes: for all arguments the law returns true and leaves what was there as it was. No condition.
-/
import Derived.Test.YtebhbcjioolpeaaFixD
import Derived.Test.YtebhbcjioolpeaaSplit
import Derived.Test.YtebhbcjioolpeaaSpecDo
import Derived.Test.YtebhbcjioolpeaaSame
import Derived.Test.YtebhbcjioolpeaaFacts
import Derived.ProofKit
import Derived.OpenShut
import Derived.ShutString
import Derived.ChangeOld
import Derived.Below
import Derived.Test.YtebhbcjioolpeaaFacts
import Derived.ProofKit
import Derived.OpenShut
import Derived.ShutString
import Derived.ChangeOld
import Derived.Below
namespace Go.Proofs.Ytebhbcjioolpeaa
open Go.RowKit Go.Deep

set_option maxHeartbeats 4000000 in
set_option maxRecDepth 100000 in
theorem FnFixes_walk (v : Value) (n : Nat) (v' : Value) (n' : Nat) (w : World) (h : Bytes w v n) (h' : Bytes w v' n') :
    Calls Try.prog 15 #[v, v'] w fun e w' => e = .returned (.bool true) ∧ Below w.heap.size w w' := by
  have CD := Lib.hid (DrawFixesValid_any v n w h)
  obtain ⟨a, cap, rfl, h1, h2, h3⟩ := h
  clear h3
  obtain ⟨a', cap', rfl, h1', h2', h3'⟩ := h'
  clear h3'
  by_cases hbig : 1048576 < n ∨ 1048576 < n'
  · by_cases hb1 : 1048576 < n
    · have hb' : (1048576 : Int) < (n : Int) := by omega
      go_enter Try.func15, Try.ntmps15
      go_wp2
      go_ret
      exact ⟨rfl, Below.refl _ _⟩
    · have hb' : ¬ (1048576 : Int) < (n : Int) := by omega
      have hb2 : (1048576 : Int) < (n' : Int) := by omega
      go_enter Try.func15, Try.ntmps15
      go_wp2
      go_ret
      exact ⟨rfl, Below.refl _ _⟩
  have hb' : ¬ (1048576 : Int) < (n : Int) := by omega
  have hb2 : ¬ (1048576 : Int) < (n' : Int) := by omega
  clear hbig
  go_enter Try.func15, Try.ntmps15
  go_wp2_with fail
  refine CD.out.mono ?_
  rintro e w1 ⟨va, vb, ga, l, rfl, hA, hB, dA, hl6, hb1⟩
  have B := Lib.hid hb1
  have s1 := hb1.size
  obtain ⟨bp, cp, rfl, c1, c2, c3⟩ := id hB
  clear c3
  have A := Lib.hid (show GridB w1.heap.size w1 va ga from hA)
  have L := Lib.hid (show QuadsB w1.heap.size w1 (.slice bp l.length cp) l from hB)
  clear hA hB hb1 CD
  go_wp2_with fail
  with_reducible refine (FixesValid_any va _ ga l w1 (A.out.grid (by omega)) (L.out.quads (by omega))).mono ?_
  rintro e w2 ⟨rfl, hb2⟩
  have s2 := hb2.size
  replace A := Lib.hid (A.out.below hb2 (by omega))
  replace L := Lib.hid (L.out.below hb2 (by omega))
  replace B := Lib.hid (B.out.trans (hb2.mono (by omega)))
  clear hb2
  go_wp2_with fail
  with_reducible refine (specFixesValid_any va _ ga l w2 (A.out.grid (by omega)) (L.out.quads (by omega))).mono ?_
  rintro e w3 ⟨rfl, hb3⟩
  have s3 := hb3.size
  replace A := Lib.hid (A.out.below hb3 (by omega))
  replace L := Lib.hid (L.out.below hb3 (by omega))
  replace B := Lib.hid (B.out.trans (hb3.mono (by omega)))
  clear hb3
  by_cases hs : EdOk ga l
  · rw [decide_eq_true hs]
    have HS := Lib.hid hs
    clear hs
    obtain ⟨N, hN⟩ : ∃ N, N = l.length := ⟨_, rfl⟩
    have HN := Lib.hid hN
    rw [← hN] at L c1 hl6 ⊢
    clear hN
    obtain ⟨k, hk⟩ : ∃ k, k = n' % (N + 1) := ⟨_, rfl⟩
    have hk1 : k ≤ N := by rw [hk]; have := Nat.mod_lt n' (show 0 < N + 1 by omega); omega
    have r0 : IntKind.i64.wrap ((N : Int) + 1) = (N : Int) + 1 := IntWalk.i64_in _ (by omega)
    have r1 : (n' : Int).tmod ((N : Int) + 1) = (k : Int) := by rw [Int.tmod_eq_emod_of_nonneg (by omega), hk]; exact (Int.natCast_emod n' (N + 1)).symm
    have r2 : ¬ (N : Int) + 1 = 0 := by omega
    have r3 : ¬ (N : Int) + 1 = -1 := by omega
    have r4 := IntWalk.i64_in (k : Int) (by omega)
    have K1 := Lib.hid hk1
    clear hk
    have CT : Hid (∀ w, Grid w va ga → Quads w (.slice bp k cp) (l.take k) → Calls Try.prog 55 #[va, .slice bp k cp] w fun e w' => ∃ v, e = .returned (.tuple #[v, .bool true]) ∧ OwnG w.heap.size w'.heap.size w' v (doneUp ga l k) ∧ Below w.heap.size w w') := by
      intro w hg hl
      have h := FixesDo_any va (.slice bp k cp) ga (l.take k) w hg hl
      have h1 := HS.out.take (show k ≤ l.length by rw [← HN.out]; exact K1.out)
      rw [decide_eq_true h1, edAll_yes h1, edition_take (by rw [← HN.out]; exact K1.out)] at h
      exact h
    have CR : Hid (∀ w vx vr, Grid w vx (doneUp ga l k) → Quads w vr (l.drop k) → Calls Try.prog 55 #[vx, vr] w fun e w' => ∃ v, e = .returned (.tuple #[v, .bool true]) ∧ OwnG w.heap.size w'.heap.size w' v (edition ga l) ∧ Below w.heap.size w w') := by
      intro w vx vr hg hl
      have h := FixesDo_any vx vr _ _ w hg hl
      have h1 := HS.out.drop (show k ≤ l.length by rw [← HN.out]; exact K1.out)
      rw [decide_eq_true h1, edAll_yes h1, edition_drop (by rw [← HN.out]; exact K1.out)] at h
      exact h
    have CA : Hid (∀ w, Grid w va ga → Quads w (.slice bp N cp) l → Calls Try.prog 55 #[va, .slice bp N cp] w fun e w' => ∃ v, e = .returned (.tuple #[v, .bool true]) ∧ OwnG w.heap.size w'.heap.size w' v (edition ga l) ∧ Below w.heap.size w w') := by
      intro w hg hl
      have h := FixesDo_any va (.slice bp N cp) ga l w hg hl
      rw [decide_eq_true HS.out, edAll_yes HS.out] at h
      exact h
    have LT : Hid (QuadsB w1.heap.size w3 (.slice bp k cp) (l.take k)) := L.out.take (by rw [← HN.out]; exact hk1)
    go_wp2_with fail
    with_reducible refine (CT.out w3 (A.out.grid (by omega)) (LT.out.quads (by omega))).mono ?_
    rintro e w4 ⟨x, rfl, hO, hb4⟩
    have s4 := hb4.size
    replace A := Lib.hid (A.out.below hb4 (by omega))
    replace L := Lib.hid (L.out.below hb4 (by omega))
    replace LT := Lib.hid (LT.out.below hb4 (by omega))
    replace B := Lib.hid (B.out.trans (hb4.mono (by omega)))
    clear hb4
    clear LT
    have XG := Lib.hid (show GridB w4.heap.size w4 x _ from hO.grid (Nat.le_refl _))
    clear hO CT
    have hkc : k < cp ∨ cp = k := by omega
    rcases hkc with hkc | rfl
    · have LD : Hid (QuadsB w1.heap.size w4 (.slice (Option.map (fun x => x.add (k * 4)) bp) (N - k) (cp - k)) (l.drop k)) := L.out.drop (by rw [← HN.out]; exact hk1)
      go_wp2_with fail
      with_reducible refine (CR.out w4 _ _ (XG.out.grid (by omega)) (LD.out.quads (by omega))).mono ?_
      rintro e w5 ⟨y, rfl, hO, hb5⟩
      have s5 := hb5.size
      replace A := Lib.hid (A.out.below hb5 (by omega))
      replace L := Lib.hid (L.out.below hb5 (by omega))
      replace XG := Lib.hid (XG.out.below hb5 (by omega))
      replace LD := Lib.hid (LD.out.below hb5 (by omega))
      replace B := Lib.hid (B.out.trans (hb5.mono (by omega)))
      clear hb5
      clear LD XG
      have YG := Lib.hid (show GridB w5.heap.size w5 y _ from hO.grid (Nat.le_refl _))
      clear hO CR
      go_wp2_with fail
      with_reducible refine (CA.out w5 (A.out.grid (by omega)) (L.out.quads (by omega))).mono ?_
      rintro e w6 ⟨z, rfl, hO, hb6⟩
      have s6 := hb6.size
      replace A := Lib.hid (A.out.below hb6 (by omega))
      replace L := Lib.hid (L.out.below hb6 (by omega))
      replace YG := Lib.hid (YG.out.below hb6 (by omega))
      replace B := Lib.hid (B.out.trans (hb6.mono (by omega)))
      clear hb6
      clear L A
      have ZG := Lib.hid (show GridB w6.heap.size w6 z _ from hO.grid (Nat.le_refl _))
      clear hO CA
      go_wp2_with fail
      with_reducible refine (sameGrid_b y z _ _ w6 (YG.out.grid (by omega)) (ZG.out.grid (by omega))).mono ?_
      rintro e w7 ⟨rfl, hb7⟩
      rw [decide_eq_true (rfl : edition ga l = edition ga l)]
      have s7 := hb7.size
      replace YG := Lib.hid (YG.out.below hb7 (by omega))
      replace ZG := Lib.hid (ZG.out.below hb7 (by omega))
      replace B := Lib.hid (B.out.trans (hb7.mono (by omega)))
      clear hb7
      go_wp2
      go_ret
      exact ⟨rfl, B.out⟩
    · obtain rfl : N = cp := by omega
      have LD : Hid (QuadsB w1.heap.size w4 (.slice bp 0 0) (l.drop N)) := L.out.dropAll (by rw [← HN.out])
      go_wp2_with fail
      with_reducible refine (CR.out w4 _ _ (XG.out.grid (by omega)) (LD.out.quads (by omega))).mono ?_
      rintro e w5 ⟨y, rfl, hO, hb5⟩
      have s5 := hb5.size
      replace A := Lib.hid (A.out.below hb5 (by omega))
      replace L := Lib.hid (L.out.below hb5 (by omega))
      replace XG := Lib.hid (XG.out.below hb5 (by omega))
      replace LD := Lib.hid (LD.out.below hb5 (by omega))
      replace B := Lib.hid (B.out.trans (hb5.mono (by omega)))
      clear hb5
      clear LD XG
      have YG := Lib.hid (show GridB w5.heap.size w5 y _ from hO.grid (Nat.le_refl _))
      clear hO CR
      go_wp2_with fail
      with_reducible refine (CA.out w5 (A.out.grid (by omega)) (L.out.quads (by omega))).mono ?_
      rintro e w6 ⟨z, rfl, hO, hb6⟩
      have s6 := hb6.size
      replace A := Lib.hid (A.out.below hb6 (by omega))
      replace L := Lib.hid (L.out.below hb6 (by omega))
      replace YG := Lib.hid (YG.out.below hb6 (by omega))
      replace B := Lib.hid (B.out.trans (hb6.mono (by omega)))
      clear hb6
      clear L A
      have ZG := Lib.hid (show GridB w6.heap.size w6 z _ from hO.grid (Nat.le_refl _))
      clear hO CA
      go_wp2_with fail
      with_reducible refine (sameGrid_b y z _ _ w6 (YG.out.grid (by omega)) (ZG.out.grid (by omega))).mono ?_
      rintro e w7 ⟨rfl, hb7⟩
      rw [decide_eq_true (rfl : edition ga l = edition ga l)]
      have s7 := hb7.size
      replace YG := Lib.hid (YG.out.below hb7 (by omega))
      replace ZG := Lib.hid (ZG.out.below hb7 (by omega))
      replace B := Lib.hid (B.out.trans (hb7.mono (by omega)))
      clear hb7
      go_wp2
      go_ret
      exact ⟨rfl, B.out⟩
  · rw [decide_eq_false hs]
    clear hs
    go_wp2
    go_ret
    exact ⟨rfl, B.out⟩
end Go.Proofs.Ytebhbcjioolpeaa
namespace Go.Proofs.Ytebhbcjioolpeaa.fnFixes
open Go.ChangeShapes Go.WideShapes Go.ChangeAt Go.RowKit
set_option linter.unusedVariables false

theorem own : ownKnob Try.prog.godebug = none := by kernel_rfl
theorem laidOut : laidOutB Try.prog = true := fact_laid
set_option maxRecDepth 100000 in
theorem lifted (os : Os) (started : os.Started) (H : Type) (enc : TypeId × Value → H) :
    ReturnsInHanded {} Try.checked os 15 .any (Rows.fnFixesSpec.pre6 enc Try.prog Try.f15 Rows.fnFixesRow.domain false) (Rows.fnFixesSpec.post enc Try.prog Try.f15 false true false false) := by
  refine returnsInHanded_of_change (C := Try.checked) own started (by kernel_rfl) Try.func15
    (ChangeSpec.witness6 (enc := enc) (C := Try.checked) false ⟨#[], #[.slice none 0 0, .slice none 0 0], []⟩ 8 (by kernel_rfl) (by kernel_rfl) (by kernel_rfl) (by kernel_rfl)) ?_
  intro W base args ds gs before hval0 hW hcnd _
  have hval : ∀ (j : Nat) t v, Try.f15.params[j]? = some t → args[j]? = some v → Value.okWide Try.prog W .any base t v := hval0
  have hW' := hW
  obtain ⟨p, q, hA0, hV, rfl, hfz, hnd⟩ := hW
  have hA : DataW.TrodAll enc Try.prog W 0 (fun _ => true) true Try.f15.params.toList args.toList ds p := hA0
  rw [Try.params15] at hA hval
  obtain ⟨v0, vs0, d0, ds0, p0, q0, hargs, rfl, rfl, h0, r0⟩ := trodAll_cons hA
  obtain ⟨v1, vs1, d1, ds1, p1, q1, rfl, rfl, rfl, h1, r1⟩ := trodAll_cons r0
  obtain ⟨rfl, rfl, rfl⟩ := trodAll_nil r1
  obtain rfl : args = #[v0, v1] := by cases args; simp_all
  obtain ⟨rfl, rfl⟩ := trodVars_none hV
  obtain ⟨a0, len0, cap0, rfl⟩ := okWide_slice Try.underlying29 (hval 0 29 v0 rfl rfl)
  have k0 := h0
  have lt0 : ∀ x ∈ p0, x.block < W.heap.size := by obtain ⟨m, hm⟩ := k0; exact DataW.trod_lt m _ _ _ hm
  obtain ⟨z0, w0⟩ : ∃ zs, Bytes W (.slice a0 len0 cap0) zs := bytes_opened h0
  obtain ⟨a1, len1, cap1, rfl⟩ := okWide_slice Try.underlying29 (hval 1 29 v1 rfl rfl)
  have k1 := h1
  have lt1 : ∀ x ∈ p1, x.block < W.heap.size := by obtain ⟨m, hm⟩ := k1; exact DataW.trod_lt m _ _ _ hm
  obtain ⟨z1, w1⟩ : ∃ zs, Bytes W (.slice a1 len1 cap1) zs := bytes_opened h1
  clear hA0 hval0
  refine (FnFixes_walk _ z0 _ z1 W w0 w1).mono fun e W' ⟨he, bel⟩ => ?_
  subst he
  exact ⟨_, rfl, _, _, _, [], _, [], hW', trodAll_mk1 (shut_bool Try.underlying4 _), (trodAll_cons_mk (Below.trod laidOut (by kernel_rfl) (of_decide_eq_true (by kernel_rfl)) k0 bel lt0) (trodAll_cons_mk (Below.trod laidOut (by kernel_rfl) (of_decide_eq_true (by kernel_rfl)) k1 bel lt1) trodAll_mk0)), rfl, bel.frame _, fun h => by cases h⟩
theorem fact_inPlace : (Rows.fnFixesRow.inPlace == Try.prog.inPlace 15) = true := by kernel_rfl
theorem fact_unfollowed : (Rows.fnFixesRow.unfollowed == Try.prog.unfollowed 15) = true := by kernel_rfl
theorem fact_recurses : (Rows.fnFixesRow.recurses == Try.prog.recurses 15) = true := by kernel_rfl
theorem fact_named : (Rows.fnFixesRow.named == Try.prog.varsNamed 15) = true := by kernel_rfl
theorem fact_plain : (Rows.fnFixesRow.plainKeys == Try.prog.plainKeys) = true := by kernel_rfl
theorem joined : joinedFacts Try.pinned.checked.prog 15 Try.f15 Rows.fnFixesSpec Rows.fnFixesRow = true :=
  joined_of (f := 15) (fn := Try.f15) (s := Rows.fnFixesSpec) (c := Rows.fnFixesRow) (by kernel_rfl) (by kernel_rfl) (by kernel_rfl) (by kernel_rfl) (by kernel_rfl) fact_inPlace fact_unfollowed fact_recurses fact_named (by kernel_rfl) (by kernel_rfl) (by kernel_rfl) (by kernel_rfl) (by kernel_rfl) (by kernel_rfl) (by kernel_rfl) (by kernel_rfl) (by kernel_rfl) fact_plain (by kernel_rfl) rfl rfl (by kernel_rfl) (by kernel_rfl) (by kernel_rfl) (by kernel_rfl)

/-- the statement -/
theorem proved : Rows.FnFixesSaid :=
  OpenClaim.holds_of_wide 15 Try.f15 rfl rfl rfl rfl rfl rfl rfl ⟨rfl, rfl, rfl, rfl, rfl⟩ rfl rfl rfl rfl rfl (by kernel_rfl) Try.func15 joined
    (of_decide_eq_true (by kernel_rfl)) (by unfold Func.isWrapper; first | (rw [if_pos (by decide +kernel)]; kernel_rfl) | (rw [if_neg (by decide +kernel)]; exact ⟨rfl, rfl⟩))
    (fun os started H enc _ => lifted os started H enc)
#print axioms proved
end Go.Proofs.Ytebhbcjioolpeaa.fnFixes
