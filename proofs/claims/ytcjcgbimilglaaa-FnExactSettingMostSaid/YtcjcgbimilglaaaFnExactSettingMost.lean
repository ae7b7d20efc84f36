/-
  FnExactSettingMost: for every list of labels the law returns true and leaves what was there as it was. No condition.
-/
import Derived.Test.YtcjcgbimilglaaaSetMany
import Derived.Test.YtcjcgbimilglaaaSz
import Derived.Test.YtcjcgbimilglaaaFacts
import Derived.ProofKit
import Derived.OpenShut
import Derived.ShutString
import Derived.ChangeOld
import Derived.Below
namespace Go.Proofs.Ytcjcgbimilglaaa
open Go.RowKit Go.Deep

set_option maxHeartbeats 2000000 in
set_option maxRecDepth 100000 in
theorem FnExactSettingMost_walk (v : Value) (l : List Quad) (w : World) (h : Quads w v l) :
    Calls Try.prog 4 #[v] w fun e w' => e = .returned (.bool true) ∧ Below w.heap.size w w' := by
  obtain ⟨a, cap, rfl, hc1, hc2, hc3⟩ := id h
  have s0 := Nat.le_refl w.heap.size
  have H := Lib.hid h.quadsB
  clear h hc3
  by_cases hbig : 1048576 < l.length
  · go_enter Try.func4, Try.ntmps4
    go_wp2_with fail
    refine (szLabelS_no _ l _ _ (H.out.quads (by omega)) (by omega) (by omega)).mono ?_
    rintro e w1 ⟨rfl, hb1⟩
    go_wp2
    go_ret
    exact ⟨rfl, hb1⟩
  have hn : l.length ≤ 1099511627776 := by omega
  have hn' : (l.length : Int) ≤ 1048576 := by omega
  clear hbig
  go_enter Try.func4, Try.ntmps4
  go_wp2_with fail
  refine (szLabelS_yes _ l _ _ (H.out.quads (by omega)) (by omega) (by omega)).mono ?_
  rintro e w1 ⟨rfl, hb1⟩
  have s1 := hb1.size
  replace H := Lib.hid (H.out.below hb1 (by omega))
  have B := Lib.hid (hb1)
  clear hb1
  obtain ⟨bv, hbv⟩ : ∃ bv, bv = mostOut l := ⟨_, rfl⟩
  have hne : (bv != bv) = false := by simp
  have C1 : Hid (∀ v W, Quads W v l → Calls Try.prog 28 #[v] W fun e w' => e = .returned (.int .i64 bv) ∧ Below W.heap.size W w') := by rw [hbv]; exact fun v W h => SettingMost_any v l W h
  have C2 : Hid (∀ v W, Quads W v l → Calls Try.prog 27 #[v] W fun e w' => e = .returned (.int .i64 bv) ∧ Below W.heap.size W w') := by rw [hbv]; exact fun v W h => specSettingMost_any v l W h
  clear hbv
  go_wp2_with fail
  refine (toLabelS_any _ l _ (H.out.quads (by omega)) hn).mono ?_
  rintro e w2 ⟨v2, rfl, hO2, hb2⟩
  have s2 := hb2.size
  replace H := Lib.hid (H.out.below hb2 (by omega))
  replace B := Lib.hid (B.out.trans (hb2.mono (by omega)))
  have O2 := Lib.hid hO2
  clear hO2 hb2
  go_wp2_with fail
  refine (C2.out _ _ O2.out.quads).mono ?_
  rintro e w3 ⟨rfl, hb3⟩
  have s3 := hb3.size
  replace H := Lib.hid (H.out.below hb3 (by omega))
  replace O2 := Lib.hid (O2.out.below hb3 (by omega))
  replace B := Lib.hid (B.out.trans (hb3.mono (by omega)))
  clear hb3
  clear O2
  go_wp2_with fail
  refine (toLabelS_any _ l _ (H.out.quads (by omega)) hn).mono ?_
  rintro e w4 ⟨v4, rfl, hO4, hb4⟩
  have s4 := hb4.size
  replace H := Lib.hid (H.out.below hb4 (by omega))
  replace B := Lib.hid (B.out.trans (hb4.mono (by omega)))
  have O4 := Lib.hid hO4
  clear hO4 hb4
  go_wp2_with fail
  refine (C1.out _ _ O4.out.quads).mono ?_
  rintro e w5 ⟨rfl, hb5⟩
  have s5 := hb5.size
  replace H := Lib.hid (H.out.below hb5 (by omega))
  replace O4 := Lib.hid (O4.out.below hb5 (by omega))
  replace B := Lib.hid (B.out.trans (hb5.mono (by omega)))
  clear hb5
  go_wp2_with fail
  refine (toLabelS_any _ l _ (H.out.quads (by omega)) hn).mono ?_
  rintro e w6 ⟨v6, rfl, hO6, hb6⟩
  have s6 := hb6.size
  replace H := Lib.hid (H.out.below hb6 (by omega))
  replace O4 := Lib.hid (O4.out.below hb6 (by omega))
  replace B := Lib.hid (B.out.trans (hb6.mono (by omega)))
  have O6 := Lib.hid hO6
  clear hO6 hb6
  go_wp2_with fail
  refine (eqLabelS_any _ _ l l _ O4.out.quads O6.out.quads).mono ?_
  rintro e w7 ⟨rfl, hb7⟩
  have s7 := hb7.size
  replace H := Lib.hid (H.out.below hb7 (by omega))
  replace O4 := Lib.hid (O4.out.below hb7 (by omega))
  replace O6 := Lib.hid (O6.out.below hb7 (by omega))
  replace B := Lib.hid (B.out.trans (hb7.mono (by omega)))
  clear hb7
  rw [decide_eq_true rfl]
  go_wp2
  go_ret
  exact ⟨rfl, B.out⟩
end Go.Proofs.Ytcjcgbimilglaaa
namespace Go.Proofs.Ytcjcgbimilglaaa.fnExactSettingMost
open Go.ChangeShapes Go.WideShapes Go.ChangeAt Go.RowKit
set_option linter.unusedVariables false

theorem own : ownKnob Try.prog.godebug = none := by kernel_rfl
theorem laidOut : laidOutB Try.prog = true := fact_laid
set_option maxRecDepth 100000 in
theorem lifted (os : Os) (started : os.Started) (H : Type) (enc : TypeId × Value → H) :
    ReturnsInHanded {} Try.checked os 4 .any (Rows.fnExactSettingMostSpec.pre6 enc Try.prog Try.f4 Rows.fnExactSettingMostRow.domain false) (Rows.fnExactSettingMostSpec.post enc Try.prog Try.f4 false true false false) := by
  refine returnsInHanded_of_change (C := Try.checked) own started (by kernel_rfl) Try.func4
    (ChangeSpec.witness6 (enc := enc) (C := Try.checked) false ⟨#[], #[.slice none 0 0], []⟩ 8 (by kernel_rfl) (by kernel_rfl) (by kernel_rfl) (by kernel_rfl)) ?_
  intro W base args ds gs before hval0 hW hcnd _
  have hval : ∀ (j : Nat) t v, Try.f4.params[j]? = some t → args[j]? = some v → Value.okWide Try.prog W .any base t v := hval0
  have hW' := hW
  obtain ⟨p, q, hA0, hV, rfl, hfz, hnd⟩ := hW
  have hA : DataW.TrodAll enc Try.prog W 0 (fun _ => true) true Try.f4.params.toList args.toList ds p := hA0
  rw [Try.params4] at hA hval
  obtain ⟨v0, vs0, d0, ds0, p0, q0, hargs, rfl, rfl, h0, r0⟩ := trodAll_cons hA
  obtain ⟨rfl, rfl, rfl⟩ := trodAll_nil r0
  obtain rfl : args = #[v0] := by cases args; simp_all
  obtain ⟨rfl, rfl⟩ := trodVars_none hV
  obtain ⟨a0, len0, cap0, rfl⟩ := okWide_slice Try.underlying22 (hval 0 22 v0 rfl rfl)
  have k0 := h0
  have lt0 : ∀ x ∈ p0, x.block < W.heap.size := by obtain ⟨m, hm⟩ := k0; exact DataW.trod_lt m _ _ _ hm
  obtain ⟨z0, w0⟩ : ∃ zs, Quads W (.slice a0 len0 cap0) zs := labels_opened h0
  clear hA0 hval0
  refine (FnExactSettingMost_walk _ z0 W w0).mono fun e W' ⟨he, bel⟩ => ?_
  subst he
  exact ⟨_, rfl, _, _, _, [], _, [], hW', trodAll_mk1 (shut_bool Try.underlying4 _), (trodAll_cons_mk (Below.trod laidOut (by kernel_rfl) (of_decide_eq_true (by kernel_rfl)) k0 bel lt0) trodAll_mk0), rfl, bel.frame _, fun h => by cases h⟩
theorem fact_inPlace : (Rows.fnExactSettingMostRow.inPlace == Try.prog.inPlace 4) = true := by kernel_rfl
theorem fact_unfollowed : (Rows.fnExactSettingMostRow.unfollowed == Try.prog.unfollowed 4) = true := by kernel_rfl
theorem fact_recurses : (Rows.fnExactSettingMostRow.recurses == Try.prog.recurses 4) = true := by kernel_rfl
theorem fact_named : (Rows.fnExactSettingMostRow.named == Try.prog.varsNamed 4) = true := by kernel_rfl
theorem fact_plain : (Rows.fnExactSettingMostRow.plainKeys == Try.prog.plainKeys) = true := by kernel_rfl
theorem joined : joinedFacts Try.pinned.checked.prog 4 Try.f4 Rows.fnExactSettingMostSpec Rows.fnExactSettingMostRow = true :=
  joined_of (f := 4) (fn := Try.f4) (s := Rows.fnExactSettingMostSpec) (c := Rows.fnExactSettingMostRow) (by kernel_rfl) (by kernel_rfl) (by kernel_rfl) (by kernel_rfl) (by kernel_rfl) fact_inPlace fact_unfollowed fact_recurses fact_named (by kernel_rfl) (by kernel_rfl) (by kernel_rfl) (by kernel_rfl) (by kernel_rfl) (by kernel_rfl) (by kernel_rfl) (by kernel_rfl) (by kernel_rfl) fact_plain (by kernel_rfl) rfl rfl (by kernel_rfl) (by kernel_rfl) (by kernel_rfl) (by kernel_rfl)

/-- the statement -/
theorem proved : Rows.FnExactSettingMostSaid :=
  OpenClaim.holds_of_wide 4 Try.f4 rfl rfl rfl rfl rfl rfl rfl ⟨rfl, rfl, rfl, rfl, rfl⟩ rfl rfl rfl rfl rfl (by kernel_rfl) Try.func4 joined
    (of_decide_eq_true (by kernel_rfl)) (by unfold Func.isWrapper; first | (rw [if_pos (by decide +kernel)]; kernel_rfl) | (rw [if_neg (by decide +kernel)]; exact ⟨rfl, rfl⟩))
    (fun os started H enc _ => lifted os started H enc)
#print axioms proved
end Go.Proofs.Ytcjcgbimilglaaa.fnExactSettingMost
