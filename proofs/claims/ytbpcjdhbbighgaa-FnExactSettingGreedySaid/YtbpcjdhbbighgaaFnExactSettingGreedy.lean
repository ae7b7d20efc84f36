/-
  FnExactSettingGreedy: for every list of labels the law returns true and leaves what was there as it was. No condition.
-/
import Derived.Test.YtbpcjdhbbighgaaGreedyI
import Derived.Test.YtbpcjdhbbighgaaSz
import Derived.Test.YtbpcjdhbbighgaaLabOpen
import Derived.Test.YtbpcjdhbbighgaaFacts
import Derived.Test.YtbpcjdhbbighgaaFacts
import Derived.ProofKit
import Derived.OpenShut
import Derived.ShutString
import Derived.ChangeOld
import Derived.Below
namespace Go.Proofs.Ytbpcjdhbbighgaa
open Go.RowKit Go.Deep

theorem greedyOut_len (l : List Quad) : (greedyOut l).length = if ValidL l then l.length else 0 := by
  unfold greedyOut
  split
  · rename_i h; exact (greedy_ok h).1.2.1
  · rfl
set_option maxHeartbeats 2000000 in
set_option maxRecDepth 100000 in
theorem FnExactSettingGreedy_walk (v : Value) (l : List Quad) (w : World) (h : Quads w v l) :
    Calls Try.prog 5 #[v] w fun e w' => e = .returned (.bool true) ∧ Below w.heap.size w w' := by
  obtain ⟨a, cap, rfl, hc1, hc2, hc3⟩ := id h
  have s0 := Nat.le_refl w.heap.size
  have H := Lib.hid h.quadsB
  clear h hc3
  by_cases hbig : 1048576 < l.length
  · go_enter Try.func5, Try.ntmps5
    go_wp2_with fail
    refine (szLabelS_no _ l _ _ (H.out.quads (by omega)) (by omega) (by omega)).mono ?_
    rintro e w1 ⟨rfl, hb1⟩
    go_wp2
    go_ret
    exact ⟨rfl, hb1⟩
  have hn : l.length ≤ 1099511627776 := by omega
  have hn' : (l.length : Int) ≤ 1048576 := by omega
  clear hbig
  go_enter Try.func5, Try.ntmps5
  go_wp2_with fail
  refine (szLabelS_yes _ l _ _ (H.out.quads (by omega)) (by omega) (by omega)).mono ?_
  rintro e w1 ⟨rfl, hb1⟩
  have s1 := hb1.size
  replace H := Lib.hid (H.out.below hb1 (by omega))
  have B := Lib.hid (hb1)
  clear hb1
  obtain ⟨bv, hbv⟩ : ∃ bv, bv = decide (ValidL l) := ⟨_, rfl⟩
  obtain ⟨R, hR⟩ : ∃ R, R = greedyOut l := ⟨_, rfl⟩
  have hne : (bv != bv) = false := by simp
  have hRn : R.length ≤ 1099511627776 := by rw [hR]; exact (by rw [greedyOut_len]; split <;> omega)
  have C1 : Hid (∀ v W, Quads W v l → Calls Try.prog 25 #[v] W fun e w' => ∃ v', e = .returned (.tuple #[v', .bool bv]) ∧ Own W.heap.size w'.heap.size w' v' R ∧ Below W.heap.size W w') := by rw [hbv, hR]; exact fun v W h => SettingGreedy_any v l W h
  have C2 : Hid (∀ v W, Quads W v l → Calls Try.prog 23 #[v] W fun e w' => ∃ v', e = .returned (.tuple #[v', .bool bv]) ∧ Own W.heap.size w'.heap.size w' v' R ∧ Below W.heap.size W w') := by rw [hbv, hR]; exact fun v W h => specSettingGreedy_any v l W h
  clear hbv hR
  go_wp2_with fail
  refine (toLabelS_any _ l _ (H.out.quads (by omega)) hn).mono ?_
  rintro e w2 ⟨v2, rfl, hO2, hb2⟩
  have s2 := hb2.size
  replace H := Lib.hid (H.out.below hb2 (by omega))
  replace B := Lib.hid (B.out.trans (hb2.mono (by omega)))
  have O2 := Lib.hid hO2
  clear hO2 hb2
  go_wp2_with fail
  refine (C2.out _ _ O2.out.quads).mono ?_
  rintro e w3 ⟨v3, rfl, hO3, hb3⟩
  have s3 := hb3.size
  replace H := Lib.hid (H.out.below hb3 (by omega))
  replace O2 := Lib.hid (O2.out.below hb3 (by omega))
  replace B := Lib.hid (B.out.trans (hb3.mono (by omega)))
  have O3 := Lib.hid hO3
  clear hO3 hb3
  clear O2
  go_wp2_with fail
  refine (toLabelS_any _ l _ (H.out.quads (by omega)) hn).mono ?_
  rintro e w4 ⟨v4, rfl, hO4, hb4⟩
  have s4 := hb4.size
  replace H := Lib.hid (H.out.below hb4 (by omega))
  replace O3 := Lib.hid (O3.out.below hb4 (by omega))
  replace B := Lib.hid (B.out.trans (hb4.mono (by omega)))
  have O4 := Lib.hid hO4
  clear hO4 hb4
  go_wp2_with fail
  refine (C1.out _ _ O4.out.quads).mono ?_
  rintro e w5 ⟨v5, rfl, hO5, hb5⟩
  have s5 := hb5.size
  replace H := Lib.hid (H.out.below hb5 (by omega))
  replace O3 := Lib.hid (O3.out.below hb5 (by omega))
  replace O4 := Lib.hid (O4.out.below hb5 (by omega))
  replace B := Lib.hid (B.out.trans (hb5.mono (by omega)))
  have O5 := Lib.hid hO5
  clear hO5 hb5
  go_wp2_with fail
  refine (eqIntS_b _ _ R R _ O5.out.ints O3.out.ints).mono ?_
  rintro e w6 ⟨rfl, hb6⟩
  have s6 := hb6.size
  replace H := Lib.hid (H.out.below hb6 (by omega))
  replace O3 := Lib.hid (O3.out.below hb6 (by omega))
  replace O4 := Lib.hid (O4.out.below hb6 (by omega))
  replace O5 := Lib.hid (O5.out.below hb6 (by omega))
  replace B := Lib.hid (B.out.trans (hb6.mono (by omega)))
  clear hb6
  rw [decide_eq_true rfl]
  go_wp2_with fail
  refine (toLabelS_any _ l _ (H.out.quads (by omega)) hn).mono ?_
  rintro e w7 ⟨v7, rfl, hO7, hb7⟩
  have s7 := hb7.size
  replace H := Lib.hid (H.out.below hb7 (by omega))
  replace O3 := Lib.hid (O3.out.below hb7 (by omega))
  replace O4 := Lib.hid (O4.out.below hb7 (by omega))
  replace O5 := Lib.hid (O5.out.below hb7 (by omega))
  replace B := Lib.hid (B.out.trans (hb7.mono (by omega)))
  have O7 := Lib.hid hO7
  clear hO7 hb7
  go_wp2_with fail
  refine (eqLabelS_any _ _ l l _ O4.out.quads O7.out.quads).mono ?_
  rintro e w8 ⟨rfl, hb8⟩
  have s8 := hb8.size
  replace H := Lib.hid (H.out.below hb8 (by omega))
  replace O3 := Lib.hid (O3.out.below hb8 (by omega))
  replace O4 := Lib.hid (O4.out.below hb8 (by omega))
  replace O5 := Lib.hid (O5.out.below hb8 (by omega))
  replace O7 := Lib.hid (O7.out.below hb8 (by omega))
  replace B := Lib.hid (B.out.trans (hb8.mono (by omega)))
  clear hb8
  clear O7
  rw [decide_eq_true rfl]
  go_wp2_with fail
  refine (markLabelS_any _ l 1 _ _ _ O4.out hn (by omega) (by omega)).mono ?_
  rintro e w9 ⟨rfl, hO9, hb9⟩
  have s9 := hb9.size
  replace H := Lib.hid (H.out.touch hb9 (by omega))
  replace O3 := Lib.hid (O3.out.touch hb9 (by omega))
  replace O5 := Lib.hid (O5.out.touch hb9 (by omega))
  replace B := Lib.hid (B.out.trans (hb9.below (by omega) (by omega)))
  have O9 := Lib.hid hO9
  clear O4
  clear hO9 hb9
  clear O9
  go_wp2_with fail
  refine (eqIntS_b _ _ R R _ O5.out.ints O3.out.ints).mono ?_
  rintro e w10 ⟨rfl, hb10⟩
  have s10 := hb10.size
  replace H := Lib.hid (H.out.below hb10 (by omega))
  replace O3 := Lib.hid (O3.out.below hb10 (by omega))
  replace O5 := Lib.hid (O5.out.below hb10 (by omega))
  replace B := Lib.hid (B.out.trans (hb10.mono (by omega)))
  clear hb10
  rw [decide_eq_true rfl]
  go_wp2_with fail
  refine (markIntS_any _ R 1 _ _ _ O5.out hRn (by omega) (by omega)).mono ?_
  rintro e w11 ⟨rfl, hO11, hb11⟩
  have s11 := hb11.size
  replace H := Lib.hid (H.out.touch hb11 (by omega))
  replace O3 := Lib.hid (O3.out.touch hb11 (by omega))
  replace B := Lib.hid (B.out.trans (hb11.below (by omega) (by omega)))
  have O11 := Lib.hid hO11
  clear O5
  clear hO11 hb11
  go_wp2_with fail
  refine (heldIntS_b _ 1 _ _ O11.out.ints hRn (by omega) (by omega)).mono ?_
  rintro e w12 ⟨rfl, hb12⟩
  have s12 := hb12.size
  replace H := Lib.hid (H.out.below hb12 (by omega))
  replace O3 := Lib.hid (O3.out.below hb12 (by omega))
  replace O11 := Lib.hid (O11.out.below hb12 (by omega))
  replace B := Lib.hid (B.out.trans (hb12.mono (by omega)))
  clear hb12
  go_wp2_with fail
  refine (toLabelS_any _ l _ (H.out.quads (by omega)) hn).mono ?_
  rintro e w13 ⟨v13, rfl, hO13, hb13⟩
  have s13 := hb13.size
  replace H := Lib.hid (H.out.below hb13 (by omega))
  replace O3 := Lib.hid (O3.out.below hb13 (by omega))
  replace O11 := Lib.hid (O11.out.below hb13 (by omega))
  replace B := Lib.hid (B.out.trans (hb13.mono (by omega)))
  have O13 := Lib.hid hO13
  clear hO13 hb13
  go_wp2_with fail
  refine (C1.out _ _ O13.out.quads).mono ?_
  rintro e w14 ⟨v14, rfl, hO14, hb14⟩
  have s14 := hb14.size
  replace H := Lib.hid (H.out.below hb14 (by omega))
  replace O3 := Lib.hid (O3.out.below hb14 (by omega))
  replace O11 := Lib.hid (O11.out.below hb14 (by omega))
  replace O13 := Lib.hid (O13.out.below hb14 (by omega))
  replace B := Lib.hid (B.out.trans (hb14.mono (by omega)))
  have O14 := Lib.hid hO14
  clear hO14 hb14
  clear O13
  go_wp2_with fail
  refine (eqIntS_b _ _ R R _ O14.out.ints O3.out.ints).mono ?_
  rintro e w15 ⟨rfl, hb15⟩
  have s15 := hb15.size
  replace H := Lib.hid (H.out.below hb15 (by omega))
  replace O3 := Lib.hid (O3.out.below hb15 (by omega))
  replace O11 := Lib.hid (O11.out.below hb15 (by omega))
  replace O14 := Lib.hid (O14.out.below hb15 (by omega))
  replace B := Lib.hid (B.out.trans (hb15.mono (by omega)))
  clear hb15
  rw [decide_eq_true rfl]
  go_wp2_with fail
  refine (heldIntS_b _ 1 _ _ O11.out.ints hRn (by omega) (by omega)).mono ?_
  rintro e w16 ⟨rfl, hb16⟩
  have s16 := hb16.size
  replace H := Lib.hid (H.out.below hb16 (by omega))
  replace O3 := Lib.hid (O3.out.below hb16 (by omega))
  replace O11 := Lib.hid (O11.out.below hb16 (by omega))
  replace O14 := Lib.hid (O14.out.below hb16 (by omega))
  replace B := Lib.hid (B.out.trans (hb16.mono (by omega)))
  clear hb16
  go_wp2
  go_ret
  exact ⟨rfl, B.out⟩
end Go.Proofs.Ytbpcjdhbbighgaa
namespace Go.Proofs.Ytbpcjdhbbighgaa.fnExactSettingGreedy
open Go.ChangeShapes Go.WideShapes Go.ChangeAt Go.RowKit
set_option linter.unusedVariables false

theorem own : ownKnob Try.prog.godebug = none := by kernel_rfl
theorem laidOut : laidOutB Try.prog = true := fact_laid
set_option maxRecDepth 100000 in
theorem lifted (os : Os) (started : os.Started) (H : Type) (enc : TypeId × Value → H) :
    ReturnsInHanded {} Try.checked os 5 .any (Rows.fnExactSettingGreedySpec.pre6 enc Try.prog Try.f5 Rows.fnExactSettingGreedyRow.domain false) (Rows.fnExactSettingGreedySpec.post enc Try.prog Try.f5 false true false false) := by
  refine returnsInHanded_of_change (C := Try.checked) own started (by kernel_rfl) Try.func5
    (ChangeSpec.witness6 (enc := enc) (C := Try.checked) false ⟨#[], #[.slice none 0 0], []⟩ 8 (by kernel_rfl) (by kernel_rfl) (by kernel_rfl) (by kernel_rfl)) ?_
  intro W base args ds gs before hval0 hW hcnd _
  have hval : ∀ (j : Nat) t v, Try.f5.params[j]? = some t → args[j]? = some v → Value.okWide Try.prog W .any base t v := hval0
  have hW' := hW
  obtain ⟨p, q, hA0, hV, rfl, hfz, hnd⟩ := hW
  have hA : DataW.TrodAll enc Try.prog W 0 (fun _ => true) true Try.f5.params.toList args.toList ds p := hA0
  rw [Try.params5] at hA hval
  obtain ⟨v0, vs0, d0, ds0, p0, q0, hargs, rfl, rfl, h0, r0⟩ := trodAll_cons hA
  obtain ⟨rfl, rfl, rfl⟩ := trodAll_nil r0
  obtain rfl : args = #[v0] := by cases args; simp_all
  obtain ⟨rfl, rfl⟩ := trodVars_none hV
  obtain ⟨a0, len0, cap0, rfl⟩ := okWide_slice Try.underlying38 (hval 0 38 v0 rfl rfl)
  have k0 := h0
  have lt0 : ∀ x ∈ p0, x.block < W.heap.size := by obtain ⟨m, hm⟩ := k0; exact DataW.trod_lt m _ _ _ hm
  obtain ⟨z0, w0⟩ : ∃ zs, Quads W (.slice a0 len0 cap0) zs := labels_opened h0
  clear hA0 hval0
  refine (FnExactSettingGreedy_walk _ z0 W w0).mono fun e W' ⟨he, bel⟩ => ?_
  subst he
  exact ⟨_, rfl, _, _, _, [], _, [], hW', trodAll_mk1 (shut_bool Try.underlying4 _), (trodAll_cons_mk (Below.trod laidOut (by kernel_rfl) (of_decide_eq_true (by kernel_rfl)) k0 bel lt0) trodAll_mk0), rfl, bel.frame _, fun h => by cases h⟩
theorem fact_inPlace : (Rows.fnExactSettingGreedyRow.inPlace == Try.prog.inPlace 5) = true := by kernel_rfl
theorem fact_unfollowed : (Rows.fnExactSettingGreedyRow.unfollowed == Try.prog.unfollowed 5) = true := by kernel_rfl
theorem fact_recurses : (Rows.fnExactSettingGreedyRow.recurses == Try.prog.recurses 5) = true := by kernel_rfl
theorem fact_named : (Rows.fnExactSettingGreedyRow.named == Try.prog.varsNamed 5) = true := by kernel_rfl
theorem fact_plain : (Rows.fnExactSettingGreedyRow.plainKeys == Try.prog.plainKeys) = true := by kernel_rfl
theorem joined : joinedFacts Try.pinned.checked.prog 5 Try.f5 Rows.fnExactSettingGreedySpec Rows.fnExactSettingGreedyRow = true :=
  joined_of (f := 5) (fn := Try.f5) (s := Rows.fnExactSettingGreedySpec) (c := Rows.fnExactSettingGreedyRow) (by kernel_rfl) (by kernel_rfl) (by kernel_rfl) (by kernel_rfl) (by kernel_rfl) fact_inPlace fact_unfollowed fact_recurses fact_named (by kernel_rfl) (by kernel_rfl) (by kernel_rfl) (by kernel_rfl) (by kernel_rfl) (by kernel_rfl) (by kernel_rfl) (by kernel_rfl) (by kernel_rfl) fact_plain (by kernel_rfl) rfl rfl (by kernel_rfl) (by kernel_rfl) (by kernel_rfl) (by kernel_rfl)

/-- the statement -/
theorem proved : Rows.FnExactSettingGreedySaid :=
  OpenClaim.holds_of_wide 5 Try.f5 rfl rfl rfl rfl rfl rfl rfl ⟨rfl, rfl, rfl, rfl, rfl⟩ rfl rfl rfl rfl rfl (by kernel_rfl) Try.func5 joined
    (of_decide_eq_true (by kernel_rfl)) (by unfold Func.isWrapper; first | (rw [if_pos (by decide +kernel)]; kernel_rfl) | (rw [if_neg (by decide +kernel)]; exact ⟨rfl, rfl⟩))
    (fun os started H enc _ => lifted os started H enc)
#print axioms proved
end Go.Proofs.Ytbpcjdhbbighgaa.fnExactSettingGreedy
