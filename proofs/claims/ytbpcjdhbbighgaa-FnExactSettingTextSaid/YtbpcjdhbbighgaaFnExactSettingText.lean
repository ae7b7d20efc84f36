/-
  FnExactSettingText: for every list of labels and every list of sides the law returns true and leaves what was there as it was. No condition.
-/
import Derived.Test.YtbpcjdhbbighgaaText
import Derived.Test.YtbpcjdhbbighgaaTextI
import Derived.Test.YtbpcjdhbbighgaaSz
import Derived.Test.YtbpcjdhbbighgaaInts
import Derived.Test.YtbpcjdhbbighgaaLabOpen
import Derived.Test.YtbpcjdhbbighgaaFacts
import Derived.Test.YtbpcjdhbbighgaaFacts
import Derived.ProofKit
import Derived.OpenShut
import Derived.ShutString
import Derived.ChangeOld
import Derived.Below
namespace Go.Proofs.Ytbpcjdhbbighgaa
open Go.RowKit Go.Deep

set_option maxHeartbeats 2000000 in
set_option maxRecDepth 100000 in
theorem FnExactSettingText_walk (v : Value) (l : List Quad) (u : Value) (s : List Int) (w : World) (h : Quads w v l) (hu : Ints w u s) :
    Calls Try.prog 6 #[v, u] w fun e w' => e = .returned (.bool true) ∧ Below w.heap.size w w' := by
  obtain ⟨a, cap, rfl, hc1, hc2, hc3⟩ := id h
  obtain ⟨a', cap', rfl, hd1, hd2, hd3⟩ := id hu
  have s0 := Nat.le_refl w.heap.size
  have H := Lib.hid h.quadsB
  have U := Lib.hid hu.intsB
  clear h hc3 hu hd3
  by_cases hbs : 1048576 < s.length
  · have hbs' : (1048576 : Int) < (s.length : Int) := by omega
    go_enter Try.func6, Try.ntmps6
    go_wp2
    go_ret
    exact ⟨rfl, Below.refl _ _⟩
  have hbs' : ¬ (1048576 : Int) < (s.length : Int) := by omega
  have hsn : s.length ≤ 1099511627776 := by omega
  clear hbs
  by_cases hbig : 1048576 < l.length
  · go_enter Try.func6, Try.ntmps6
    go_wp2_with fail
    refine (szLabelS_no _ l _ _ (H.out.quads (by omega)) (by omega) (by omega)).mono ?_
    rintro e w1 ⟨rfl, hb1⟩
    go_wp2
    go_ret
    exact ⟨rfl, hb1⟩
  have hn : l.length ≤ 1099511627776 := by omega
  have hn' : (l.length : Int) ≤ 1048576 := by omega
  clear hbig
  go_enter Try.func6, Try.ntmps6
  go_wp2_with fail
  refine (szLabelS_yes _ l _ _ (H.out.quads (by omega)) (by omega) (by omega)).mono ?_
  rintro e w1 ⟨rfl, hb1⟩
  have s1 := hb1.size
  replace H := Lib.hid (H.out.below hb1 (by omega))
  replace U := Lib.hid (U.out.below hb1 (by omega))
  have B := Lib.hid (hb1)
  clear hb1
  obtain ⟨bv, hbv⟩ : ∃ bv, bv = (⟨(textOf l s).toArray⟩ : ByteArray) := ⟨_, rfl⟩
  have C1 : Hid (∀ v u W, Quads W v l → Ints W u s → Calls Try.prog 33 #[v, u] W fun e w' => e = .returned (.string bv) ∧ Below W.heap.size W w') := by rw [hbv]; exact fun v u W h hu => SettingText_any v u l s W h hu
  have C2 : Hid (∀ v u W, Quads W v l → Ints W u s → Calls Try.prog 31 #[v, u] W fun e w' => e = .returned (.string bv) ∧ Below W.heap.size W w') := by rw [hbv]; exact fun v u W h hu => specSettingText_any v u l s W h hu
  clear hbv
  go_wp2_with fail
  refine (toLabelS_any _ l _ (H.out.quads (by omega)) hn).mono ?_
  rintro e w2 ⟨v2, rfl, hO2, hb2⟩
  have s2 := hb2.size
  replace H := Lib.hid (H.out.below hb2 (by omega))
  replace U := Lib.hid (U.out.below hb2 (by omega))
  replace B := Lib.hid (B.out.trans (hb2.mono (by omega)))
  have O2 := Lib.hid hO2
  clear hO2 hb2
  go_wp2_with fail
  refine (toIntS_any _ s _ (U.out.ints (by omega)) hsn).mono ?_
  rintro e w3 ⟨v3, rfl, hO3, hb3⟩
  have s3 := hb3.size
  replace H := Lib.hid (H.out.below hb3 (by omega))
  replace U := Lib.hid (U.out.below hb3 (by omega))
  replace O2 := Lib.hid (O2.out.below hb3 (by omega))
  replace B := Lib.hid (B.out.trans (hb3.mono (by omega)))
  have O3 := Lib.hid hO3
  clear hO3 hb3
  go_wp2_with fail
  refine (C2.out _ _ _ O2.out.quads O3.out.ints).mono ?_
  rintro e w4 ⟨rfl, hb4⟩
  have s4 := hb4.size
  replace H := Lib.hid (H.out.below hb4 (by omega))
  replace U := Lib.hid (U.out.below hb4 (by omega))
  replace O2 := Lib.hid (O2.out.below hb4 (by omega))
  replace O3 := Lib.hid (O3.out.below hb4 (by omega))
  replace B := Lib.hid (B.out.trans (hb4.mono (by omega)))
  clear hb4
  clear O2
  clear O3
  go_wp2_with fail
  refine (toLabelS_any _ l _ (H.out.quads (by omega)) hn).mono ?_
  rintro e w5 ⟨v5, rfl, hO5, hb5⟩
  have s5 := hb5.size
  replace H := Lib.hid (H.out.below hb5 (by omega))
  replace U := Lib.hid (U.out.below hb5 (by omega))
  replace B := Lib.hid (B.out.trans (hb5.mono (by omega)))
  have O5 := Lib.hid hO5
  clear hO5 hb5
  go_wp2_with fail
  refine (toIntS_any _ s _ (U.out.ints (by omega)) hsn).mono ?_
  rintro e w6 ⟨v6, rfl, hO6, hb6⟩
  have s6 := hb6.size
  replace H := Lib.hid (H.out.below hb6 (by omega))
  replace U := Lib.hid (U.out.below hb6 (by omega))
  replace O5 := Lib.hid (O5.out.below hb6 (by omega))
  replace B := Lib.hid (B.out.trans (hb6.mono (by omega)))
  have O6 := Lib.hid hO6
  clear hO6 hb6
  go_wp2_with fail
  refine (C1.out _ _ _ O5.out.quads O6.out.ints).mono ?_
  rintro e w7 ⟨rfl, hb7⟩
  have s7 := hb7.size
  replace H := Lib.hid (H.out.below hb7 (by omega))
  replace U := Lib.hid (U.out.below hb7 (by omega))
  replace O5 := Lib.hid (O5.out.below hb7 (by omega))
  replace O6 := Lib.hid (O6.out.below hb7 (by omega))
  replace B := Lib.hid (B.out.trans (hb7.mono (by omega)))
  clear hb7
  go_wp2_with fail
  refine (toLabelS_any _ l _ (H.out.quads (by omega)) hn).mono ?_
  rintro e w8 ⟨v8, rfl, hO8, hb8⟩
  have s8 := hb8.size
  replace H := Lib.hid (H.out.below hb8 (by omega))
  replace U := Lib.hid (U.out.below hb8 (by omega))
  replace O5 := Lib.hid (O5.out.below hb8 (by omega))
  replace O6 := Lib.hid (O6.out.below hb8 (by omega))
  replace B := Lib.hid (B.out.trans (hb8.mono (by omega)))
  have O8 := Lib.hid hO8
  clear hO8 hb8
  go_wp2_with fail
  refine (eqLabelS_any _ _ l l _ O5.out.quads O8.out.quads).mono ?_
  rintro e w9 ⟨rfl, hb9⟩
  have s9 := hb9.size
  replace H := Lib.hid (H.out.below hb9 (by omega))
  replace U := Lib.hid (U.out.below hb9 (by omega))
  replace O5 := Lib.hid (O5.out.below hb9 (by omega))
  replace O6 := Lib.hid (O6.out.below hb9 (by omega))
  replace O8 := Lib.hid (O8.out.below hb9 (by omega))
  replace B := Lib.hid (B.out.trans (hb9.mono (by omega)))
  clear hb9
  rw [decide_eq_true rfl]
  clear O5
  clear O8
  go_wp2_with fail
  refine (toIntS_any _ s _ (U.out.ints (by omega)) hsn).mono ?_
  rintro e w10 ⟨v10, rfl, hO10, hb10⟩
  have s10 := hb10.size
  replace H := Lib.hid (H.out.below hb10 (by omega))
  replace U := Lib.hid (U.out.below hb10 (by omega))
  replace O6 := Lib.hid (O6.out.below hb10 (by omega))
  replace B := Lib.hid (B.out.trans (hb10.mono (by omega)))
  have O10 := Lib.hid hO10
  clear hO10 hb10
  go_wp2_with fail
  refine (eqIntS_b _ _ s s _ O6.out.ints O10.out.ints).mono ?_
  rintro e w11 ⟨rfl, hb11⟩
  have s11 := hb11.size
  replace H := Lib.hid (H.out.below hb11 (by omega))
  replace U := Lib.hid (U.out.below hb11 (by omega))
  replace O6 := Lib.hid (O6.out.below hb11 (by omega))
  replace O10 := Lib.hid (O10.out.below hb11 (by omega))
  replace B := Lib.hid (B.out.trans (hb11.mono (by omega)))
  clear hb11
  rw [decide_eq_true rfl]
  go_wp2
  go_ret
  exact ⟨rfl, B.out⟩
end Go.Proofs.Ytbpcjdhbbighgaa
namespace Go.Proofs.Ytbpcjdhbbighgaa.fnExactSettingText
open Go.ChangeShapes Go.WideShapes Go.ChangeAt Go.RowKit
set_option linter.unusedVariables false

theorem own : ownKnob Try.prog.godebug = none := by kernel_rfl
theorem laidOut : laidOutB Try.prog = true := fact_laid
set_option maxRecDepth 100000 in
theorem lifted (os : Os) (started : os.Started) (H : Type) (enc : TypeId × Value → H) :
    ReturnsInHanded {} Try.checked os 6 .any (Rows.fnExactSettingTextSpec.pre6 enc Try.prog Try.f6 Rows.fnExactSettingTextRow.domain false) (Rows.fnExactSettingTextSpec.post enc Try.prog Try.f6 false true false false) := by
  refine returnsInHanded_of_change (C := Try.checked) own started (by kernel_rfl) Try.func6
    (ChangeSpec.witness6 (enc := enc) (C := Try.checked) false ⟨#[], #[.slice none 0 0, .slice none 0 0], []⟩ 8 (by kernel_rfl) (by kernel_rfl) (by kernel_rfl) (by kernel_rfl)) ?_
  intro W base args ds gs before hval0 hW hcnd _
  have hval : ∀ (j : Nat) t v, Try.f6.params[j]? = some t → args[j]? = some v → Value.okWide Try.prog W .any base t v := hval0
  have hW' := hW
  obtain ⟨p, q, hA0, hV, rfl, hfz, hnd⟩ := hW
  have hA : DataW.TrodAll enc Try.prog W 0 (fun _ => true) true Try.f6.params.toList args.toList ds p := hA0
  rw [Try.params6] at hA hval
  obtain ⟨v0, vs0, d0, ds0, p0, q0, hargs, rfl, rfl, h0, r0⟩ := trodAll_cons hA
  obtain ⟨v1, vs1, d1, ds1, p1, q1, rfl, rfl, rfl, h1, r1⟩ := trodAll_cons r0
  obtain ⟨rfl, rfl, rfl⟩ := trodAll_nil r1
  obtain rfl : args = #[v0, v1] := by cases args; simp_all
  obtain ⟨rfl, rfl⟩ := trodVars_none hV
  obtain ⟨a0, len0, cap0, rfl⟩ := okWide_slice Try.underlying38 (hval 0 38 v0 rfl rfl)
  have k0 := h0
  have lt0 : ∀ x ∈ p0, x.block < W.heap.size := by obtain ⟨m, hm⟩ := k0; exact DataW.trod_lt m _ _ _ hm
  obtain ⟨z0, w0⟩ : ∃ zs, Quads W (.slice a0 len0 cap0) zs := labels_opened h0
  obtain ⟨a1, len1, cap1, rfl⟩ := okWide_slice Try.underlying27 (hval 1 27 v1 rfl rfl)
  have k1 := h1
  have lt1 : ∀ x ∈ p1, x.block < W.heap.size := by obtain ⟨m, hm⟩ := k1; exact DataW.trod_lt m _ _ _ hm
  obtain ⟨z1, w1⟩ : ∃ zs, Ints W (.slice a1 len1 cap1) zs := by
    obtain ⟨fuel, hf⟩ := h1
    rcases open_ints Try.underlying27 Try.underlying3 (by kernel_rfl) hf with ⟨hcs, _⟩ | ⟨x, l, c, zs, hcs, _, hl, hm, hz, _, hcell, hwz⟩
    · simp [Value.cells] at hcs
      obtain ⟨rfl, rfl, rfl⟩ := hcs
      exact ⟨[], Ints_nil W⟩
    · simp [Value.cells] at hcs
      obtain ⟨rfl, rfl, rfl⟩ := hcs
      exact ⟨zs.take len1, Ints_open hl hm (by simpa using hz) hcell hwz⟩
  clear hA0 hval0
  refine (FnExactSettingText_walk _ z0 _ z1 W w0 w1).mono fun e W' ⟨he, bel⟩ => ?_
  subst he
  exact ⟨_, rfl, _, _, _, [], _, [], hW', trodAll_mk1 (shut_bool Try.underlying4 _), (trodAll_cons_mk (Below.trod laidOut (by kernel_rfl) (of_decide_eq_true (by kernel_rfl)) k0 bel lt0) (trodAll_cons_mk (Below.trod laidOut (by kernel_rfl) (of_decide_eq_true (by kernel_rfl)) k1 bel lt1) trodAll_mk0)), rfl, bel.frame _, fun h => by cases h⟩
theorem fact_inPlace : (Rows.fnExactSettingTextRow.inPlace == Try.prog.inPlace 6) = true := by kernel_rfl
theorem fact_unfollowed : (Rows.fnExactSettingTextRow.unfollowed == Try.prog.unfollowed 6) = true := by kernel_rfl
theorem fact_recurses : (Rows.fnExactSettingTextRow.recurses == Try.prog.recurses 6) = true := by kernel_rfl
theorem fact_named : (Rows.fnExactSettingTextRow.named == Try.prog.varsNamed 6) = true := by kernel_rfl
theorem fact_plain : (Rows.fnExactSettingTextRow.plainKeys == Try.prog.plainKeys) = true := by kernel_rfl
theorem joined : joinedFacts Try.pinned.checked.prog 6 Try.f6 Rows.fnExactSettingTextSpec Rows.fnExactSettingTextRow = true :=
  joined_of (f := 6) (fn := Try.f6) (s := Rows.fnExactSettingTextSpec) (c := Rows.fnExactSettingTextRow) (by kernel_rfl) (by kernel_rfl) (by kernel_rfl) (by kernel_rfl) (by kernel_rfl) fact_inPlace fact_unfollowed fact_recurses fact_named (by kernel_rfl) (by kernel_rfl) (by kernel_rfl) (by kernel_rfl) (by kernel_rfl) (by kernel_rfl) (by kernel_rfl) (by kernel_rfl) (by kernel_rfl) fact_plain (by kernel_rfl) rfl rfl (by kernel_rfl) (by kernel_rfl) (by kernel_rfl) (by kernel_rfl)

/-- the statement -/
theorem proved : Rows.FnExactSettingTextSaid :=
  OpenClaim.holds_of_wide 6 Try.f6 rfl rfl rfl rfl rfl rfl rfl ⟨rfl, rfl, rfl, rfl, rfl⟩ rfl rfl rfl rfl rfl (by kernel_rfl) Try.func6 joined
    (of_decide_eq_true (by kernel_rfl)) (by unfold Func.isWrapper; first | (rw [if_pos (by decide +kernel)]; kernel_rfl) | (rw [if_neg (by decide +kernel)]; exact ⟨rfl, rfl⟩))
    (fun os started H enc _ => lifted os started H enc)
#print axioms proved
end Go.Proofs.Ytbpcjdhbbighgaa.fnExactSettingText
