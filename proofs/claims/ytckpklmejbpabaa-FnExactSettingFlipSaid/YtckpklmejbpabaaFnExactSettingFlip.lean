/-
  FnExactSettingFlip: for every list of sides the law returns true and leaves what was there as it was. No condition.
-/
import Derived.Test.YtckpklmejbpabaaFlip
import Derived.Test.YtckpklmejbpabaaFacts
import Derived.ProofKit
import Derived.OpenShut
import Derived.ShutString
import Derived.ChangeOld
import Derived.Below
namespace Go.Proofs.Ytckpklmejbpabaa
open Go.RowKit Go.Deep

set_option maxHeartbeats 1000000 in
theorem FnExactSettingFlip_walk (v : Value) (l : List Int) (w : World) (h : Ints w v l) :
    Calls Try.prog 3 #[v] w fun e w' => e = .returned (.bool true) ∧ Below w.heap.size w w' := by
  obtain ⟨a, cap, rfl, hc1, hc2, hc3⟩ := id h
  by_cases hbig : 1048576 < l.length
  · go_enter Try.func3, Try.ntmps3
    go_wp2
    go_ret
    exact ⟨rfl, Below.refl _ _⟩
  · have hn : l.length ≤ 1099511627776 := by omega
    have hbig' : ¬ (1048576 : Int) < (l.length : Int) := by omega
    have H := Lib.hid h.intsB
    have s0 := Nat.le_refl w.heap.size
    clear h hc3 hbig
    go_enter Try.func3, Try.ntmps3
    go_wp2_with fail
    refine (toIntS_any _ l _ (H.out.ints (by omega)) hn).mono ?_
    rintro e w1 ⟨v1, rfl, hO1, hb1⟩
    have s1 := hb1.size
    replace H := Lib.hid (H.out.below hb1 (by omega))
    have B := Lib.hid (hb1)
    have O1 := Lib.hid hO1
    clear hO1 hb1
    go_wp2_with fail
    refine (specSettingFlip_any _ l _ O1.out.ints hn).mono ?_
    rintro e w2 ⟨v2, rfl, hO2, hb2⟩
    have s2 := hb2.size
    replace H := Lib.hid (H.out.below hb2 (by omega))
    replace O1 := Lib.hid (O1.out.below hb2 (by omega))
    replace B := Lib.hid (B.out.trans (hb2.mono (by omega)))
    have O2 := Lib.hid hO2
    clear hO2 hb2
    clear O1
    go_wp2_with fail
    refine (toIntS_any _ l _ (H.out.ints (by omega)) hn).mono ?_
    rintro e w3 ⟨v3, rfl, hO3, hb3⟩
    have s3 := hb3.size
    replace H := Lib.hid (H.out.below hb3 (by omega))
    replace O2 := Lib.hid (O2.out.below hb3 (by omega))
    replace B := Lib.hid (B.out.trans (hb3.mono (by omega)))
    have O3 := Lib.hid hO3
    clear hO3 hb3
    go_wp2_with fail
    refine (SettingFlip_any _ l _ O3.out.ints hn).mono ?_
    rintro e w4 ⟨v4, rfl, hO4, hb4⟩
    have s4 := hb4.size
    replace H := Lib.hid (H.out.below hb4 (by omega))
    replace O2 := Lib.hid (O2.out.below hb4 (by omega))
    replace O3 := Lib.hid (O3.out.below hb4 (by omega))
    replace B := Lib.hid (B.out.trans (hb4.mono (by omega)))
    have O4 := Lib.hid hO4
    clear hO4 hb4
    go_wp2_with fail
    refine (eqIntS_b _ _ (flipS l) (flipS l) _ O4.out.ints O2.out.ints).mono ?_
    rintro e w5 ⟨rfl, hb5⟩
    have s5 := hb5.size
    replace H := Lib.hid (H.out.below hb5 (by omega))
    replace O2 := Lib.hid (O2.out.below hb5 (by omega))
    replace O3 := Lib.hid (O3.out.below hb5 (by omega))
    replace O4 := Lib.hid (O4.out.below hb5 (by omega))
    replace B := Lib.hid (B.out.trans (hb5.mono (by omega)))
    clear hb5
    rw [decide_eq_true rfl]
    go_wp2_with fail
    refine (toIntS_any _ l _ (H.out.ints (by omega)) hn).mono ?_
    rintro e w6 ⟨v6, rfl, hO6, hb6⟩
    have s6 := hb6.size
    replace H := Lib.hid (H.out.below hb6 (by omega))
    replace O2 := Lib.hid (O2.out.below hb6 (by omega))
    replace O3 := Lib.hid (O3.out.below hb6 (by omega))
    replace O4 := Lib.hid (O4.out.below hb6 (by omega))
    replace B := Lib.hid (B.out.trans (hb6.mono (by omega)))
    have O6 := Lib.hid hO6
    clear hO6 hb6
    go_wp2_with fail
    refine (eqIntS_b _ _ l l _ O3.out.ints O6.out.ints).mono ?_
    rintro e w7 ⟨rfl, hb7⟩
    have s7 := hb7.size
    replace H := Lib.hid (H.out.below hb7 (by omega))
    replace O2 := Lib.hid (O2.out.below hb7 (by omega))
    replace O3 := Lib.hid (O3.out.below hb7 (by omega))
    replace O4 := Lib.hid (O4.out.below hb7 (by omega))
    replace O6 := Lib.hid (O6.out.below hb7 (by omega))
    replace B := Lib.hid (B.out.trans (hb7.mono (by omega)))
    clear hb7
    clear O6
    rw [decide_eq_true rfl]
    go_wp2_with fail
    refine (markIntS_any _ l 1 _ _ _ O3.out hn (by omega) (by omega)).mono ?_
    rintro e w8 ⟨rfl, hO8, hb8⟩
    have s8 := hb8.size
    replace H := Lib.hid (H.out.touch hb8 (by omega))
    replace O2 := Lib.hid (O2.out.touch hb8 (by omega))
    replace O4 := Lib.hid (O4.out.touch hb8 (by omega))
    replace B := Lib.hid (B.out.trans (hb8.below (by omega) (by omega)))
    have O8 := Lib.hid hO8
    clear O3
    clear hO8 hb8
    clear O8
    go_wp2_with fail
    refine (eqIntS_b _ _ (flipS l) (flipS l) _ O4.out.ints O2.out.ints).mono ?_
    rintro e w9 ⟨rfl, hb9⟩
    have s9 := hb9.size
    replace H := Lib.hid (H.out.below hb9 (by omega))
    replace O2 := Lib.hid (O2.out.below hb9 (by omega))
    replace O4 := Lib.hid (O4.out.below hb9 (by omega))
    replace B := Lib.hid (B.out.trans (hb9.mono (by omega)))
    clear hb9
    rw [decide_eq_true rfl]
    go_wp2_with fail
    refine (markIntS_any _ (flipS l) 1 _ _ _ O4.out (by rw [flipS_length]; omega) (by omega) (by omega)).mono ?_
    rintro e w10 ⟨rfl, hO10, hb10⟩
    have s10 := hb10.size
    replace H := Lib.hid (H.out.touch hb10 (by omega))
    replace O2 := Lib.hid (O2.out.touch hb10 (by omega))
    replace B := Lib.hid (B.out.trans (hb10.below (by omega) (by omega)))
    have O10 := Lib.hid hO10
    clear O4
    clear hO10 hb10
    go_wp2_with fail
    refine (heldIntS_b _ 1 _ _ O10.out.ints (by rw [flipS_length]; omega) (by omega) (by omega)).mono ?_
    rintro e w11 ⟨rfl, hb11⟩
    have s11 := hb11.size
    replace H := Lib.hid (H.out.below hb11 (by omega))
    replace O2 := Lib.hid (O2.out.below hb11 (by omega))
    replace O10 := Lib.hid (O10.out.below hb11 (by omega))
    replace B := Lib.hid (B.out.trans (hb11.mono (by omega)))
    clear hb11
    go_wp2_with fail
    refine (toIntS_any _ l _ (H.out.ints (by omega)) hn).mono ?_
    rintro e w12 ⟨v12, rfl, hO12, hb12⟩
    have s12 := hb12.size
    replace H := Lib.hid (H.out.below hb12 (by omega))
    replace O2 := Lib.hid (O2.out.below hb12 (by omega))
    replace O10 := Lib.hid (O10.out.below hb12 (by omega))
    replace B := Lib.hid (B.out.trans (hb12.mono (by omega)))
    have O12 := Lib.hid hO12
    clear hO12 hb12
    go_wp2_with fail
    refine (SettingFlip_any _ l _ O12.out.ints hn).mono ?_
    rintro e w13 ⟨v13, rfl, hO13, hb13⟩
    have s13 := hb13.size
    replace H := Lib.hid (H.out.below hb13 (by omega))
    replace O2 := Lib.hid (O2.out.below hb13 (by omega))
    replace O10 := Lib.hid (O10.out.below hb13 (by omega))
    replace O12 := Lib.hid (O12.out.below hb13 (by omega))
    replace B := Lib.hid (B.out.trans (hb13.mono (by omega)))
    have O13 := Lib.hid hO13
    clear hO13 hb13
    go_wp2_with fail
    refine (eqIntS_b _ _ (flipS l) (flipS l) _ O13.out.ints O2.out.ints).mono ?_
    rintro e w14 ⟨rfl, hb14⟩
    have s14 := hb14.size
    replace H := Lib.hid (H.out.below hb14 (by omega))
    replace O2 := Lib.hid (O2.out.below hb14 (by omega))
    replace O10 := Lib.hid (O10.out.below hb14 (by omega))
    replace O12 := Lib.hid (O12.out.below hb14 (by omega))
    replace O13 := Lib.hid (O13.out.below hb14 (by omega))
    replace B := Lib.hid (B.out.trans (hb14.mono (by omega)))
    clear hb14
    rw [decide_eq_true rfl]
    go_wp2_with fail
    refine (heldIntS_b _ 1 _ _ O10.out.ints (by rw [flipS_length]; omega) (by omega) (by omega)).mono ?_
    rintro e w15 ⟨rfl, hb15⟩
    have s15 := hb15.size
    replace H := Lib.hid (H.out.below hb15 (by omega))
    replace O2 := Lib.hid (O2.out.below hb15 (by omega))
    replace O10 := Lib.hid (O10.out.below hb15 (by omega))
    replace O12 := Lib.hid (O12.out.below hb15 (by omega))
    replace O13 := Lib.hid (O13.out.below hb15 (by omega))
    replace B := Lib.hid (B.out.trans (hb15.mono (by omega)))
    clear hb15
    go_wp2
    go_ret
    exact ⟨rfl, B.out⟩
end Go.Proofs.Ytckpklmejbpabaa
namespace Go.Proofs.Ytckpklmejbpabaa.fnExactSettingFlip
open Go.ChangeShapes Go.WideShapes Go.ChangeAt Go.RowKit
set_option linter.unusedVariables false

theorem own : ownKnob Try.prog.godebug = none := by kernel_rfl
theorem laidOut : laidOutB Try.prog = true := fact_laid
set_option maxRecDepth 100000 in
theorem lifted (os : Os) (started : os.Started) (H : Type) (enc : TypeId × Value → H) :
    ReturnsInHanded {} Try.checked os 3 .any (Rows.fnExactSettingFlipSpec.pre6 enc Try.prog Try.f3 Rows.fnExactSettingFlipRow.domain false) (Rows.fnExactSettingFlipSpec.post enc Try.prog Try.f3 false true false false) := by
  refine returnsInHanded_of_change (C := Try.checked) own started (by kernel_rfl) Try.func3
    (ChangeSpec.witness6 (enc := enc) (C := Try.checked) false ⟨#[], #[.slice none 0 0], []⟩ 8 (by kernel_rfl) (by kernel_rfl) (by kernel_rfl) (by kernel_rfl)) ?_
  intro W base args ds gs before hval0 hW hcnd _
  have hval : ∀ (j : Nat) t v, Try.f3.params[j]? = some t → args[j]? = some v → Value.okWide Try.prog W .any base t v := hval0
  have hW' := hW
  obtain ⟨p, q, hA0, hV, rfl, hfz, hnd⟩ := hW
  have hA : DataW.TrodAll enc Try.prog W 0 (fun _ => true) true Try.f3.params.toList args.toList ds p := hA0
  rw [Try.params3] at hA hval
  obtain ⟨v0, vs0, d0, ds0, p0, q0, hargs, rfl, rfl, h0, r0⟩ := trodAll_cons hA
  obtain ⟨rfl, rfl, rfl⟩ := trodAll_nil r0
  obtain rfl : args = #[v0] := by cases args; simp_all
  obtain ⟨rfl, rfl⟩ := trodVars_none hV
  obtain ⟨a0, len0, cap0, rfl⟩ := okWide_slice Try.underlying22 (hval 0 22 v0 rfl rfl)
  have k0 := h0
  have lt0 : ∀ x ∈ p0, x.block < W.heap.size := by obtain ⟨m, hm⟩ := k0; exact DataW.trod_lt m _ _ _ hm
  obtain ⟨z0, w0⟩ : ∃ zs, Ints W (.slice a0 len0 cap0) zs := by
    obtain ⟨fuel, hf⟩ := h0
    rcases open_ints Try.underlying22 Try.underlying3 (by kernel_rfl) hf with ⟨hcs, _⟩ | ⟨x, l, c, zs, hcs, _, hl, hm, hz, _, hcell, hwz⟩
    · simp [Value.cells] at hcs
      obtain ⟨rfl, rfl, rfl⟩ := hcs
      exact ⟨[], Ints_nil W⟩
    · simp [Value.cells] at hcs
      obtain ⟨rfl, rfl, rfl⟩ := hcs
      exact ⟨zs.take len0, Ints_open hl hm (by simpa using hz) hcell hwz⟩
  clear hA0 hval0
  refine (FnExactSettingFlip_walk _ z0 W w0).mono fun e W' ⟨he, bel⟩ => ?_
  subst he
  exact ⟨_, rfl, _, _, _, [], _, [], hW', trodAll_mk1 (shut_bool Try.underlying4 _), (trodAll_cons_mk (Below.trod laidOut (by kernel_rfl) (of_decide_eq_true (by kernel_rfl)) k0 bel lt0) trodAll_mk0), rfl, bel.frame _, fun h => by cases h⟩
theorem fact_inPlace : (Rows.fnExactSettingFlipRow.inPlace == Try.prog.inPlace 3) = true := by kernel_rfl
theorem fact_unfollowed : (Rows.fnExactSettingFlipRow.unfollowed == Try.prog.unfollowed 3) = true := by kernel_rfl
theorem fact_recurses : (Rows.fnExactSettingFlipRow.recurses == Try.prog.recurses 3) = true := by kernel_rfl
theorem fact_named : (Rows.fnExactSettingFlipRow.named == Try.prog.varsNamed 3) = true := by kernel_rfl
theorem fact_plain : (Rows.fnExactSettingFlipRow.plainKeys == Try.prog.plainKeys) = true := by kernel_rfl
theorem joined : joinedFacts Try.pinned.checked.prog 3 Try.f3 Rows.fnExactSettingFlipSpec Rows.fnExactSettingFlipRow = true :=
  joined_of (f := 3) (fn := Try.f3) (s := Rows.fnExactSettingFlipSpec) (c := Rows.fnExactSettingFlipRow) (by kernel_rfl) (by kernel_rfl) (by kernel_rfl) (by kernel_rfl) (by kernel_rfl) fact_inPlace fact_unfollowed fact_recurses fact_named (by kernel_rfl) (by kernel_rfl) (by kernel_rfl) (by kernel_rfl) (by kernel_rfl) (by kernel_rfl) (by kernel_rfl) (by kernel_rfl) (by kernel_rfl) fact_plain (by kernel_rfl) rfl rfl (by kernel_rfl) (by kernel_rfl) (by kernel_rfl) (by kernel_rfl)

/-- the statement -/
theorem proved : Rows.FnExactSettingFlipSaid :=
  OpenClaim.holds_of_wide 3 Try.f3 rfl rfl rfl rfl rfl rfl rfl ⟨rfl, rfl, rfl, rfl, rfl⟩ rfl rfl rfl rfl rfl (by kernel_rfl) Try.func3 joined
    (of_decide_eq_true (by kernel_rfl)) (by unfold Func.isWrapper; first | (rw [if_pos (by decide +kernel)]; kernel_rfl) | (rw [if_neg (by decide +kernel)]; exact ⟨rfl, rfl⟩))
    (fun os started H enc _ => lifted os started H enc)
#print axioms proved
end Go.Proofs.Ytckpklmejbpabaa.fnExactSettingFlip
