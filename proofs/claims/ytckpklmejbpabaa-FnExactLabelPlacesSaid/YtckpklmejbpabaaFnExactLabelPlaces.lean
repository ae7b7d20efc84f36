/-
  FnExactLabelPlaces: for every label and every side the law returns true and leaves what was there as it was. No condition.
-/
import Derived.Test.YtckpklmejbpabaaPlaces
import Derived.Test.YtckpklmejbpabaaLabOpen
import Derived.Test.YtckpklmejbpabaaFacts
import Derived.ProofKit
import Derived.OpenShut
import Derived.ShutString
import Derived.ChangeOld
import Derived.Below
namespace Go.Proofs.Ytckpklmejbpabaa
open Go.RowKit Go.Deep

set_option maxHeartbeats 2000000 in
set_option maxRecDepth 100000 in
theorem FnExactLabelPlaces_walk (q : Quad) (side : Int) (w : World) (_h : True) (_w : (Lit.int .i64 side).wf = true) :
    Calls Try.prog 5 #[qv q, .int .i64 side] w fun e w' => e = .returned (.bool true) ∧ Below w.heap.size w w' := by
  obtain ⟨bv, hbv⟩ : ∃ bv, bv = decide (LabOk q ∧ Fits q side) := ⟨_, rfl⟩
  have hne : (bv != bv) = false := by simp
  obtain ⟨pl, hpl⟩ : ∃ pl, pl = placesAll q side := ⟨_, rfl⟩
  have hn : pl.length ≤ 1099511627776 := by
    rw [hpl, placesAll]
    split
    · rename_i h
      unfold placesOf
      split
      · rw [rowOf_length]; have := h.2.2.2.2.2.1; omega
      · simp
    · simp
  have C1 : Hid (∀ W, Calls Try.prog 40 #[qv q, .int .i64 side] W fun e w' => ∃ v, e = .returned (.tuple #[v, .bool bv]) ∧ Own W.heap.size w'.heap.size w' v pl ∧ Below W.heap.size W w') := by
    rw [hbv, hpl]; exact LabelPlaces_any q side
  have C2 : Hid (∀ W, Calls Try.prog 38 #[qv q, .int .i64 side] W fun e w' => ∃ v, e = .returned (.tuple #[v, .bool bv]) ∧ Own W.heap.size w'.heap.size w' v pl ∧ Below W.heap.size W w') := by
    rw [hbv, hpl]; exact specLabelPlaces_any q side
  clear hbv hpl
  go_enter Try.func5, Try.ntmps5
  go_wp2_with fail
  have s0 : w.heap.size < (w.alloc (.cells #[.int .i64 q.1, .int .i64 q.2.1, .int .i64 q.2.2.1, .int .i64 q.2.2.2] 35)).heap.size := by simp
  have Q := Lib.hid (QBox_new w q 35)
  have B := Lib.hid (al (Below.refl w.heap.size w) (.cells #[.int .i64 q.1, .int .i64 q.2.1, .int .i64 q.2.2.1, .int .i64 q.2.2.2] 35))
  refine (toLabel_any q _).mono ?_
  rintro e w1 ⟨rfl, hb1⟩
  have s1 := hb1.size
  replace Q := Lib.hid (Q.out.below hb1 (by omega))
  replace B := Lib.hid (B.out.trans (hb1.mono (by omega)))
  clear hb1
  go_wp2_with fail
  refine (C2.out _).mono ?_
  rintro e w2 ⟨v2, rfl, hO2, hb2⟩
  have s2 := hb2.size
  replace Q := Lib.hid (Q.out.below hb2 (by omega))
  replace B := Lib.hid (B.out.trans (hb2.mono (by omega)))
  have O2 := Lib.hid hO2
  clear hO2 hb2
  obtain ⟨c0, c1, c2, c3⟩ := Q.out.cells
  go_wp2_with fail
  clear c0 c1 c2 c3
  refine (toLabel_any q _).mono ?_
  rintro e w3 ⟨rfl, hb3⟩
  have s3 := hb3.size
  replace Q := Lib.hid (Q.out.below hb3 (by omega))
  replace O2 := Lib.hid (O2.out.below hb3 (by omega))
  replace B := Lib.hid (B.out.trans (hb3.mono (by omega)))
  clear hb3
  go_wp2_with fail
  refine (C1.out _).mono ?_
  rintro e w4 ⟨v4, rfl, hO4, hb4⟩
  have s4 := hb4.size
  replace Q := Lib.hid (Q.out.below hb4 (by omega))
  replace O2 := Lib.hid (O2.out.below hb4 (by omega))
  replace B := Lib.hid (B.out.trans (hb4.mono (by omega)))
  have O4 := Lib.hid hO4
  clear hO4 hb4
  go_wp2_with fail
  refine (eqIntS_b _ _ pl pl _ O4.out.ints O2.out.ints).mono ?_
  rintro e w5 ⟨rfl, hb5⟩
  have s5 := hb5.size
  replace Q := Lib.hid (Q.out.below hb5 (by omega))
  replace O2 := Lib.hid (O2.out.below hb5 (by omega))
  replace O4 := Lib.hid (O4.out.below hb5 (by omega))
  replace B := Lib.hid (B.out.trans (hb5.mono (by omega)))
  clear hb5
  rw [decide_eq_true rfl]
  go_wp2_with fail
  refine (markIntS_any _ pl 1 _ _ _ O4.out hn (by omega) (by omega)).mono ?_
  rintro e w6 ⟨rfl, hO6, hb6⟩
  have s6 := hb6.size
  replace Q := Lib.hid (Q.out.touch hb6 (by omega))
  replace O2 := Lib.hid (O2.out.touch hb6 (by omega))
  replace B := Lib.hid (B.out.trans (hb6.below (by omega) (by omega)))
  have O6 := Lib.hid hO6
  clear O4
  clear hO6 hb6
  go_wp2_with fail
  refine (heldIntS_b _ 1 _ _ O6.out.ints hn (by omega) (by omega)).mono ?_
  rintro e w7 ⟨rfl, hb7⟩
  have s7 := hb7.size
  replace Q := Lib.hid (Q.out.below hb7 (by omega))
  replace O2 := Lib.hid (O2.out.below hb7 (by omega))
  replace O6 := Lib.hid (O6.out.below hb7 (by omega))
  replace B := Lib.hid (B.out.trans (hb7.mono (by omega)))
  clear hb7
  obtain ⟨c0, c1, c2, c3⟩ := Q.out.cells
  go_wp2_with fail
  clear c0 c1 c2 c3
  refine (toLabel_any q _).mono ?_
  rintro e w8 ⟨rfl, hb8⟩
  have s8 := hb8.size
  replace Q := Lib.hid (Q.out.below hb8 (by omega))
  replace O2 := Lib.hid (O2.out.below hb8 (by omega))
  replace O6 := Lib.hid (O6.out.below hb8 (by omega))
  replace B := Lib.hid (B.out.trans (hb8.mono (by omega)))
  clear hb8
  go_wp2_with fail
  refine (C1.out _).mono ?_
  rintro e w9 ⟨v9, rfl, hO9, hb9⟩
  have s9 := hb9.size
  replace Q := Lib.hid (Q.out.below hb9 (by omega))
  replace O2 := Lib.hid (O2.out.below hb9 (by omega))
  replace O6 := Lib.hid (O6.out.below hb9 (by omega))
  replace B := Lib.hid (B.out.trans (hb9.mono (by omega)))
  have O9 := Lib.hid hO9
  clear hO9 hb9
  go_wp2_with fail
  refine (eqIntS_b _ _ pl pl _ O9.out.ints O2.out.ints).mono ?_
  rintro e w10 ⟨rfl, hb10⟩
  have s10 := hb10.size
  replace Q := Lib.hid (Q.out.below hb10 (by omega))
  replace O2 := Lib.hid (O2.out.below hb10 (by omega))
  replace O6 := Lib.hid (O6.out.below hb10 (by omega))
  replace O9 := Lib.hid (O9.out.below hb10 (by omega))
  replace B := Lib.hid (B.out.trans (hb10.mono (by omega)))
  clear hb10
  rw [decide_eq_true rfl]
  go_wp2_with fail
  refine (heldIntS_b _ 1 _ _ O6.out.ints hn (by omega) (by omega)).mono ?_
  rintro e w11 ⟨rfl, hb11⟩
  have s11 := hb11.size
  replace Q := Lib.hid (Q.out.below hb11 (by omega))
  replace O2 := Lib.hid (O2.out.below hb11 (by omega))
  replace O6 := Lib.hid (O6.out.below hb11 (by omega))
  replace O9 := Lib.hid (O9.out.below hb11 (by omega))
  replace B := Lib.hid (B.out.trans (hb11.mono (by omega)))
  clear hb11
  go_wp2
  go_ret
  exact ⟨rfl, B.out⟩
end Go.Proofs.Ytckpklmejbpabaa
namespace Go.Proofs.Ytckpklmejbpabaa.fnExactLabelPlaces
open Go.ChangeShapes Go.WideShapes Go.ChangeAt Go.RowKit
set_option linter.unusedVariables false

theorem own : ownKnob Try.prog.godebug = none := by kernel_rfl
theorem laidOut : laidOutB Try.prog = true := fact_laid
set_option maxRecDepth 100000 in
theorem lifted (os : Os) (started : os.Started) (H : Type) (enc : TypeId × Value → H) :
    ReturnsInHanded {} Try.checked os 5 .any (Rows.fnExactLabelPlacesSpec.pre6 enc Try.prog Try.f5 Rows.fnExactLabelPlacesRow.domain false) (Rows.fnExactLabelPlacesSpec.post enc Try.prog Try.f5 false true false false) := by
  refine returnsInHanded_of_change (C := Try.checked) own started (by kernel_rfl) Try.func5
    (ChangeSpec.witness6 (enc := enc) (C := Try.checked) false ⟨#[], #[.agg #[.int .i64 0, .int .i64 0, .int .i64 0, .int .i64 0], .int .i64 0], []⟩ 8 (by kernel_rfl) (by kernel_rfl) (by kernel_rfl) (by kernel_rfl)) ?_
  intro W base args ds gs before hval0 hW hcnd _
  have hval : ∀ (j : Nat) t v, Try.f5.params[j]? = some t → args[j]? = some v → Value.okWide Try.prog W .any base t v := hval0
  have hW' := hW
  obtain ⟨p, q, hA0, hV, rfl, hfz, hnd⟩ := hW
  have hA : DataW.TrodAll enc Try.prog W 0 (fun _ => true) true Try.f5.params.toList args.toList ds p := hA0
  rw [Try.params5] at hA hval
  obtain ⟨v0, vs0, d0, ds0, p0, q0, hargs, rfl, rfl, h0, r0⟩ := trodAll_cons hA
  obtain ⟨v1, vs1, d1, ds1, p1, q1, rfl, rfl, rfl, h1, r1⟩ := trodAll_cons r0
  obtain ⟨rfl, rfl, rfl⟩ := trodAll_nil r1
  obtain rfl : args = #[v0, v1] := by cases args; simp_all
  obtain ⟨rfl, rfl⟩ := trodVars_none hV
  obtain ⟨z0, rfl⟩ := label_opened (hval 0 35 v0 rfl rfl) h0
  have k0 := h0
  have lt0 : ∀ x ∈ p0, x.block < W.heap.size := by obtain ⟨m, hm⟩ := k0; exact DataW.trod_lt m _ _ _ hm
  have w0 := True.intro
  obtain ⟨a1, rfl, rfl, rfl, w1⟩ := open_int Try.underlying3 (hval 1 3 v1 rfl rfl) h1
  clear hA0 hval0
  refine (FnExactLabelPlaces_walk z0 a1 W w0 w1).mono fun e W' ⟨he, bel⟩ => ?_
  subst he
  exact ⟨_, rfl, _, _, _, [], _, [], hW', trodAll_mk1 (shut_bool Try.underlying4 _), (trodAll_cons_mk (Below.trod laidOut (by kernel_rfl) (of_decide_eq_true (by kernel_rfl)) k0 bel lt0) (trodAll_cons_mk (shut_int Try.underlying3 w1) trodAll_mk0)), rfl, bel.frame _, fun h => by cases h⟩
theorem fact_inPlace : (Rows.fnExactLabelPlacesRow.inPlace == Try.prog.inPlace 5) = true := by kernel_rfl
theorem fact_unfollowed : (Rows.fnExactLabelPlacesRow.unfollowed == Try.prog.unfollowed 5) = true := by kernel_rfl
theorem fact_recurses : (Rows.fnExactLabelPlacesRow.recurses == Try.prog.recurses 5) = true := by kernel_rfl
theorem fact_named : (Rows.fnExactLabelPlacesRow.named == Try.prog.varsNamed 5) = true := by kernel_rfl
theorem fact_plain : (Rows.fnExactLabelPlacesRow.plainKeys == Try.prog.plainKeys) = true := by kernel_rfl
theorem joined : joinedFacts Try.pinned.checked.prog 5 Try.f5 Rows.fnExactLabelPlacesSpec Rows.fnExactLabelPlacesRow = true :=
  joined_of (f := 5) (fn := Try.f5) (s := Rows.fnExactLabelPlacesSpec) (c := Rows.fnExactLabelPlacesRow) (by kernel_rfl) (by kernel_rfl) (by kernel_rfl) (by kernel_rfl) (by kernel_rfl) fact_inPlace fact_unfollowed fact_recurses fact_named (by kernel_rfl) (by kernel_rfl) (by kernel_rfl) (by kernel_rfl) (by kernel_rfl) (by kernel_rfl) (by kernel_rfl) (by kernel_rfl) (by kernel_rfl) fact_plain (by kernel_rfl) rfl rfl (by kernel_rfl) (by kernel_rfl) (by kernel_rfl) (by kernel_rfl)

/-- the statement -/
theorem proved : Rows.FnExactLabelPlacesSaid :=
  OpenClaim.holds_of_wide 5 Try.f5 rfl rfl rfl rfl rfl rfl rfl ⟨rfl, rfl, rfl, rfl, rfl⟩ rfl rfl rfl rfl rfl (by kernel_rfl) Try.func5 joined
    (of_decide_eq_true (by kernel_rfl)) (by unfold Func.isWrapper; first | (rw [if_pos (by decide +kernel)]; kernel_rfl) | (rw [if_neg (by decide +kernel)]; exact ⟨rfl, rfl⟩))
    (fun os started H enc _ => lifted os started H enc)
#print axioms proved
end Go.Proofs.Ytckpklmejbpabaa.fnExactLabelPlaces
