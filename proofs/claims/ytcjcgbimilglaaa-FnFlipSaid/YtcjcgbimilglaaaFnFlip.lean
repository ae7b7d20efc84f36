/-
  FnFlip: for all arguments the law returns true and leaves what was there as it was. No condition.
-/
import Derived.Test.YtcjcgbimilglaaaDrawS
import Derived.Test.YtcjcgbimilglaaaSameL
import Derived.Test.YtcjcgbimilglaaaLabFlip
import Derived.Test.YtcjcgbimilglaaaBestI
import Derived.Test.YtcjcgbimilglaaaFlip
import Derived.Test.YtcjcgbimilglaaaBoardOf
import Derived.Test.YtcjcgbimilglaaaLawKit
import Derived.Test.YtcjcgbimilglaaaBytes
import Derived.Test.YtcjcgbimilglaaaFacts
import Derived.ProofKit
import Derived.OpenShut
import Derived.ShutString
import Derived.ChangeOld
import Derived.Below
import Derived.Test.YtcjcgbimilglaaaFacts
import Derived.ProofKit
import Derived.OpenShut
import Derived.ShutString
import Derived.ChangeOld
import Derived.Below
namespace Go.Proofs.Ytcjcgbimilglaaa
open Go.RowKit Go.Deep

theorem flipQ_flipQ (q : Quad) : flipQ (flipQ q) = q := by
  show (q.1, 9 - (9 - q.2.1), q.2.2.1, q.2.2.2) = q
  rw [show 9 - (9 - q.2.1) = q.2.1 by omega]
theorem flipL_flipL (l : List Quad) : flipL (flipL l) = l := by
  rw [flipL, flipL, List.map_map]
  exact (List.map_congr_left fun q _ => flipQ_flipQ q).trans (List.map_id l)
theorem flip_facts {l : List Quad} (hv : ValidL l) : ValidL (flipL l) ∧ manyOut (flipL l) = manyOut l ∧ mostOut (flipL l) = mostOut l ∧ weightAll (flipL l) (flipS (bestOut l)) = weightAll (flipL l) (bestOut (flipL l)) := by
  have hv2 : ValidL (flipL l) := valid_flip hv
  have hm : mPts (flipL l) = fplan (mPts l) := mPts_flip fun k hk => (hv.2 k hk).1
  have hln : (flipL l).length = l.length := flipL_length l
  have hb : ∀ wb, bstAll (wtB wb) (flipL l) = bstAll (wtB wb) l := by
    intro wb
    rw [bstAll, bstAll, hm, hln]
    exact bst_flip (wtB wb) (fun q => rfl) l _ _ _ (by omega)
  have B1 := bestAll_ok (wtB true) l
  have B2 := bestAll_ok (wtB true) (flipL l)
  have S1 : SetOk (flipL l) (flipS (bestAll (wtB true) l)) := setOk_flip ⟨hv, B1.1, B1.2.1⟩
  have S2 : SetOk (flipL l) (bestAll (wtB true) (flipL l)) := ⟨hv2, B2.1, B2.2.1⟩
  refine ⟨hv2, ?_, ?_, ?_⟩
  · rw [manyOut, manyOut, if_pos hv, if_pos hv2, manyAll, manyAll, hm, hln]
    exact congrArg _ (many_flip l _ _ _ (by omega))
  · rw [mostOut, mostOut, if_pos hv, if_pos hv2, hb]
  · rw [bestOut, bestOut, if_pos hv, if_pos hv2, weightAll, weightAll, if_pos S1, if_pos S2]
    show weightUp (wtB true) (flipL l) (flipS (bestAll (wtB true) l)) (flipL l).length = weightUp (wtB true) (flipL l) (bestAll (wtB true) (flipL l)) (flipL l).length
    rw [B2.2.2, hb, hln]
    exact (weightUp_flip (wtB true) (fun q => rfl) B1.1 _ (Nat.le_refl _)).trans B1.2.2
set_option maxHeartbeats 4000000 in
set_option maxRecDepth 100000 in
theorem FnFlip_walk (v : Value) (n : Nat) (w : World) (h : Bytes w v n) :
    Calls Try.prog 21 #[v] w fun e w' => e = .returned (.bool true) ∧ Below w.heap.size w w' := by
  have CD := Lib.hid (DrawLabelsFlip_any v n w h)
  obtain ⟨a, cap, rfl, h1, h2, h3⟩ := h
  clear h3
  by_cases hbig : 1048576 < n
  · have hb' : (1048576 : Int) < (n : Int) := by omega
    go_enter Try.func21, Try.ntmps21
    go_wp2
    go_ret
    exact ⟨rfl, Below.refl _ _⟩
  have hb' : ¬ (1048576 : Int) < (n : Int) := by omega
  clear hbig
  go_enter Try.func21, Try.ntmps21
  go_wp2_with fail
  refine CD.out.mono ?_
  rintro e w1 ⟨vl, l, rfl, hA, hl7, hb1⟩
  have s1 := hb1.size
  obtain ⟨la, lc, rfl, q1, q2, q3⟩ := id hA
  clear q3 CD
  have H := Lib.hid hA.quadsB
  have B := Lib.hid hb1
  clear hA hb1
  obtain ⟨R, hR⟩ : ∃ R, R = flipAll l := ⟨_, rfl⟩
  go_wp2_with fail
  refine (LabelsFlip_any _ l w1 (H.out.quads (by omega))).mono ?_
  rintro e w2 ⟨vo, rfl, hO, hb2⟩
  have s2 := hb2.size
  replace H := Lib.hid (H.out.below hb2 (by omega))
  replace B := Lib.hid (B.out.trans (hb2.mono (by omega)))
  have O := Lib.hid hO
  clear hO hb2
  rw [← hR] at O
  go_wp2_with fail
  refine (specLabelsFlip_any _ l w2 (H.out.quads (by omega))).mono ?_
  rintro e w3 ⟨vu, rfl, hU, hb3⟩
  have s3 := hb3.size
  replace H := Lib.hid (H.out.below hb3 (by omega))
  replace O := Lib.hid (O.out.below hb3 (by omega))
  replace B := Lib.hid (B.out.trans (hb3.mono (by omega)))
  have U := Lib.hid hU
  clear hU hb3
  rw [← hR] at U
  by_cases hv : ValidL l
  · rw [decide_eq_true hv]
    rw [show flipAll l = flipL l from if_pos hv] at hR
    have FF := Lib.hid (flip_facts hv)
    rw [← hR] at FF
    have HV := Lib.hid hv
    have FF2 : Hid (flipAll R = l) := by show _ = _; rw [flipAll, if_pos FF.out.1, hR, flipL_flipL]
    have RB : (bestOut l).length ≤ 1099511627776 := by rw [bestOut, if_pos hv, (bestAll_ok _ _).1]; have := hv.1; omega
    clear hv hR
    go_wp2_with fail
    refine (sameLabels_any vo vu R R w3 (O.out.quads) (U.out.quads)).mono ?_
    rintro e w4 ⟨rfl, hb4⟩
    have s4 := hb4.size
    replace H := Lib.hid (H.out.below hb4 (by omega))
    replace O := Lib.hid (O.out.below hb4 (by omega))
    replace U := Lib.hid (U.out.below hb4 (by omega))
    replace B := Lib.hid (B.out.trans (hb4.mono (by omega)))
    clear hb4
    rw [decide_eq_true (rfl : R = R)]
    clear U
    go_wp2_with fail
    refine (LabelsFlip_any vo R w4 (O.out.quads)).mono ?_
    rintro e w5 ⟨vx, rfl, hX, hb5⟩
    have s5 := hb5.size
    replace H := Lib.hid (H.out.below hb5 (by omega))
    replace O := Lib.hid (O.out.below hb5 (by omega))
    replace B := Lib.hid (B.out.trans (hb5.mono (by omega)))
    have X := Lib.hid hX
    clear hX hb5
    rw [decide_eq_true FF.out.1]
    rw [FF2.out] at X
    go_wp2_with fail
    refine (SettingBest_any _ l w5 (H.out.quads (by omega))).mono ?_
    rintro e w6 ⟨vb, rfl, hS, hb6⟩
    have s6 := hb6.size
    replace H := Lib.hid (H.out.below hb6 (by omega))
    replace O := Lib.hid (O.out.below hb6 (by omega))
    replace X := Lib.hid (X.out.below hb6 (by omega))
    replace B := Lib.hid (B.out.trans (hb6.mono (by omega)))
    have S := Lib.hid hS
    clear hS hb6
    rw [decide_eq_true HV.out]
    go_wp2_with fail
    refine (SettingFlip_any vb (bestOut l) w6 (S.out.ints) RB).mono ?_
    rintro e w7 ⟨vf, rfl, hF, hb7⟩
    have s7 := hb7.size
    replace H := Lib.hid (H.out.below hb7 (by omega))
    replace O := Lib.hid (O.out.below hb7 (by omega))
    replace X := Lib.hid (X.out.below hb7 (by omega))
    replace S := Lib.hid (S.out.below hb7 (by omega))
    replace B := Lib.hid (B.out.trans (hb7.mono (by omega)))
    have F := Lib.hid hF
    clear hF hb7
    clear S
    go_wp2_with fail
    refine (SettingBest_any vo R w7 (O.out.quads)).mono ?_
    rintro e w8 ⟨vg, rfl, hG, hb8⟩
    have s8 := hb8.size
    replace H := Lib.hid (H.out.below hb8 (by omega))
    replace O := Lib.hid (O.out.below hb8 (by omega))
    replace X := Lib.hid (X.out.below hb8 (by omega))
    replace F := Lib.hid (F.out.below hb8 (by omega))
    replace B := Lib.hid (B.out.trans (hb8.mono (by omega)))
    have G := Lib.hid hG
    clear hG hb8
    rw [decide_eq_true FF.out.1]
    go_wp2_with fail
    refine (sameLabels_any vx _ l l w8 (X.out.quads) (H.out.quads (by omega))).mono ?_
    rintro e w9 ⟨rfl, hb9⟩
    have s9 := hb9.size
    replace H := Lib.hid (H.out.below hb9 (by omega))
    replace O := Lib.hid (O.out.below hb9 (by omega))
    replace X := Lib.hid (X.out.below hb9 (by omega))
    replace F := Lib.hid (F.out.below hb9 (by omega))
    replace G := Lib.hid (G.out.below hb9 (by omega))
    replace B := Lib.hid (B.out.trans (hb9.mono (by omega)))
    clear hb9
    rw [decide_eq_true (rfl : l = l)]
    clear X
    go_wp2_with fail
    refine (SettingMany_any vo R w9 (O.out.quads)).mono ?_
    rintro e w10 ⟨rfl, hb10⟩
    have s10 := hb10.size
    replace H := Lib.hid (H.out.below hb10 (by omega))
    replace O := Lib.hid (O.out.below hb10 (by omega))
    replace F := Lib.hid (F.out.below hb10 (by omega))
    replace G := Lib.hid (G.out.below hb10 (by omega))
    replace B := Lib.hid (B.out.trans (hb10.mono (by omega)))
    clear hb10
    rw [FF.out.2.1]
    obtain ⟨M1, hM1⟩ : ∃ x, x = manyOut l := ⟨_, rfl⟩
    have HM1 := Lib.hid hM1
    rw [← hM1]
    clear hM1
    go_wp2_with fail
    refine (SettingMany_any _ l w10 (H.out.quads (by omega))).mono ?_
    rintro e w11 ⟨rfl, hb11⟩
    have s11 := hb11.size
    replace H := Lib.hid (H.out.below hb11 (by omega))
    replace O := Lib.hid (O.out.below hb11 (by omega))
    replace F := Lib.hid (F.out.below hb11 (by omega))
    replace G := Lib.hid (G.out.below hb11 (by omega))
    replace B := Lib.hid (B.out.trans (hb11.mono (by omega)))
    clear hb11
    rw [← HM1.out]
    go_wp2_with fail
    refine (SettingMost_any vo R w11 (O.out.quads)).mono ?_
    rintro e w12 ⟨rfl, hb12⟩
    have s12 := hb12.size
    replace H := Lib.hid (H.out.below hb12 (by omega))
    replace O := Lib.hid (O.out.below hb12 (by omega))
    replace F := Lib.hid (F.out.below hb12 (by omega))
    replace G := Lib.hid (G.out.below hb12 (by omega))
    replace B := Lib.hid (B.out.trans (hb12.mono (by omega)))
    clear hb12
    rw [FF.out.2.2.1]
    obtain ⟨M2, hM2⟩ : ∃ x, x = mostOut l := ⟨_, rfl⟩
    have HM2 := Lib.hid hM2
    rw [← hM2]
    clear hM2
    go_wp2_with fail
    refine (SettingMost_any _ l w12 (H.out.quads (by omega))).mono ?_
    rintro e w13 ⟨rfl, hb13⟩
    have s13 := hb13.size
    replace H := Lib.hid (H.out.below hb13 (by omega))
    replace O := Lib.hid (O.out.below hb13 (by omega))
    replace F := Lib.hid (F.out.below hb13 (by omega))
    replace G := Lib.hid (G.out.below hb13 (by omega))
    replace B := Lib.hid (B.out.trans (hb13.mono (by omega)))
    clear hb13
    rw [← HM2.out]
    go_wp2_with fail
    refine (SettingWeight_any vo vf R (flipS (bestOut l)) w13 (O.out.quads) (F.out.ints)).mono ?_
    rintro e w14 ⟨rfl, hb14⟩
    have s14 := hb14.size
    replace H := Lib.hid (H.out.below hb14 (by omega))
    replace O := Lib.hid (O.out.below hb14 (by omega))
    replace F := Lib.hid (F.out.below hb14 (by omega))
    replace G := Lib.hid (G.out.below hb14 (by omega))
    replace B := Lib.hid (B.out.trans (hb14.mono (by omega)))
    clear hb14
    rw [FF.out.2.2.2]
    obtain ⟨M3, hM3⟩ : ∃ x, x = weightAll R (bestOut R) := ⟨_, rfl⟩
    have HM3 := Lib.hid hM3
    rw [← hM3]
    clear hM3
    go_wp2_with fail
    refine (SettingWeight_any vo vg R (bestOut R) w14 (O.out.quads) (G.out.ints)).mono ?_
    rintro e w15 ⟨rfl, hb15⟩
    have s15 := hb15.size
    replace H := Lib.hid (H.out.below hb15 (by omega))
    replace O := Lib.hid (O.out.below hb15 (by omega))
    replace F := Lib.hid (F.out.below hb15 (by omega))
    replace G := Lib.hid (G.out.below hb15 (by omega))
    replace B := Lib.hid (B.out.trans (hb15.mono (by omega)))
    clear hb15
    rw [← HM3.out]
    go_wp2
    go_ret
    exact ⟨ret_bool (by simp), B.out⟩
  · rw [decide_eq_false hv]
    clear hv hR
    go_wp2_with fail
    refine (sameLabels_any vo vu R R w3 (O.out.quads) (U.out.quads)).mono ?_
    rintro e w4 ⟨rfl, hb4⟩
    have s4 := hb4.size
    replace H := Lib.hid (H.out.below hb4 (by omega))
    replace O := Lib.hid (O.out.below hb4 (by omega))
    replace U := Lib.hid (U.out.below hb4 (by omega))
    replace B := Lib.hid (B.out.trans (hb4.mono (by omega)))
    clear hb4
    rw [decide_eq_true (rfl : R = R)]
    go_wp2_with fail
    refine (sameLabels_any vo vu R R w4 (O.out.quads) (U.out.quads)).mono ?_
    rintro e w5 ⟨rfl, hb5⟩
    have s5 := hb5.size
    replace H := Lib.hid (H.out.below hb5 (by omega))
    replace O := Lib.hid (O.out.below hb5 (by omega))
    replace U := Lib.hid (U.out.below hb5 (by omega))
    replace B := Lib.hid (B.out.trans (hb5.mono (by omega)))
    clear hb5
    rw [decide_eq_true (rfl : R = R)]
    go_wp2
    go_ret
    exact ⟨ret_bool (by simp), B.out⟩
end Go.Proofs.Ytcjcgbimilglaaa
namespace Go.Proofs.Ytcjcgbimilglaaa.fnFlip
open Go.ChangeShapes Go.WideShapes Go.ChangeAt Go.RowKit
set_option linter.unusedVariables false

theorem own : ownKnob Try.prog.godebug = none := by kernel_rfl
theorem laidOut : laidOutB Try.prog = true := fact_laid
set_option maxRecDepth 100000 in
theorem lifted (os : Os) (started : os.Started) (H : Type) (enc : TypeId × Value → H) :
    ReturnsInHanded {} Try.checked os 21 .any (Rows.fnFlipSpec.pre6 enc Try.prog Try.f21 Rows.fnFlipRow.domain false) (Rows.fnFlipSpec.post enc Try.prog Try.f21 false true false false) := by
  refine returnsInHanded_of_change (C := Try.checked) own started (by kernel_rfl) Try.func21
    (ChangeSpec.witness6 (enc := enc) (C := Try.checked) false ⟨#[], #[.slice none 0 0], []⟩ 8 (by kernel_rfl) (by kernel_rfl) (by kernel_rfl) (by kernel_rfl)) ?_
  intro W base args ds gs before hval0 hW hcnd _
  have hval : ∀ (j : Nat) t v, Try.f21.params[j]? = some t → args[j]? = some v → Value.okWide Try.prog W .any base t v := hval0
  have hW' := hW
  obtain ⟨p, q, hA0, hV, rfl, hfz, hnd⟩ := hW
  have hA : DataW.TrodAll enc Try.prog W 0 (fun _ => true) true Try.f21.params.toList args.toList ds p := hA0
  rw [Try.params21] at hA hval
  obtain ⟨v0, vs0, d0, ds0, p0, q0, hargs, rfl, rfl, h0, r0⟩ := trodAll_cons hA
  obtain ⟨rfl, rfl, rfl⟩ := trodAll_nil r0
  obtain rfl : args = #[v0] := by cases args; simp_all
  obtain ⟨rfl, rfl⟩ := trodVars_none hV
  obtain ⟨a0, len0, cap0, rfl⟩ := okWide_slice Try.underlying29 (hval 0 29 v0 rfl rfl)
  have k0 := h0
  have lt0 : ∀ x ∈ p0, x.block < W.heap.size := by obtain ⟨m, hm⟩ := k0; exact DataW.trod_lt m _ _ _ hm
  obtain ⟨z0, w0⟩ : ∃ zs, Bytes W (.slice a0 len0 cap0) zs := bytes_opened h0
  clear hA0 hval0
  refine (FnFlip_walk _ z0 W w0).mono fun e W' ⟨he, bel⟩ => ?_
  subst he
  exact ⟨_, rfl, _, _, _, [], _, [], hW', trodAll_mk1 (shut_bool Try.underlying4 _), (trodAll_cons_mk (Below.trod laidOut (by kernel_rfl) (of_decide_eq_true (by kernel_rfl)) k0 bel lt0) trodAll_mk0), rfl, bel.frame _, fun h => by cases h⟩
theorem fact_inPlace : (Rows.fnFlipRow.inPlace == Try.prog.inPlace 21) = true := by kernel_rfl
theorem fact_unfollowed : (Rows.fnFlipRow.unfollowed == Try.prog.unfollowed 21) = true := by kernel_rfl
theorem fact_recurses : (Rows.fnFlipRow.recurses == Try.prog.recurses 21) = true := by kernel_rfl
theorem fact_named : (Rows.fnFlipRow.named == Try.prog.varsNamed 21) = true := by kernel_rfl
theorem fact_plain : (Rows.fnFlipRow.plainKeys == Try.prog.plainKeys) = true := by kernel_rfl
theorem joined : joinedFacts Try.pinned.checked.prog 21 Try.f21 Rows.fnFlipSpec Rows.fnFlipRow = true :=
  joined_of (f := 21) (fn := Try.f21) (s := Rows.fnFlipSpec) (c := Rows.fnFlipRow) (by kernel_rfl) (by kernel_rfl) (by kernel_rfl) (by kernel_rfl) (by kernel_rfl) fact_inPlace fact_unfollowed fact_recurses fact_named (by kernel_rfl) (by kernel_rfl) (by kernel_rfl) (by kernel_rfl) (by kernel_rfl) (by kernel_rfl) (by kernel_rfl) (by kernel_rfl) (by kernel_rfl) fact_plain (by kernel_rfl) rfl rfl (by kernel_rfl) (by kernel_rfl) (by kernel_rfl) (by kernel_rfl)

/-- the statement -/
theorem proved : Rows.FnFlipSaid :=
  OpenClaim.holds_of_wide 21 Try.f21 rfl rfl rfl rfl rfl rfl rfl ⟨rfl, rfl, rfl, rfl, rfl⟩ rfl rfl rfl rfl rfl (by kernel_rfl) Try.func21 joined
    (of_decide_eq_true (by kernel_rfl)) (by unfold Func.isWrapper; first | (rw [if_pos (by decide +kernel)]; kernel_rfl) | (rw [if_neg (by decide +kernel)]; exact ⟨rfl, rfl⟩))
    (fun os started H enc _ => lifted os started H enc)
#print axioms proved
end Go.Proofs.Ytcjcgbimilglaaa.fnFlip
