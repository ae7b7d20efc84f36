/-
  FnSettingBest: for all arguments the law returns true and leaves what was there as it was. No condition.
-/
import Derived.Test.YtbpcjdhbbighgaaLawKit2
import Derived.Test.YtbpcjdhbbighgaaGreedyI
import Derived.Test.YtbpcjdhbbighgaaBestI
import Derived.Test.YtbpcjdhbbighgaaBestK
import Derived.Test.YtbpcjdhbbighgaaDrawS
import Derived.Test.YtbpcjdhbbighgaaBoardOf
import Derived.Test.YtbpcjdhbbighgaaLawKit
import Derived.Test.YtbpcjdhbbighgaaBytes
import Derived.Test.YtbpcjdhbbighgaaFacts
import Derived.ProofKit
import Derived.OpenShut
import Derived.ShutString
import Derived.ChangeOld
import Derived.Below
import Derived.Test.YtbpcjdhbbighgaaFacts
import Derived.ProofKit
import Derived.OpenShut
import Derived.ShutString
import Derived.ChangeOld
import Derived.Below
namespace Go.Proofs.Ytbpcjdhbbighgaa
open Go.RowKit Go.Deep

theorem best_facts {l : List Quad} (hv : ValidL l) : SetOk l (bestOut l) ∧ (bestOut l).length = l.length ∧ (∀ i j : Nat, i < l.length → j < 4 → ((bestOut l)[i]?.getD 0 < 0 ∨ (j : Int) < (bestOut l)[i]?.getD 0) → ¬ SetOk l ((bestOut l).set i (j : Int))) ∧ weightAll l (greedyOut l) ≤ weightAll l (bestOut l) := by
  have e : bestOut l = bestAll (wtB true) l := if_pos hv
  have B1 := bestAll_ok (wtB true) l
  have S1 : SetOk l (bestOut l) := by rw [e]; exact ⟨hv, B1.1, B1.2.1⟩
  refine ⟨S1, by rw [e]; exact B1.1, fun i j hi hj hs => ?_, ?_⟩
  · rw [e] at hs ⊢
    intro h
    refine best_tight (wt := wtB true) (l := l) (fun i hi => ?_) hi (side := (j : Int)) (by omega) (by omega) hs h.2.2
    exact (valid_w hv i hi).1
  · have g : greedyOut l = greedyOf l := if_pos hv
    obtain ⟨g1, _⟩ := greedy_ok hv
    rw [g, weightAll, weightAll, if_pos g1, if_pos S1, e]
    have h1 := bstAll_le (wtB true) g1.2.1 g1.2.2
    rw [← B1.2.2] at h1
    exact h1
set_option maxHeartbeats 4000000 in
set_option maxRecDepth 100000 in
theorem FnSettingBest_walk (v : Value) (n : Nat) (w : World) (h : Bytes w v n) :
    Calls Try.prog 12 #[v] w fun e w' => e = .returned (.bool true) ∧ Below w.heap.size w w' := by
  have CD := Lib.hid (DrawSettingBest_any v n w h)
  obtain ⟨a, cap, rfl, h1, h2, h3⟩ := h
  clear h3
  by_cases hbig : 1048576 < n
  · have hb' : (1048576 : Int) < (n : Int) := by omega
    go_enter Try.func12, Try.ntmps12
    go_wp2
    go_ret
    exact ⟨rfl, Below.refl _ _⟩
  have hb' : ¬ (1048576 : Int) < (n : Int) := by omega
  clear hbig
  go_enter Try.func12, Try.ntmps12
  go_wp2_with fail
  refine CD.out.mono ?_
  rintro e w1 ⟨vl, l, rfl, hA, hl7, hb1⟩
  have s1 := hb1.size
  obtain ⟨la, lc, rfl, q1, q2, q3⟩ := id hA
  clear q3 CD
  have H := Lib.hid hA.quadsB
  have B := Lib.hid hb1
  clear hA hb1
  obtain ⟨R, hR⟩ : ∃ R, R = bestOut l := ⟨_, rfl⟩
  go_wp2_with fail
  refine (SettingBest_any _ l w1 (H.out.quads (by omega))).mono ?_
  rintro e w2 ⟨vo, rfl, hO, hb2⟩
  have s2 := hb2.size
  replace H := Lib.hid (H.out.below hb2 (by omega))
  replace B := Lib.hid (B.out.trans (hb2.mono (by omega)))
  have O := Lib.hid hO
  clear hO hb2
  rw [← hR] at O
  go_wp2_with fail
  refine (specSettingBest_any _ l w2 (H.out.quads (by omega))).mono ?_
  rintro e w3 ⟨vu, rfl, hU, hb3⟩
  have s3 := hb3.size
  replace H := Lib.hid (H.out.below hb3 (by omega))
  replace O := Lib.hid (O.out.below hb3 (by omega))
  replace B := Lib.hid (B.out.trans (hb3.mono (by omega)))
  have U := Lib.hid hU
  clear hU hb3
  rw [← hR] at U
  by_cases hv : ValidL l
  · rw [decide_eq_true hv]
    have HV := Lib.hid hv
    have FF := Lib.hid (best_facts hv)
    rw [← hR] at FF
    have hl6 := hv.1
    have hne : ((true : Bool) != true) = false := by simp
    have HR := Lib.hid hR
    clear hv hR
    go_wp2_with fail
    refine (sameInts_b vo vu R R w3 O.out.ints U.out.ints).mono ?_
    rintro e w4 ⟨rfl, hb4⟩
    have s4 := hb4.size
    replace H := Lib.hid (H.out.below hb4 (by omega))
    replace O := Lib.hid (O.out.below hb4 (by omega))
    replace U := Lib.hid (U.out.below hb4 (by omega))
    replace B := Lib.hid (B.out.trans (hb4.mono (by omega)))
    clear hb4
    rw [decide_eq_true (rfl : R = R)]
    clear U
    go_wp2_with fail
    refine (SettingGreedy_any _ l w4 (H.out.quads (by omega))).mono ?_
    rintro e w5 ⟨vg, rfl, hG, hb5⟩
    have s5 := hb5.size
    replace H := Lib.hid (H.out.below hb5 (by omega))
    replace O := Lib.hid (O.out.below hb5 (by omega))
    replace B := Lib.hid (B.out.trans (hb5.mono (by omega)))
    have G := Lib.hid hG
    clear hG hb5
    rw [decide_eq_true HV.out]
    have RL : Hid (R.length = l.length) := FF.out.2.1
    obtain ⟨oa, oc, hx, hoc⟩ := ints_shape O.out.ints
    subst hx
    have TG : Hid (∀ i j : Nat, i < l.length → j < 4 → (R[i]?.getD 0 < 0 ∨ (j : Int) < R[i]?.getD 0) → ¬ SetOk l (R.set i (j : Int))) := FF.out.2.2.1
    have zW : w1.heap.size ≤ w5.heap.size := by omega
    have zO : w2.heap.size ≤ w5.heap.size := by omega
    have OI := Lib.hid (O.out.ints)
    have rlen : R.length ≤ 1000 := by have := RL.out; omega
    go_wp2_with fail
    go_loopw [10] (fun i wr => ∃ k : Nat, k ≤ l.length ∧ i = .int .i64 k ∧ Below w5.heap.size w5 wr) (fun i _ => l.length - (intOf i).toNat)
    case atStart => exact ⟨0, Nat.zero_le _, rfl, Below.refl _ _⟩
    case round =>
      obtain ⟨k, hk, rfl, hbel⟩ := hrel
      have HB := Lib.hid hbel
      have sr := hbel.size
      clear hbel
      by_cases hkl : k < l.length
      · have x1 : (k : Int) < (l.length : Int) := by omega
        obtain ⟨wo, hwo⟩ : ∃ wo : World, wo = wr := ⟨_, rfl⟩
        rw [← hwo] at HB sr ⊢
        clear hwo
        clear wr
        go_wp2_with fail
        go_loopw [11] (fun j wr => ∃ j0 : Nat, j0 ≤ 4 ∧ j = .int .i64 j0 ∧ Below w5.heap.size w5 wr) (fun j _ => 4 - (intOf j).toNat)
        case atStart => exact ⟨0, by omega, rfl, HB.out⟩
        case round =>
          clear HB sr wo
          obtain ⟨j0, hj, rfl, hbel⟩ := hrel
          have HB := Lib.hid hbel
          have sr := hbel.size
          by_cases hj4 : j0 < 4
          · have hj4' : (j0 : Int) < 4 := by omega
            have hI := Lib.hid (OI.out.below hbel (Nat.le_refl _))
            have HH := Lib.hid (H.out.below hbel (by omega))
            clear hbel
            obtain ⟨ob, oo, hoa, ob1, oc1⟩ := ints_cell hI.out (k := k) (by rw [RL.out]; exact hkl)
            subst hoa
            have TB := Lib.hid (TG.out k j0 hkl hj4)
            obtain ⟨z, hz⟩ : ∃ z, z = R[k]?.getD 0 := ⟨_, rfl⟩
            rw [← hz] at oc1 TB
            have HZ := Lib.hid hz
            have x3 : (0 : Int) ≤ (k : Int) := by omega
            have x5 : k < R.length := by rw [RL.out]; exact hkl
            clear hz
            by_cases hz0 : z < 0
            · have NS := Lib.hid (TB.out (.inl hz0))
              go_wp2_with (at_builtin; (refine app_copy wr rfl _ _ rfl _ R hI.out rfl rfl rlen ?_); intro v' w6 hown6 hbel6; have s6 := hbel6.size; obtain ⟨xa, xc, hx, hxc⟩ := ints_shape hown6.ints; subst hx; obtain ⟨xb, xo, hxa, y1, y2, c0, f0, hset⟩ := own_at hown6 (k := k) x5; subst hxa; rw [← HZ.out] at c0; have AO := Lib.hid (hset (j0 : Int)); have hs6 := hbel6.setCell (p := ⟨xb, xo + k, none⟩) y1 (.int .i64 (j0 : Int)); have H6 := Lib.hid (HH.out.below hs6 (by omega)); have HB6 := Lib.hid (HB.out.trans (hs6.mono sr)); have cz := (hs6.cell (p := ⟨ob, oo + k, none⟩) ob1).trans oc1; clear hown6 hbel6 hset hs6)
              refine (SettingValid_any _ _ l (R.set k (j0 : Int)) _ (H6.out.quads (by simp; omega)) AO.out.ints).mono ?_
              rintro e w7 ⟨rfl, hb7⟩
              rw [decide_eq_false NS.out]
              have HB7 := Lib.hid (HB6.out.trans (hb7.mono (by have := HB6.out.size; exact this)))
              clear hb7
              go_wp2_with fail
              go_roundw
              case rel => exact ⟨j0 + 1, by omega, by go_num, HB7.out⟩
              case measure => simp [intOf]; omega
            · by_cases hz1 : (j0 : Int) < z
              · have NS := Lib.hid (TB.out (.inr hz1))
                go_wp2_with (at_builtin; (refine app_copy wr rfl _ _ rfl _ R hI.out rfl rfl rlen ?_); intro v' w6 hown6 hbel6; have s6 := hbel6.size; obtain ⟨xa, xc, hx, hxc⟩ := ints_shape hown6.ints; subst hx; obtain ⟨xb, xo, hxa, y1, y2, c0, f0, hset⟩ := own_at hown6 (k := k) x5; subst hxa; rw [← HZ.out] at c0; have AO := Lib.hid (hset (j0 : Int)); have hs6 := hbel6.setCell (p := ⟨xb, xo + k, none⟩) y1 (.int .i64 (j0 : Int)); have H6 := Lib.hid (HH.out.below hs6 (by omega)); have HB6 := Lib.hid (HB.out.trans (hs6.mono sr)); have cz := (hs6.cell (p := ⟨ob, oo + k, none⟩) ob1).trans oc1; clear hown6 hbel6 hset hs6)
                refine (SettingValid_any _ _ l (R.set k (j0 : Int)) _ (H6.out.quads (by simp; omega)) AO.out.ints).mono ?_
                rintro e w7 ⟨rfl, hb7⟩
                rw [decide_eq_false NS.out]
                have HB7 := Lib.hid (HB6.out.trans (hb7.mono (by have := HB6.out.size; exact this)))
                clear hb7
                go_wp2_with fail
                go_roundw
                case rel => exact ⟨j0 + 1, by omega, by go_num, HB7.out⟩
                case measure => simp [intOf]; omega
              · go_wp2_with (at_builtin; (refine app_copy wr rfl _ _ rfl _ R hI.out rfl rfl rlen ?_); intro v' w6 hown6 hbel6; have s6 := hbel6.size; obtain ⟨xa, xc, hx, hxc⟩ := ints_shape hown6.ints; subst hx; obtain ⟨xb, xo, hxa, y1, y2, c0, f0, hset⟩ := own_at hown6 (k := k) x5; subst hxa; rw [← HZ.out] at c0; have AO := Lib.hid (hset (j0 : Int)); have hs6 := hbel6.setCell (p := ⟨xb, xo + k, none⟩) y1 (.int .i64 (j0 : Int)); have H6 := Lib.hid (HH.out.below hs6 (by omega)); have HB6 := Lib.hid (HB.out.trans (hs6.mono sr)); have cz := (hs6.cell (p := ⟨ob, oo + k, none⟩) ob1).trans oc1; clear hown6 hbel6 hset hs6)
                go_roundw
                case rel => exact ⟨j0 + 1, by omega, by go_num, HB6.out⟩
                case measure => simp [intOf]; omega
          · obtain rfl : j0 = 4 := by omega
            clear hbel
            go_wp2_with fail
            go_roundw
            case rel => exact ⟨k + 1, by omega, by go_num, HB.out⟩
            case measure => simp [intOf]; omega
      · obtain rfl : k = l.length := by omega
        have HH := Lib.hid (H.out.below HB.out (by omega))
        have hI := Lib.hid (OI.out.below HB.out (Nat.le_refl _))
        replace B := Lib.hid (B.out.trans (HB.out.mono (by omega)))
        have hG := Lib.hid (G.out.below HB.out (by omega))
        go_wp2_with fail
        refine (SettingValid_any _ _ l R wr (HH.out.quads (by omega)) hI.out).mono ?_
        rintro e w7 ⟨rfl, hb7⟩
        rw [decide_eq_true FF.out.1]
        have s7 := hb7.size
        replace B := Lib.hid (B.out.trans (hb7.mono (by omega)))
        replace HH := Lib.hid (HH.out.below hb7 (by omega))
        replace hI := Lib.hid (hI.out.below hb7 (Nat.le_refl _))
        replace hG := Lib.hid (hG.out.below hb7 (by omega))
        clear hb7
        go_wp2_with fail
        refine (SettingWeight_any _ _ l R w7 (HH.out.quads (by omega)) hI.out).mono ?_
        rintro e w8 ⟨rfl, hb8⟩
        have s8 := hb8.size
        replace B := Lib.hid (B.out.trans (hb8.mono (by omega)))
        replace HH := Lib.hid (HH.out.below hb8 (by omega))
        replace hG := Lib.hid (hG.out.below hb8 (by omega))
        clear hb8
        have WE : Hid (weightAll l (greedyOut l) ≤ weightAll l R) := FF.out.2.2.2
        obtain ⟨y1, hy1⟩ : ∃ y, y = weightAll l R := ⟨_, rfl⟩
        rw [← hy1] at WE ⊢
        clear hy1
        go_wp2_with fail
        refine (SettingWeight_any _ _ l (greedyOut l) w8 (HH.out.quads (by omega)) hG.out.ints).mono ?_
        rintro e w9 ⟨rfl, hb9⟩
        replace B := Lib.hid (B.out.trans (hb9.mono (by omega)))
        clear hb9
        obtain ⟨y2, hy2⟩ : ∃ y, y = weightAll l (greedyOut l) := ⟨_, rfl⟩
        rw [← hy2] at WE ⊢
        have we := WE.out
        clear hy2 WE
        go_wp2
        go_ret
        exact ⟨rfl, B.out⟩
  · rw [decide_eq_false hv]
    clear hv hR
    go_wp2_with fail
    refine (sameInts_b vo vu R R w3 O.out.ints U.out.ints).mono ?_
    rintro e w4 ⟨rfl, hb4⟩
    have s4 := hb4.size
    replace H := Lib.hid (H.out.below hb4 (by omega))
    replace O := Lib.hid (O.out.below hb4 (by omega))
    replace U := Lib.hid (U.out.below hb4 (by omega))
    replace B := Lib.hid (B.out.trans (hb4.mono (by omega)))
    clear hb4
    rw [decide_eq_true (rfl : R = R)]
    go_wp2_with fail
    refine (sameInts_b vo vu R R w4 O.out.ints U.out.ints).mono ?_
    rintro e w5 ⟨rfl, hb5⟩
    have s5 := hb5.size
    replace H := Lib.hid (H.out.below hb5 (by omega))
    replace O := Lib.hid (O.out.below hb5 (by omega))
    replace U := Lib.hid (U.out.below hb5 (by omega))
    replace B := Lib.hid (B.out.trans (hb5.mono (by omega)))
    clear hb5
    rw [decide_eq_true (rfl : R = R)]
    go_wp2
    go_ret
    exact ⟨rfl, B.out⟩
end Go.Proofs.Ytbpcjdhbbighgaa
namespace Go.Proofs.Ytbpcjdhbbighgaa.fnSettingBest
open Go.ChangeShapes Go.WideShapes Go.ChangeAt Go.RowKit
set_option linter.unusedVariables false

theorem own : ownKnob Try.prog.godebug = none := by kernel_rfl
theorem laidOut : laidOutB Try.prog = true := fact_laid
set_option maxRecDepth 100000 in
theorem lifted (os : Os) (started : os.Started) (H : Type) (enc : TypeId × Value → H) :
    ReturnsInHanded {} Try.checked os 12 .any (Rows.fnSettingBestSpec.pre6 enc Try.prog Try.f12 Rows.fnSettingBestRow.domain false) (Rows.fnSettingBestSpec.post enc Try.prog Try.f12 false true false false) := by
  refine returnsInHanded_of_change (C := Try.checked) own started (by kernel_rfl) Try.func12
    (ChangeSpec.witness6 (enc := enc) (C := Try.checked) false ⟨#[], #[.slice none 0 0], []⟩ 8 (by kernel_rfl) (by kernel_rfl) (by kernel_rfl) (by kernel_rfl)) ?_
  intro W base args ds gs before hval0 hW hcnd _
  have hval : ∀ (j : Nat) t v, Try.f12.params[j]? = some t → args[j]? = some v → Value.okWide Try.prog W .any base t v := hval0
  have hW' := hW
  obtain ⟨p, q, hA0, hV, rfl, hfz, hnd⟩ := hW
  have hA : DataW.TrodAll enc Try.prog W 0 (fun _ => true) true Try.f12.params.toList args.toList ds p := hA0
  rw [Try.params12] at hA hval
  obtain ⟨v0, vs0, d0, ds0, p0, q0, hargs, rfl, rfl, h0, r0⟩ := trodAll_cons hA
  obtain ⟨rfl, rfl, rfl⟩ := trodAll_nil r0
  obtain rfl : args = #[v0] := by cases args; simp_all
  obtain ⟨rfl, rfl⟩ := trodVars_none hV
  obtain ⟨a0, len0, cap0, rfl⟩ := okWide_slice Try.underlying22 (hval 0 22 v0 rfl rfl)
  have k0 := h0
  have lt0 : ∀ x ∈ p0, x.block < W.heap.size := by obtain ⟨m, hm⟩ := k0; exact DataW.trod_lt m _ _ _ hm
  obtain ⟨z0, w0⟩ : ∃ zs, Bytes W (.slice a0 len0 cap0) zs := bytes_opened h0
  clear hA0 hval0
  refine (FnSettingBest_walk _ z0 W w0).mono fun e W' ⟨he, bel⟩ => ?_
  subst he
  exact ⟨_, rfl, _, _, _, [], _, [], hW', trodAll_mk1 (shut_bool Try.underlying4 _), (trodAll_cons_mk (Below.trod laidOut (by kernel_rfl) (of_decide_eq_true (by kernel_rfl)) k0 bel lt0) trodAll_mk0), rfl, bel.frame _, fun h => by cases h⟩
theorem fact_inPlace : (Rows.fnSettingBestRow.inPlace == Try.prog.inPlace 12) = true := by kernel_rfl
theorem fact_unfollowed : (Rows.fnSettingBestRow.unfollowed == Try.prog.unfollowed 12) = true := by kernel_rfl
theorem fact_recurses : (Rows.fnSettingBestRow.recurses == Try.prog.recurses 12) = true := by kernel_rfl
theorem fact_named : (Rows.fnSettingBestRow.named == Try.prog.varsNamed 12) = true := by kernel_rfl
theorem fact_plain : (Rows.fnSettingBestRow.plainKeys == Try.prog.plainKeys) = true := by kernel_rfl
theorem joined : joinedFacts Try.pinned.checked.prog 12 Try.f12 Rows.fnSettingBestSpec Rows.fnSettingBestRow = true :=
  joined_of (f := 12) (fn := Try.f12) (s := Rows.fnSettingBestSpec) (c := Rows.fnSettingBestRow) (by kernel_rfl) (by kernel_rfl) (by kernel_rfl) (by kernel_rfl) (by kernel_rfl) fact_inPlace fact_unfollowed fact_recurses fact_named (by kernel_rfl) (by kernel_rfl) (by kernel_rfl) (by kernel_rfl) (by kernel_rfl) (by kernel_rfl) (by kernel_rfl) (by kernel_rfl) (by kernel_rfl) fact_plain (by kernel_rfl) rfl rfl (by kernel_rfl) (by kernel_rfl) (by kernel_rfl) (by kernel_rfl)

/-- the statement -/
theorem proved : Rows.FnSettingBestSaid :=
  OpenClaim.holds_of_wide 12 Try.f12 rfl rfl rfl rfl rfl rfl rfl ⟨rfl, rfl, rfl, rfl, rfl⟩ rfl rfl rfl rfl rfl (by kernel_rfl) Try.func12 joined
    (of_decide_eq_true (by kernel_rfl)) (by unfold Func.isWrapper; first | (rw [if_pos (by decide +kernel)]; kernel_rfl) | (rw [if_neg (by decide +kernel)]; exact ⟨rfl, rfl⟩))
    (fun os started H enc _ => lifted os started H enc)
#print axioms proved
end Go.Proofs.Ytbpcjdhbbighgaa.fnSettingBest
