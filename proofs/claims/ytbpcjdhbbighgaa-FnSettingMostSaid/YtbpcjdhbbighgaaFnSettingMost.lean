/-
  FnSettingMost: for all arguments the law returns true and leaves what was there as it was. No condition.
-/
import Derived.Test.YtbpcjdhbbighgaaLawKit2
import Derived.Test.YtbpcjdhbbighgaaGreedyI
import Derived.Test.YtbpcjdhbbighgaaBestI
import Derived.Test.YtbpcjdhbbighgaaBestK
import Derived.Test.YtbpcjdhbbighgaaSetMany
import Derived.Test.YtbpcjdhbbighgaaRec
import Derived.Test.YtbpcjdhbbighgaaDrawS
import Derived.Test.YtbpcjdhbbighgaaBoardOf
import Derived.Test.YtbpcjdhbbighgaaLawKit
import Derived.Test.YtbpcjdhbbighgaaBytes
import Derived.Test.YtbpcjdhbbighgaaFacts
import Derived.ProofKit
import Derived.OpenShut
import Derived.ShutString
import Derived.ChangeOld
import Derived.Below
import Derived.Test.YtbpcjdhbbighgaaFacts
import Derived.ProofKit
import Derived.OpenShut
import Derived.ShutString
import Derived.ChangeOld
import Derived.Below
namespace Go.Proofs.Ytbpcjdhbbighgaa
open Go.RowKit Go.Deep

theorem most_facts {l : List Quad} (hv : ValidL l) : SetOk l (bestOut l) ∧ SetOk l (greedyOut l) ∧ cntS l (bestOut l) l.length ≤ mostOut l ∧ cntS l (greedyOut l) l.length ≤ mostOut l ∧ mostOut l ≤ (l.length : Int) ∧ 0 ≤ mostOut l := by
  have e : bestOut l = bestAll (wtB true) l := if_pos hv
  have g : greedyOut l = greedyOf l := if_pos hv
  have m : mostOut l = bst (wtB false) l l.length 0 (mPts l) := if_pos hv
  have B1 := bestAll_ok (wtB true) l
  obtain ⟨g1, _⟩ := greedy_ok hv
  have hw : wtB false = fun _ => (1 : Int) := by funext q; simp [wtB]
  have w1 := wt1_le l l.length 0 (mPts l)
  refine ⟨by rw [e]; exact ⟨hv, B1.1, B1.2.1⟩, by rw [g]; exact g1, ?_, ?_, ?_, ?_⟩
  · rw [e, m, hw]; exact bstAll_le (fun _ => (1 : Int)) B1.1 B1.2.1
  · rw [g, m, hw]; exact bstAll_le (fun _ => (1 : Int)) g1.2.1 g1.2.2
  · rw [m, hw]; exact w1.1
  · rw [m, hw]; exact w1.2
theorem cntS_next (l : List Quad) (s : List Int) (k : Nat) : cntS l s (k + 1) = cntS l s k + if s[k]?.getD 0 = -1 then 0 else 1 := rfl
set_option maxHeartbeats 4000000 in
set_option maxRecDepth 100000 in
theorem FnSettingMost_walk (v : Value) (n : Nat) (w : World) (h : Bytes w v n) :
    Calls Try.prog 11 #[v] w fun e w' => e = .returned (.bool true) ∧ Below w.heap.size w w' := by
  have CD := Lib.hid (DrawSettingMost_any v n w h)
  obtain ⟨a, cap, rfl, h1, h2, h3⟩ := h
  clear h3
  by_cases hbig : 1048576 < n
  · have hb' : (1048576 : Int) < (n : Int) := by omega
    go_enter Try.func11, Try.ntmps11
    go_wp2
    go_ret
    exact ⟨rfl, Below.refl _ _⟩
  have hb' : ¬ (1048576 : Int) < (n : Int) := by omega
  clear hbig
  go_enter Try.func11, Try.ntmps11
  go_wp2_with fail
  refine CD.out.mono ?_
  rintro e w1 ⟨vl, l, rfl, hA, hl7, hb1⟩
  have s1 := hb1.size
  obtain ⟨la, lc, rfl, q1, q2, q3⟩ := id hA
  clear q3 CD
  have H := Lib.hid hA.quadsB
  have B := Lib.hid hb1
  clear hA hb1
  go_wp2_with fail
  refine (SettingMost_any _ l w1 (H.out.quads (by omega))).mono ?_
  rintro e w2 ⟨rfl, hb2⟩
  have s2 := hb2.size
  replace H := Lib.hid (H.out.below hb2 (by omega))
  replace B := Lib.hid (B.out.trans (hb2.mono (by omega)))
  clear hb2
  go_wp2_with fail
  refine (specSettingMost_any _ l w2 (H.out.quads (by omega))).mono ?_
  rintro e w3 ⟨rfl, hb3⟩
  have s3 := hb3.size
  replace H := Lib.hid (H.out.below hb3 (by omega))
  replace B := Lib.hid (B.out.trans (hb3.mono (by omega)))
  clear hb3
  by_cases hv : ValidL l
  · have HV := Lib.hid hv
    have FF := Lib.hid (most_facts hv)
    have hl6 := hv.1
    obtain ⟨N, hN⟩ : ∃ N, N = mostOut l := ⟨_, rfl⟩
    rw [← hN] at FF ⊢
    have HN := Lib.hid hN
    have m0 : 0 ≤ N := FF.out.2.2.2.2.2
    have m1 : N ≤ (l.length : Int) := FF.out.2.2.2.2.1
    have hne : (N != N) = false := by simp
    clear hv hN
    go_wp2_with fail
    refine (SettingBest_any _ l w3 (H.out.quads (by omega))).mono ?_
    rintro e w4 ⟨vb, rfl, hO, hb4⟩
    have s4 := hb4.size
    replace H := Lib.hid (H.out.below hb4 (by omega))
    replace B := Lib.hid (B.out.trans (hb4.mono (by omega)))
    have O := Lib.hid hO
    clear hO hb4
    rw [decide_eq_true HV.out]
    go_wp2_with fail
    refine (SettingGreedy_any _ l w4 (H.out.quads (by omega))).mono ?_
    rintro e w5 ⟨vg, rfl, hG, hb5⟩
    have s5 := hb5.size
    replace H := Lib.hid (H.out.below hb5 (by omega))
    replace O := Lib.hid (O.out.below hb5 (by omega))
    replace B := Lib.hid (B.out.trans (hb5.mono (by omega)))
    have G := Lib.hid hG
    clear hG hb5
    rw [decide_eq_true HV.out]
    have S1 : Hid (SetOk l (bestOut l)) := FF.out.1
    have S2 : Hid (SetOk l (greedyOut l)) := FF.out.2.1
    have C1 : Hid (cntS l (bestOut l) l.length ≤ N) := FF.out.2.2.1
    have C2 : Hid (cntS l (greedyOut l) l.length ≤ N) := FF.out.2.2.2.1
    obtain ⟨RB, hRB⟩ : ∃ x, x = bestOut l := ⟨_, rfl⟩
    obtain ⟨RG, hRG⟩ : ∃ x, x = greedyOut l := ⟨_, rfl⟩
    rw [← hRB] at O S1 C1
    rw [← hRG] at G S2 C2
    have HRB := Lib.hid hRB
    have HRG := Lib.hid hRG
    clear hRB hRG FF
    have rl1 : Hid (RB.length = l.length) := S1.out.2.1
    have rl2 : Hid (RG.length = l.length) := S2.out.2.1
    obtain ⟨ba, bc, hx, hbc⟩ := ints_shape O.out.ints
    subst hx
    obtain ⟨ga, gc, hx, hgc⟩ := ints_shape G.out.ints
    subst hx
    have OI := Lib.hid O.out.ints
    have GI := Lib.hid G.out.ints
    have zW : w1.heap.size ≤ w5.heap.size := by omega
    go_wp2_with fail
    go_loopw [10, 11, 12] (fun x y i wr => ∃ k : Nat, k ≤ l.length ∧ i = .int .i64 k ∧ x = .int .i64 (cntS l RB k) ∧ y = .int .i64 (cntS l RG k) ∧ Below w5.heap.size w5 wr) (fun _ _ i _ => l.length - (intOf i).toNat)
    case atStart => exact ⟨0, Nat.zero_le _, rfl, rfl, rfl, Below.refl _ _⟩
    case round =>
      obtain ⟨k, hk, rfl, rfl, rfl, hbel⟩ := hrel
      have HB := Lib.hid hbel
      have sr := hbel.size
      have b1 := (sumW_bound HV.out RB k hk).2.2
      have b2 := (sumW_bound HV.out RG k hk).2.2
      by_cases hkl : k < l.length
      · have x1 : (k : Int) < (l.length : Int) := by omega
        have x3 : (0 : Int) ≤ (k : Int) := by omega
        have x5 : k < RB.length := by rw [rl1.out]; exact hkl
        have x6 : k < RG.length := by rw [rl2.out]; exact hkl
        obtain ⟨ob, oo, hoa, ob1, oc1⟩ := ints_cell (OI.out.below hbel (Nat.le_refl _)) (k := k) x5
        subst hoa
        obtain ⟨qb, qo, hqa, qb1, qc1⟩ := ints_cell (GI.out.below hbel (Nat.le_refl _)) (k := k) x6
        subst hqa
        have sd1 := ((okUp_iff l RB _).1 S1.out.2.2 k hkl).side
        have sd2 := ((okUp_iff l RG _).1 S2.out.2.2 k hkl).side
        have N1 := Lib.hid (cntS_next l RB k)
        have N2 := Lib.hid (cntS_next l RG k)
        obtain ⟨z1, hz1⟩ : ∃ z, z = RB[k]?.getD 0 := ⟨_, rfl⟩
        obtain ⟨z2, hz2⟩ : ∃ z, z = RG[k]?.getD 0 := ⟨_, rfl⟩
        obtain ⟨c1, hc1⟩ : ∃ c, c = cntS l RB k := ⟨_, rfl⟩
        obtain ⟨c2, hc2⟩ : ∃ c, c = cntS l RG k := ⟨_, rfl⟩
        rw [← hz1] at oc1 sd1 N1
        rw [← hz2] at qc1 sd2 N2
        rw [← hc1] at b1 N1 ⊢
        rw [← hc2] at b2 N2 ⊢
        have e1 : IntKind.i64.wrap (c1 + 1) = c1 + 1 := IntWalk.i64_in _ (by omega)
        have e2 : IntKind.i64.wrap (c2 + 1) = c2 + 1 := IntWalk.i64_in _ (by omega)
        clear hz1 hz2 hc1 hc2 hbel b1 b2
        rcases sd1 with hs1 | hs1
        · have t1 : ¬ (0 : Int) ≤ z1 := by omega
          have M1 : Hid (cntS l RB (k + 1) = c1) := by show _ = _; rw [N1.out, if_pos hs1]; omega
          clear hs1
          rcases sd2 with hs2 | hs2
          · have t2 : ¬ (0 : Int) ≤ z2 := by omega
            have M2 : Hid (cntS l RG (k + 1) = c2) := by show _ = _; rw [N2.out, if_pos hs2]; omega
            clear hs2
            go_wp2_with fail
            go_roundw
            case rel => exact ⟨k + 1, by omega, by go_num, by rw [M1.out], by rw [M2.out], HB.out⟩
            case measure => simp [intOf]; omega
          · have t2 : (0 : Int) ≤ z2 := hs2.1
            have M2 : Hid (cntS l RG (k + 1) = c2 + 1) := by show _ = _; rw [N2.out, if_neg (by omega)]
            clear hs2
            go_wp2_with fail
            go_roundw
            case rel => exact ⟨k + 1, by omega, by go_num, by rw [M1.out], by rw [M2.out], HB.out⟩
            case measure => simp [intOf]; omega
        · have t1 : (0 : Int) ≤ z1 := hs1.1
          have M1 : Hid (cntS l RB (k + 1) = c1 + 1) := by show _ = _; rw [N1.out, if_neg (by omega)]
          clear hs1
          rcases sd2 with hs2 | hs2
          · have t2 : ¬ (0 : Int) ≤ z2 := by omega
            have M2 : Hid (cntS l RG (k + 1) = c2) := by show _ = _; rw [N2.out, if_pos hs2]; omega
            clear hs2
            go_wp2_with fail
            go_roundw
            case rel => exact ⟨k + 1, by omega, by go_num, by rw [M1.out], by rw [M2.out], HB.out⟩
            case measure => simp [intOf]; omega
          · have t2 : (0 : Int) ≤ z2 := hs2.1
            have M2 : Hid (cntS l RG (k + 1) = c2 + 1) := by show _ = _; rw [N2.out, if_neg (by omega)]
            clear hs2
            go_wp2_with fail
            go_roundw
            case rel => exact ⟨k + 1, by omega, by go_num, by rw [M1.out], by rw [M2.out], HB.out⟩
            case measure => simp [intOf]; omega
      · obtain rfl : k = l.length := by omega
        have d1 := C1.out
        have d2 := C2.out
        obtain ⟨c1, hc1⟩ : ∃ c, c = cntS l RB l.length := ⟨_, rfl⟩
        obtain ⟨c2, hc2⟩ : ∃ c, c = cntS l RG l.length := ⟨_, rfl⟩
        rw [← hc1] at d1 ⊢
        rw [← hc2] at d2 ⊢
        replace B := Lib.hid (B.out.trans (HB.out.mono (by omega)))
        clear hc1 hc2 C1 C2 hbel b1 b2 hkl
        go_wp2
        go_ret
        exact ⟨rfl, B.out⟩
  · have e : mostOut l = -1 := if_neg hv
    rw [e]
    clear hv e
    go_wp2
    go_ret
    exact ⟨rfl, B.out⟩
end Go.Proofs.Ytbpcjdhbbighgaa
namespace Go.Proofs.Ytbpcjdhbbighgaa.fnSettingMost
open Go.ChangeShapes Go.WideShapes Go.ChangeAt Go.RowKit
set_option linter.unusedVariables false

theorem own : ownKnob Try.prog.godebug = none := by kernel_rfl
theorem laidOut : laidOutB Try.prog = true := fact_laid
set_option maxRecDepth 100000 in
theorem lifted (os : Os) (started : os.Started) (H : Type) (enc : TypeId × Value → H) :
    ReturnsInHanded {} Try.checked os 11 .any (Rows.fnSettingMostSpec.pre6 enc Try.prog Try.f11 Rows.fnSettingMostRow.domain false) (Rows.fnSettingMostSpec.post enc Try.prog Try.f11 false true false false) := by
  refine returnsInHanded_of_change (C := Try.checked) own started (by kernel_rfl) Try.func11
    (ChangeSpec.witness6 (enc := enc) (C := Try.checked) false ⟨#[], #[.slice none 0 0], []⟩ 8 (by kernel_rfl) (by kernel_rfl) (by kernel_rfl) (by kernel_rfl)) ?_
  intro W base args ds gs before hval0 hW hcnd _
  have hval : ∀ (j : Nat) t v, Try.f11.params[j]? = some t → args[j]? = some v → Value.okWide Try.prog W .any base t v := hval0
  have hW' := hW
  obtain ⟨p, q, hA0, hV, rfl, hfz, hnd⟩ := hW
  have hA : DataW.TrodAll enc Try.prog W 0 (fun _ => true) true Try.f11.params.toList args.toList ds p := hA0
  rw [Try.params11] at hA hval
  obtain ⟨v0, vs0, d0, ds0, p0, q0, hargs, rfl, rfl, h0, r0⟩ := trodAll_cons hA
  obtain ⟨rfl, rfl, rfl⟩ := trodAll_nil r0
  obtain rfl : args = #[v0] := by cases args; simp_all
  obtain ⟨rfl, rfl⟩ := trodVars_none hV
  obtain ⟨a0, len0, cap0, rfl⟩ := okWide_slice Try.underlying22 (hval 0 22 v0 rfl rfl)
  have k0 := h0
  have lt0 : ∀ x ∈ p0, x.block < W.heap.size := by obtain ⟨m, hm⟩ := k0; exact DataW.trod_lt m _ _ _ hm
  obtain ⟨z0, w0⟩ : ∃ zs, Bytes W (.slice a0 len0 cap0) zs := bytes_opened h0
  clear hA0 hval0
  refine (FnSettingMost_walk _ z0 W w0).mono fun e W' ⟨he, bel⟩ => ?_
  subst he
  exact ⟨_, rfl, _, _, _, [], _, [], hW', trodAll_mk1 (shut_bool Try.underlying4 _), (trodAll_cons_mk (Below.trod laidOut (by kernel_rfl) (of_decide_eq_true (by kernel_rfl)) k0 bel lt0) trodAll_mk0), rfl, bel.frame _, fun h => by cases h⟩
theorem fact_inPlace : (Rows.fnSettingMostRow.inPlace == Try.prog.inPlace 11) = true := by kernel_rfl
theorem fact_unfollowed : (Rows.fnSettingMostRow.unfollowed == Try.prog.unfollowed 11) = true := by kernel_rfl
theorem fact_recurses : (Rows.fnSettingMostRow.recurses == Try.prog.recurses 11) = true := by kernel_rfl
theorem fact_named : (Rows.fnSettingMostRow.named == Try.prog.varsNamed 11) = true := by kernel_rfl
theorem fact_plain : (Rows.fnSettingMostRow.plainKeys == Try.prog.plainKeys) = true := by kernel_rfl
theorem joined : joinedFacts Try.pinned.checked.prog 11 Try.f11 Rows.fnSettingMostSpec Rows.fnSettingMostRow = true :=
  joined_of (f := 11) (fn := Try.f11) (s := Rows.fnSettingMostSpec) (c := Rows.fnSettingMostRow) (by kernel_rfl) (by kernel_rfl) (by kernel_rfl) (by kernel_rfl) (by kernel_rfl) fact_inPlace fact_unfollowed fact_recurses fact_named (by kernel_rfl) (by kernel_rfl) (by kernel_rfl) (by kernel_rfl) (by kernel_rfl) (by kernel_rfl) (by kernel_rfl) (by kernel_rfl) (by kernel_rfl) fact_plain (by kernel_rfl) rfl rfl (by kernel_rfl) (by kernel_rfl) (by kernel_rfl) (by kernel_rfl)

/-- the statement -/
theorem proved : Rows.FnSettingMostSaid :=
  OpenClaim.holds_of_wide 11 Try.f11 rfl rfl rfl rfl rfl rfl rfl ⟨rfl, rfl, rfl, rfl, rfl⟩ rfl rfl rfl rfl rfl (by kernel_rfl) Try.func11 joined
    (of_decide_eq_true (by kernel_rfl)) (by unfold Func.isWrapper; first | (rw [if_pos (by decide +kernel)]; kernel_rfl) | (rw [if_neg (by decide +kernel)]; exact ⟨rfl, rfl⟩))
    (fun os started H enc _ => lifted os started H enc)
#print axioms proved
end Go.Proofs.Ytbpcjdhbbighgaa.fnSettingMost
