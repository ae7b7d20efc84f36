/-
  FnSettingMany: for all arguments the law returns true and leaves what was there as it was. No condition.
-/
import Derived.Test.YtcjcgbimilglaaaLawKit
import Derived.Test.YtcjcgbimilglaaaBytes
import Derived.Test.YtcjcgbimilglaaaFacts
import Derived.ProofKit
import Derived.OpenShut
import Derived.ShutString
import Derived.ChangeOld
import Derived.Below
import Derived.Test.YtcjcgbimilglaaaFacts
import Derived.ProofKit
import Derived.OpenShut
import Derived.ShutString
import Derived.ChangeOld
import Derived.Below
namespace Go.Proofs.Ytcjcgbimilglaaa
open Go.RowKit Go.Deep

set_option maxHeartbeats 4000000 in
set_option maxRecDepth 100000 in
theorem FnSettingMany_walk (v : Value) (n : Nat) (w : World) (h : Bytes w v n) :
    Calls Try.prog 6 #[v] w fun e w' => e = .returned (.bool true) ∧ Below w.heap.size w w' := by
  have CD := Lib.hid (DrawSettingMany_any v n w h)
  obtain ⟨a, cap, rfl, h1, h2, h3⟩ := h
  clear h3
  by_cases hbig : 1048576 < n
  · have hb' : (1048576 : Int) < (n : Int) := by omega
    go_enter Try.func6, Try.ntmps6
    go_wp2
    go_ret
    exact ⟨rfl, Below.refl _ _⟩
  have hb' : ¬ (1048576 : Int) < (n : Int) := by omega
  clear hbig
  go_enter Try.func6, Try.ntmps6
  go_wp2_with fail
  refine CD.out.mono ?_
  rintro e w1 ⟨vl, l, rfl, hA, hl7, hb1⟩
  have s1 := hb1.size
  obtain ⟨la, lc, rfl, q1, q2, q3⟩ := id hA
  clear q3 CD
  have H := Lib.hid hA.quadsB
  have B := Lib.hid hb1
  clear hA hb1
  go_wp2_with fail
  refine (SettingMany_any _ l w1 (H.out.quads (Nat.le_refl _))).mono ?_
  rintro e w2 ⟨rfl, hb2⟩
  have s2 := hb2.size
  replace B := Lib.hid (B.out.trans (hb2.mono (by omega)))
  replace H := Lib.hid (H.out.below hb2 (Nat.le_refl _))
  clear hb2
  go_wp2_with fail
  refine (specSettingMany_any _ l w2 (H.out.quads s2)).mono ?_
  rintro e w3 ⟨rfl, hb3⟩
  have s3 := hb3.size
  replace B := Lib.hid (B.out.trans (hb3.mono (by omega)))
  replace H := Lib.hid (H.out.below hb3 (by omega))
  clear hb3
  by_cases hv : ValidL l
  · have HV := Lib.hid hv
    have hl6 := hv.1
    have e1 : manyOut l = ((manyAll l : Nat) : Int) := if_pos hv
    rw [e1]
    have m1 := (many_bounds l l.length 0 (mPts l)).1
    have m2 := (many_bounds l l.length 0 (mPts l)).2
    have MS := Lib.hid (someUp_all (l := l))
    obtain ⟨N, hN⟩ : ∃ N, N = manyAll l := ⟨_, rfl⟩
    have m1' : 1 ≤ N := by rw [hN]; exact m1
    have m2' : N ≤ 5 ^ l.length := by rw [hN]; exact m2
    rw [← hN] at MS ⊢
    have M2 := Lib.hid m2'
    have hN3 : N ≤ 15625 := Nat.le_trans m2' (pow_small hl6)
    have hne : ((N : Int) != (N : Int)) = false := by simp
    clear hv e1 hN m1 m2 m2'
    go_wp2_with fail
    go_loopw [6, 7, 8, 9, 10, 11] (fun p s i _ _ _ wr => ∃ k : Nat, k ≤ l.length ∧ i = .int .i64 k ∧ p = .int .i64 ((5 ^ k : Nat) : Int) ∧ (∃ bv : Bool, s = .bool bv ∧ (bv = true ↔ SomeUp l k)) ∧ w3.heap.size ≤ wr.heap.size ∧ Below w.heap.size w wr ∧ QuadsB w1.heap.size wr (.slice la l.length lc) l) (fun _ _ i _ _ _ _ => l.length - (intOf i).toNat)
    case atStart => exact ⟨0, Nat.zero_le _, rfl, rfl, ⟨false, rfl, by simp [SomeUp]⟩, Nat.le_refl _, B.out, H.out⟩
    case round =>
      clear B H
      obtain ⟨k, hk, rfl, rfl, ⟨bv, rfl, hbv⟩, hsz, hbel, hq⟩ := hrel
      have HB := Lib.hid hbel
      have HQ := Lib.hid hq
      have BV := Lib.hid hbv
      have hp6 := pow_le6 (k := k) (by omega)
      have PE : Hid (((5 ^ (k + 1) : Nat) : Int) = 5 * ((5 ^ k : Nat) : Int)) := by show _ = _; rw [Nat.pow_succ]; omega
      have M3 := Lib.hid (show k = l.length → N ≤ 5 ^ k from fun e => by rw [e]; exact M2.out)
      obtain ⟨p, hp⟩ : ∃ p, p = 5 ^ k := ⟨_, rfl⟩
      rw [← hp] at hp6 PE M3 ⊢
      have hp1 := hp6.1
      have hp2 := hp6.2
      clear hbel hq hbv hp hp6
      by_cases hlt : k < l.length
      · have hlt' : (k : Int) < (l.length : Int) := by omega
        have e5 := IntWalk.i64_in (5 * (p : Int)) (by omega)
        go_wp2_with fail
        obtain ⟨wo, hwo⟩ : ∃ wo : World, wo = wr := ⟨_, rfl⟩
        have so : w3.heap.size ≤ wo.heap.size := by rw [hwo]; exact hsz
        rw [← hwo]
        have HBo : Hid (Below w.heap.size w wo) := by rw [hwo]; exact HB.out
        have HQo : Hid (QuadsB w1.heap.size wo (.slice la l.length lc) l) := by rw [hwo]; exact HQ.out
        clear hwo HB HQ hsz
        clear wr
        go_loopw [7, 9, 10, 11] (fun s i _ _ wr => ∃ j : Nat, j ≤ 4 ∧ i = .int .i64 j ∧ (∃ bv : Bool, s = .bool bv ∧ (bv = true ↔ SomeAt l k j)) ∧ w3.heap.size ≤ wr.heap.size ∧ Below w.heap.size w wr ∧ QuadsB w1.heap.size wr (.slice la l.length lc) l) (fun _ i _ _ _ => 4 - (intOf i).toNat)
        case atStart => exact ⟨0, by omega, rfl, ⟨bv, rfl, by rw [someAt_zero]; exact BV.out⟩, so, HBo.out, HQo.out⟩
        case round =>
          clear HBo HQo BV so wo
          obtain ⟨j, hj, rfl, ⟨cv, rfl, hcv⟩, hsz, hbel, hq⟩ := hrel
          have HB := Lib.hid hbel
          have HQ := Lib.hid hq
          have CV := Lib.hid hcv
          clear hbel hq hcv
          by_cases hj4 : j < 4
          · have hj4' : (j : Int) < 4 := by omega
            go_wp2_with fail
            obtain ⟨wo, hwo⟩ : ∃ wo : World, wo = wr := ⟨_, rfl⟩
            have so : w3.heap.size ≤ wo.heap.size := by rw [hwo]; exact hsz
            rw [← hwo]
            have HBo : Hid (Below w.heap.size w wo) := by rw [hwo]; exact HB.out
            have HQo : Hid (QuadsB w1.heap.size wo (.slice la l.length lc) l) := by rw [hwo]; exact HQ.out
            clear hwo HB HQ hsz
            clear wr
            go_loopw [10, 11] (fun x i wr => ∃ m : Nat, m ≤ l.length ∧ i = .int .i64 m ∧ wr.ownsRow wo.heap.size 3 1 x (List.replicate m (-1 : Int)).length ((List.replicate m (-1 : Int)).map (Value.int .i64)) ∧ Below wo.heap.size wo wr) (fun _ i _ => l.length - (intOf i).toNat)
            case atStart => exact ⟨0, Nat.zero_le _, rfl, by simpa using (World.ownsRow_made (base := wo.heap.size) (e := 3) (size := 1) wo #[] 0 (Nat.le_refl _) (by decide) rfl), (Below.refl _ _).alloc (Nat.le_refl _) _⟩
            case round =>
              obtain ⟨m, hm, rfl, hown, hbel⟩ := hrel
              have hsr := hbel.size
              by_cases hml : m < l.length
              · have hml' : (m : Int) < (l.length : Int) := by omega
                have E := Lib.hid (repl_snoc m)
                have hfl : (List.replicate m (-1 : Int)).length ≤ 1099511627776 := by simp; omega
                obtain ⟨X, hX⟩ : ∃ X, X = List.replicate m (-1 : Int) := ⟨_, rfl⟩
                rw [← hX] at hown hfl E
                clear hX
                go_wp2_with (at_builtin; refine app_int wo wr rfl _ _ rfl wo.heap.size _ X (-1) hown rfl rfl hfl hsr hbel ?_; intro v' w4 hown1 hbel1)
                go_roundw
                case rel => exact ⟨m + 1, by omega, by go_num, by rw [← E.out]; exact hown1, hbel1⟩
                case measure => simp [intOf]; omega
              · obtain rfl : m = l.length := by omega
                have hO := own_of_ownsRow hown (Nat.le_refl _)
                have hB9 := HBo.out.trans (hbel.mono (by have := HBo.out.size; omega))
                have hQ9 := HQo.out.below hbel (by omega)
                obtain ⟨xb, xo, xc, rfl, y1, y2, c0, fr, hO2⟩ := own_set hO (k := k) (by simpa using hlt) (j : Int)
                rw [List.length_replicate] at *
                have AO : Hid (Own wo.heap.size wr.heap.size (wr.setCell ⟨xb, xo + k, none⟩ (.int .i64 (j : Int))) (.slice (some ⟨xb, xo, none⟩) l.length xc) (alone l.length k (j : Int))) := hO2
                have HB9 := Lib.hid (hB9.setCell (p := ⟨xb, xo + k, none⟩) (by show w.heap.size ≤ xb; have := HBo.out.size; omega) (.int .i64 (j : Int)))
                have hw31 : w1.heap.size ≤ wo.heap.size := by omega
                have HQ9 : Hid (QuadsB w1.heap.size (wr.setCell ⟨xb, xo + k, none⟩ (.int .i64 (j : Int))) (.slice la l.length lc) l) := hQ9.below ((Below.refl w1.heap.size wr).setCell (p := ⟨xb, xo + k, none⟩) (by show w1.heap.size ≤ xb; omega) _) (Nat.le_refl _)
                have x3 : (0 : Int) ≤ (k : Int) := by omega
                have s9 : w3.heap.size ≤ wr.heap.size := by omega
                have SN := Lib.hid (someAt_next (l := l) (k := k) (j := j))
                clear hown hbel hO hB9 hQ9 hO2
                cases cv
                · go_wp2_with fail
                  refine (SettingValid_any _ _ l (alone l.length k (j : Int)) _ (HQ9.out.quads (by simp; omega)) AO.out.ints).mono ?_
                  rintro e w5 ⟨rfl, hb5⟩
                  have s5 := hb5.size
                  simp at s5
                  have HB5 := Lib.hid (HB9.out.trans (hb5.mono (by have := HB9.out.size; simp at this ⊢; omega)))
                  have HQ5 := Lib.hid (HQ9.out.below hb5 (by simp; omega))
                  clear hb5
                  obtain ⟨dv, hdv⟩ : ∃ dv, dv = decide (SetOk l (alone l.length k (j : Int))) := ⟨_, rfl⟩
                  rw [← hdv]
                  have DV : Hid (dv = true ↔ SomeAt l k (j + 1)) := by
                    show _ ↔ _
                    rw [SN.out, hdv, decide_eq_true_iff]
                    have := CV.out
                    constructor
                    · intro h; exact .inr h.2.2
                    · rintro (h | h)
                      · exact absurd (this.2 h) (by simp)
                      · exact ⟨HV.out, by rw [alone_length], h⟩
                  clear hdv
                  go_wp2_with fail
                  go_roundw
                  case rel => exact ⟨j + 1, by omega, by go_num, ⟨dv, rfl, DV.out⟩, by omega, HB5.out, HQ5.out⟩
                  case measure => simp [intOf]; omega
                · have DV : Hid ((true : Bool) = true ↔ SomeAt l k (j + 1)) := by
                    show _ ↔ _
                    rw [SN.out]
                    exact ⟨fun h => .inl (CV.out.1 h), fun _ => rfl⟩
                  go_wp2_with fail
                  go_roundw
                  case rel => exact ⟨j + 1, by omega, by go_num, ⟨true, rfl, DV.out⟩, by simp; omega, HB9.out, HQ9.out⟩
                  case measure => simp [intOf]; omega
          · obtain rfl : j = 4 := by omega
            have SU : Hid (cv = true ↔ SomeUp l (k + 1)) := by show _ ↔ _; rw [someUp_next]; exact CV.out
            go_wp2_with fail
            go_roundw
            case rel => exact ⟨k + 1, by omega, by go_num, by rw [PE.out], ⟨cv, rfl, SU.out⟩, hsz, HB.out, HQ.out⟩
            case measure => simp [intOf]; omega
      · obtain rfl : k = l.length := by omega
        have m3 := M3.out rfl
        have t1 : (1 : Int) ≤ (N : Int) := by omega
        have t2 : (N : Int) ≤ (p : Int) := by omega
        have t3 : decide ((1 : Int) < (N : Int)) = bv := by
          have h1 := BV.out
          have h2 := MS.out
          cases bv
          · exact decide_eq_false fun h => by have := h1.2 (h2.2 (by omega)); simp at this
          · exact decide_eq_true (by have := h2.1 (h1.1 rfl); omega)
        have T3 := Lib.hid t3
        cases bv
        · have t4 : ¬ (1 : Int) < (N : Int) := of_decide_eq_false t3
          clear t3
          go_wp2_with fail
          go_ret
          exact ⟨rfl, HB.out⟩
        · have t4 : (1 : Int) < (N : Int) := of_decide_eq_true t3
          clear t3
          go_wp2_with fail
          go_ret
          exact ⟨rfl, HB.out⟩
  · have e1 : manyOut l = -1 := if_neg hv
    rw [e1]
    clear hv e1
    go_wp2_with fail
    go_ret
    exact ⟨rfl, B.out⟩
end Go.Proofs.Ytcjcgbimilglaaa
namespace Go.Proofs.Ytcjcgbimilglaaa.fnSettingMany
open Go.ChangeShapes Go.WideShapes Go.ChangeAt Go.RowKit
set_option linter.unusedVariables false

theorem own : ownKnob Try.prog.godebug = none := by kernel_rfl
theorem laidOut : laidOutB Try.prog = true := fact_laid
set_option maxRecDepth 100000 in
theorem lifted (os : Os) (started : os.Started) (H : Type) (enc : TypeId × Value → H) :
    ReturnsInHanded {} Try.checked os 6 .any (Rows.fnSettingManySpec.pre6 enc Try.prog Try.f6 Rows.fnSettingManyRow.domain false) (Rows.fnSettingManySpec.post enc Try.prog Try.f6 false true false false) := by
  refine returnsInHanded_of_change (C := Try.checked) own started (by kernel_rfl) Try.func6
    (ChangeSpec.witness6 (enc := enc) (C := Try.checked) false ⟨#[], #[.slice none 0 0], []⟩ 8 (by kernel_rfl) (by kernel_rfl) (by kernel_rfl) (by kernel_rfl)) ?_
  intro W base args ds gs before hval0 hW hcnd _
  have hval : ∀ (j : Nat) t v, Try.f6.params[j]? = some t → args[j]? = some v → Value.okWide Try.prog W .any base t v := hval0
  have hW' := hW
  obtain ⟨p, q, hA0, hV, rfl, hfz, hnd⟩ := hW
  have hA : DataW.TrodAll enc Try.prog W 0 (fun _ => true) true Try.f6.params.toList args.toList ds p := hA0
  rw [Try.params6] at hA hval
  obtain ⟨v0, vs0, d0, ds0, p0, q0, hargs, rfl, rfl, h0, r0⟩ := trodAll_cons hA
  obtain ⟨rfl, rfl, rfl⟩ := trodAll_nil r0
  obtain rfl : args = #[v0] := by cases args; simp_all
  obtain ⟨rfl, rfl⟩ := trodVars_none hV
  obtain ⟨a0, len0, cap0, rfl⟩ := okWide_slice Try.underlying29 (hval 0 29 v0 rfl rfl)
  have k0 := h0
  have lt0 : ∀ x ∈ p0, x.block < W.heap.size := by obtain ⟨m, hm⟩ := k0; exact DataW.trod_lt m _ _ _ hm
  obtain ⟨z0, w0⟩ : ∃ zs, Bytes W (.slice a0 len0 cap0) zs := bytes_opened h0
  clear hA0 hval0
  refine (FnSettingMany_walk _ z0 W w0).mono fun e W' ⟨he, bel⟩ => ?_
  subst he
  exact ⟨_, rfl, _, _, _, [], _, [], hW', trodAll_mk1 (shut_bool Try.underlying4 _), (trodAll_cons_mk (Below.trod laidOut (by kernel_rfl) (of_decide_eq_true (by kernel_rfl)) k0 bel lt0) trodAll_mk0), rfl, bel.frame _, fun h => by cases h⟩
theorem fact_inPlace : (Rows.fnSettingManyRow.inPlace == Try.prog.inPlace 6) = true := by kernel_rfl
theorem fact_unfollowed : (Rows.fnSettingManyRow.unfollowed == Try.prog.unfollowed 6) = true := by kernel_rfl
theorem fact_recurses : (Rows.fnSettingManyRow.recurses == Try.prog.recurses 6) = true := by kernel_rfl
theorem fact_named : (Rows.fnSettingManyRow.named == Try.prog.varsNamed 6) = true := by kernel_rfl
theorem fact_plain : (Rows.fnSettingManyRow.plainKeys == Try.prog.plainKeys) = true := by kernel_rfl
theorem joined : joinedFacts Try.pinned.checked.prog 6 Try.f6 Rows.fnSettingManySpec Rows.fnSettingManyRow = true :=
  joined_of (f := 6) (fn := Try.f6) (s := Rows.fnSettingManySpec) (c := Rows.fnSettingManyRow) (by kernel_rfl) (by kernel_rfl) (by kernel_rfl) (by kernel_rfl) (by kernel_rfl) fact_inPlace fact_unfollowed fact_recurses fact_named (by kernel_rfl) (by kernel_rfl) (by kernel_rfl) (by kernel_rfl) (by kernel_rfl) (by kernel_rfl) (by kernel_rfl) (by kernel_rfl) (by kernel_rfl) fact_plain (by kernel_rfl) rfl rfl (by kernel_rfl) (by kernel_rfl) (by kernel_rfl) (by kernel_rfl)

/-- the statement -/
theorem proved : Rows.FnSettingManySaid :=
  OpenClaim.holds_of_wide 6 Try.f6 rfl rfl rfl rfl rfl rfl rfl ⟨rfl, rfl, rfl, rfl, rfl⟩ rfl rfl rfl rfl rfl (by kernel_rfl) Try.func6 joined
    (of_decide_eq_true (by kernel_rfl)) (by unfold Func.isWrapper; first | (rw [if_pos (by decide +kernel)]; kernel_rfl) | (rw [if_neg (by decide +kernel)]; exact ⟨rfl, rfl⟩))
    (fun os started H enc _ => lifted os started H enc)
#print axioms proved
end Go.Proofs.Ytcjcgbimilglaaa.fnSettingMany
