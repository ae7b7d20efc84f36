/-
  FnSettingCount: for all arguments the law returns true and leaves what was there as it was. No condition.
-/
import Derived.Test.YtcjcgbimilglaaaLawKit
import Derived.Test.YtcjcgbimilglaaaBytes
import Derived.Test.YtcjcgbimilglaaaFacts
import Derived.ProofKit
import Derived.OpenShut
import Derived.ShutString
import Derived.ChangeOld
import Derived.Below
import Derived.Test.YtcjcgbimilglaaaFacts
import Derived.ProofKit
import Derived.OpenShut
import Derived.ShutString
import Derived.ChangeOld
import Derived.Below
namespace Go.Proofs.Ytcjcgbimilglaaa
open Go.RowKit Go.Deep

theorem digs_get : ∀ n m X, m < n → (digs n X)[m]?.getD 0 = ((X / 5 ^ m % 5 : Nat) : Int) - 1 := by
  intro n
  induction n with
  | zero => intro m X h; omega
  | succ n ih =>
    intro m X h
    rw [digs]
    cases m with
    | zero => simp
    | succ m =>
      rw [List.getElem?_cons_succ, ih m (X / 5) (by omega), Nat.div_div_eq_div_mul, ← Nat.pow_succ']
theorem cntUp_le (p : Nat → Prop) [DecidablePred p] : ∀ m, cntUp p m ≤ m := by
  intro m
  induction m with
  | zero => exact Nat.le_refl _
  | succ m ih => rw [cntUp]; split <;> omega
set_option maxHeartbeats 4000000 in
set_option maxRecDepth 100000 in
theorem FnSettingCount_walk (v : Value) (n : Nat) (w : World) (h : Bytes w v n) :
    Calls Try.prog 5 #[v] w fun e w' => e = .returned (.bool true) ∧ Below w.heap.size w w' := by
  have CD := Lib.hid (DrawSettingMany_any v n w h)
  obtain ⟨a, cap, rfl, h1, h2, h3⟩ := h
  clear h3
  by_cases hbig : 1048576 < n
  · have hb' : (1048576 : Int) < (n : Int) := by omega
    go_enter Try.func5, Try.ntmps5
    go_wp2
    go_ret
    exact ⟨rfl, Below.refl _ _⟩
  have hb' : ¬ (1048576 : Int) < (n : Int) := by omega
  clear hbig
  go_enter Try.func5, Try.ntmps5
  go_wp2_with fail
  refine CD.out.mono ?_
  rintro e w1 ⟨vl, l, rfl, hA, hl7, hb1⟩
  have s1 := hb1.size
  obtain ⟨la, lc, rfl, q1, q2, q3⟩ := id hA
  clear q3 CD
  have H := Lib.hid hA.quadsB
  have B := Lib.hid hb1
  clear hA hb1
  go_wp2_with fail
  refine (SettingMany_any _ l w1 (H.out.quads (Nat.le_refl _))).mono ?_
  rintro e w2 ⟨rfl, hb2⟩
  have s2 := hb2.size
  replace B := Lib.hid (B.out.trans (hb2.mono (by omega)))
  replace H := Lib.hid (H.out.below hb2 (Nat.le_refl _))
  clear hb2
  go_wp2_with fail
  refine (specSettingMany_any _ l w2 (H.out.quads s2)).mono ?_
  rintro e w3 ⟨rfl, hb3⟩
  have s3 := hb3.size
  replace B := Lib.hid (B.out.trans (hb3.mono (by omega)))
  replace H := Lib.hid (H.out.below hb3 (by omega))
  clear hb3
  by_cases hv : ValidL l
  · have HV := Lib.hid hv
    have hl6 := hv.1
    have e1 : manyOut l = ((manyAll l : Nat) : Int) := if_pos hv
    rw [e1]
    have m1 := (many_bounds l l.length 0 (mPts l)).1
    have m2 := (many_bounds l l.length 0 (mPts l)).2
    have CA := Lib.hid (count_all l)
    obtain ⟨N, hN⟩ : ∃ N, N = manyAll l := ⟨_, rfl⟩
    have m1' : 1 ≤ N := by rw [hN]; exact m1
    have m2' : N ≤ 5 ^ l.length := by rw [hN]; exact m2
    rw [← hN] at CA ⊢
    have hN3 : N ≤ 15625 := Nat.le_trans m2' (pow_small hl6)
    have hne : ((N : Int) != (N : Int)) = false := by simp
    clear hv e1 hN m1 m2 m2'
    by_cases hbig3 : 3 < l.length
    · have hb3' : (3 : Int) < (l.length : Int) := by omega
      have t1 : (1 : Int) ≤ (N : Int) := by omega
      go_wp2_with fail
      go_ret
      exact ⟨rfl, B.out⟩
    · have hb3' : ¬ (3 : Int) < (l.length : Int) := by omega
      have hl3 : l.length ≤ 3 := by omega
      clear hbig3
      go_wp2_with fail
      go_loop [7, 8] (fun p i => ∃ k : Nat, k ≤ l.length ∧ i = .int .i64 k ∧ p = .int .i64 ((5 ^ k : Nat) : Int)) (fun _ i => l.length - (intOf i).toNat)
      case atStart => exact ⟨0, Nat.zero_le _, rfl, rfl⟩
      case round =>
        obtain ⟨k, hk, rfl, rfl⟩ := hrel
        have hp6 := pow_le6 (k := k) (by omega)
        have PE : Hid (((5 ^ (k + 1) : Nat) : Int) = 5 * ((5 ^ k : Nat) : Int)) := by show _ = _; rw [Nat.pow_succ]; omega
        have PL : Hid (k = l.length → 5 ^ k = 5 ^ l.length) := fun e => by rw [e]
        obtain ⟨p, hp⟩ : ∃ p, p = 5 ^ k := ⟨_, rfl⟩
        rw [← hp] at hp6 PE PL ⊢
        have hp1 := hp6.1
        have hp2 := hp6.2
        clear hp hp6
        by_cases hlt : k < l.length
        · have hlt' : (k : Int) < (l.length : Int) := by omega
          have e5 := IntWalk.i64_in (5 * (p : Int)) (by omega)
          go_wp2_with fail
          go_round
          case rel => exact ⟨k + 1, by omega, by go_num, by rw [PE.out]⟩
          case measure => simp [intOf]; omega
        · obtain rfl : k = l.length := by omega
          have PV : Hid (p = 5 ^ l.length) := PL.out rfl
          clear PL PE
          go_wp2_with fail
          go_loopw [9, 10, 11, 12, 13] (fun m x _ _ _ wr => ∃ X : Nat, X ≤ p ∧ x = .int .i64 X ∧ m = .int .i64 ((cntUp (fun x => OkUp l (digs l.length x) l.length) X : Nat) : Int) ∧ w3.heap.size ≤ wr.heap.size ∧ Below w.heap.size w wr ∧ QuadsB w1.heap.size wr (.slice la l.length lc) l) (fun _ x _ _ _ _ => p - (intOf x).toNat)
          case atStart => exact ⟨0, Nat.zero_le _, rfl, rfl, Nat.le_refl _, B.out, H.out⟩
          case round =>
            clear B H
            obtain ⟨X, hX, rfl, rfl, hsz, hbel, hq⟩ := hrel
            have HB := Lib.hid hbel
            have HQ := Lib.hid hq
            have hcu := cntUp_le (fun x => OkUp l (digs l.length x) l.length) X
            have CU : Hid (cntUp (fun x => OkUp l (digs l.length x) l.length) (X + 1) = cntUp (fun x => OkUp l (digs l.length x) l.length) X + if OkUp l (digs l.length X) l.length then 1 else 0) := rfl
            have CF : Hid (X = p → cntUp (fun x => OkUp l (digs l.length x) l.length) X = N) := fun e => by rw [e, PV.out]; exact CA.out
            obtain ⟨C, hC⟩ : ∃ C, C = cntUp (fun x => OkUp l (digs l.length x) l.length) X := ⟨_, rfl⟩
            rw [← hC] at hcu CU CF ⊢
            clear hbel hq hC
            by_cases hXp : X < p
            · have hXp' : (X : Int) < (p : Int) := by omega
              go_wp2_with fail
              obtain ⟨wo, hwo⟩ : ∃ wo : World, wo = wr := ⟨_, rfl⟩
              have so : w3.heap.size ≤ wo.heap.size := by rw [hwo]; exact hsz
              rw [← hwo]
              have HBo : Hid (Below w.heap.size w wo) := by rw [hwo]; exact HB.out
              have HQo : Hid (QuadsB w1.heap.size wo (.slice la l.length lc) l) := by rw [hwo]; exact HQ.out
              clear hwo HB HQ hsz
              clear wr
              go_loopw [11, 12, 13] (fun s r i wr => ∃ m : Nat, m ≤ l.length ∧ i = .int .i64 m ∧ r = .int .i64 ((X / 5 ^ m : Nat) : Int) ∧ wr.ownsRow wo.heap.size 3 1 s ((digs l.length X).take m).length (((digs l.length X).take m).map (Value.int .i64)) ∧ Below wo.heap.size wo wr) (fun _ _ i _ => l.length - (intOf i).toNat)
              case atStart => exact ⟨0, Nat.zero_le _, rfl, by simp, by simpa using (World.ownsRow_made (base := wo.heap.size) (e := 3) (size := 1) wo #[] 0 (Nat.le_refl _) (by decide) rfl), (Below.refl _ _).alloc (Nat.le_refl _) _⟩
              case round =>
                obtain ⟨m, hm, rfl, rfl, hown, hbel⟩ := hrel
                have hsr := hbel.size
                have RE : Hid (((X / 5 ^ (m + 1) : Nat) : Int) = ((X / 5 ^ m / 5 : Nat) : Int)) := by show _ = _; rw [Nat.div_div_eq_div_mul, ← Nat.pow_succ]
                have DG := Lib.hid (digs_get l.length m X)
                have hrb : X / 5 ^ m ≤ X := Nat.div_le_self _ _
                obtain ⟨r, hr⟩ : ∃ r, r = X / 5 ^ m := ⟨_, rfl⟩
                rw [← hr] at RE DG hrb ⊢
                clear hr
                by_cases hml : m < l.length
                · have hml' : (m : Int) < (l.length : Int) := by omega
                  have E : Hid ((digs l.length X).take (m + 1) = (digs l.length X).take m ++ [(r : Int) % 5 - 1]) := by
                    show _ = _
                    rw [take_one (by rw [digs_length]; exact hml), DG.out hml]
                    simp
                  have hfl : ((digs l.length X).take m).length ≤ 1099511627776 := by rw [List.length_take]; omega
                  obtain ⟨Y, hY⟩ : ∃ Y, Y = (digs l.length X).take m := ⟨_, rfl⟩
                  rw [← hY] at hown hfl E
                  have r0 : (0 : Int) ≤ (r : Int) := by omega
                  have r1 : (r : Int) ≤ 1000000 := by omega
                  clear hY
                  go_wp2_with (at_builtin; refine app_int wo wr rfl _ _ rfl wo.heap.size _ Y _ hown rfl rfl hfl hsr hbel ?_; intro v' w4 hown1 hbel1)
                  go_roundw
                  case rel => exact ⟨m + 1, by omega, by go_num, by rw [RE.out]; simp, by rw [E.out]; exact hown1, hbel1⟩
                  case measure => simp [intOf]; omega
                · obtain rfl : m = l.length := by omega
                  rw [show (digs l.length X).take l.length = digs l.length X from List.take_of_length_le (by rw [digs_length]; exact Nat.le_refl _)] at hown
                  have hO := own_of_ownsRow hown (Nat.le_refl _)
                  have HI := Lib.hid hO.ints
                  have HB9 := Lib.hid (HBo.out.trans (hbel.mono (by have := HBo.out.size; omega)))
                  have HQ9 := Lib.hid (HQo.out.below hbel (by omega))
                  have s9 : w3.heap.size ≤ wr.heap.size := by omega
                  clear hown hbel hO
                  go_wp2_with fail
                  refine (SettingValid_any _ _ l (digs l.length X) _ (HQ9.out.quads (by omega)) HI.out).mono ?_
                  rintro e w5 ⟨rfl, hb5⟩
                  have s5 := hb5.size
                  have HB5 := Lib.hid (HB9.out.trans (hb5.mono (by have := HB9.out.size; omega)))
                  have HQ5 := Lib.hid (HQ9.out.below hb5 (by omega))
                  clear hb5
                  by_cases hok : SetOk l (digs l.length X)
                  · rw [decide_eq_true hok]
                    have CE : Hid (cntUp (fun x => OkUp l (digs l.length x) l.length) (X + 1) = C + 1) := by show _ = _; rw [CU.out, if_pos hok.2.2]
                    clear hok
                    go_wp2_with fail
                    go_roundw
                    case rel => exact ⟨X + 1, by omega, by go_num, by rw [CE.out]; go_num, by omega, HB5.out, HQ5.out⟩
                    case measure => simp [intOf]; omega
                  · rw [decide_eq_false hok]
                    have CE : Hid (cntUp (fun x => OkUp l (digs l.length x) l.length) (X + 1) = C) := by show _ = _; rw [CU.out, if_neg (fun h => hok ⟨HV.out, by rw [digs_length], h⟩)]; rfl
                    clear hok
                    go_wp2_with fail
                    go_roundw
                    case rel => exact ⟨X + 1, by omega, by go_num, by rw [CE.out], by omega, HB5.out, HQ5.out⟩
                    case measure => simp [intOf]; omega
            · have e : C = N := CF.out (by omega)
              subst e
              go_wp2_with fail
              go_ret
              exact ⟨ret_bool (by simp), HB.out⟩
  · have e1 : manyOut l = -1 := if_neg hv
    rw [e1]
    clear hv e1
    go_wp2_with fail
    go_ret
    exact ⟨rfl, B.out⟩
end Go.Proofs.Ytcjcgbimilglaaa
namespace Go.Proofs.Ytcjcgbimilglaaa.fnSettingCount
open Go.ChangeShapes Go.WideShapes Go.ChangeAt Go.RowKit
set_option linter.unusedVariables false

theorem own : ownKnob Try.prog.godebug = none := by kernel_rfl
theorem laidOut : laidOutB Try.prog = true := fact_laid
set_option maxRecDepth 100000 in
theorem lifted (os : Os) (started : os.Started) (H : Type) (enc : TypeId × Value → H) :
    ReturnsInHanded {} Try.checked os 5 .any (Rows.fnSettingCountSpec.pre6 enc Try.prog Try.f5 Rows.fnSettingCountRow.domain false) (Rows.fnSettingCountSpec.post enc Try.prog Try.f5 false true false false) := by
  refine returnsInHanded_of_change (C := Try.checked) own started (by kernel_rfl) Try.func5
    (ChangeSpec.witness6 (enc := enc) (C := Try.checked) false ⟨#[], #[.slice none 0 0], []⟩ 8 (by kernel_rfl) (by kernel_rfl) (by kernel_rfl) (by kernel_rfl)) ?_
  intro W base args ds gs before hval0 hW hcnd _
  have hval : ∀ (j : Nat) t v, Try.f5.params[j]? = some t → args[j]? = some v → Value.okWide Try.prog W .any base t v := hval0
  have hW' := hW
  obtain ⟨p, q, hA0, hV, rfl, hfz, hnd⟩ := hW
  have hA : DataW.TrodAll enc Try.prog W 0 (fun _ => true) true Try.f5.params.toList args.toList ds p := hA0
  rw [Try.params5] at hA hval
  obtain ⟨v0, vs0, d0, ds0, p0, q0, hargs, rfl, rfl, h0, r0⟩ := trodAll_cons hA
  obtain ⟨rfl, rfl, rfl⟩ := trodAll_nil r0
  obtain rfl : args = #[v0] := by cases args; simp_all
  obtain ⟨rfl, rfl⟩ := trodVars_none hV
  obtain ⟨a0, len0, cap0, rfl⟩ := okWide_slice Try.underlying29 (hval 0 29 v0 rfl rfl)
  have k0 := h0
  have lt0 : ∀ x ∈ p0, x.block < W.heap.size := by obtain ⟨m, hm⟩ := k0; exact DataW.trod_lt m _ _ _ hm
  obtain ⟨z0, w0⟩ : ∃ zs, Bytes W (.slice a0 len0 cap0) zs := bytes_opened h0
  clear hA0 hval0
  refine (FnSettingCount_walk _ z0 W w0).mono fun e W' ⟨he, bel⟩ => ?_
  subst he
  exact ⟨_, rfl, _, _, _, [], _, [], hW', trodAll_mk1 (shut_bool Try.underlying4 _), (trodAll_cons_mk (Below.trod laidOut (by kernel_rfl) (of_decide_eq_true (by kernel_rfl)) k0 bel lt0) trodAll_mk0), rfl, bel.frame _, fun h => by cases h⟩
theorem fact_inPlace : (Rows.fnSettingCountRow.inPlace == Try.prog.inPlace 5) = true := by kernel_rfl
theorem fact_unfollowed : (Rows.fnSettingCountRow.unfollowed == Try.prog.unfollowed 5) = true := by kernel_rfl
theorem fact_recurses : (Rows.fnSettingCountRow.recurses == Try.prog.recurses 5) = true := by kernel_rfl
theorem fact_named : (Rows.fnSettingCountRow.named == Try.prog.varsNamed 5) = true := by kernel_rfl
theorem fact_plain : (Rows.fnSettingCountRow.plainKeys == Try.prog.plainKeys) = true := by kernel_rfl
theorem joined : joinedFacts Try.pinned.checked.prog 5 Try.f5 Rows.fnSettingCountSpec Rows.fnSettingCountRow = true :=
  joined_of (f := 5) (fn := Try.f5) (s := Rows.fnSettingCountSpec) (c := Rows.fnSettingCountRow) (by kernel_rfl) (by kernel_rfl) (by kernel_rfl) (by kernel_rfl) (by kernel_rfl) fact_inPlace fact_unfollowed fact_recurses fact_named (by kernel_rfl) (by kernel_rfl) (by kernel_rfl) (by kernel_rfl) (by kernel_rfl) (by kernel_rfl) (by kernel_rfl) (by kernel_rfl) (by kernel_rfl) fact_plain (by kernel_rfl) rfl rfl (by kernel_rfl) (by kernel_rfl) (by kernel_rfl) (by kernel_rfl)

/-- the statement -/
theorem proved : Rows.FnSettingCountSaid :=
  OpenClaim.holds_of_wide 5 Try.f5 rfl rfl rfl rfl rfl rfl rfl ⟨rfl, rfl, rfl, rfl, rfl⟩ rfl rfl rfl rfl rfl (by kernel_rfl) Try.func5 joined
    (of_decide_eq_true (by kernel_rfl)) (by unfold Func.isWrapper; first | (rw [if_pos (by decide +kernel)]; kernel_rfl) | (rw [if_neg (by decide +kernel)]; exact ⟨rfl, rfl⟩))
    (fun os started H enc _ => lifted os started H enc)
#print axioms proved
end Go.Proofs.Ytcjcgbimilglaaa.fnSettingCount
