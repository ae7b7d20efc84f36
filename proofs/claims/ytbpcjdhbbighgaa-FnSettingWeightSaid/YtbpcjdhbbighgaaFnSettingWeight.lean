/-
  FnSettingWeight: for all arguments the law returns true and leaves what was there as it was. No condition.
-/
import Derived.Test.YtbpcjdhbbighgaaLawKit2
import Derived.Test.YtbpcjdhbbighgaaSettingD
import Derived.Test.YtbpcjdhbbighgaaBestI
import Derived.Test.YtbpcjdhbbighgaaL8
import Derived.Test.YtbpcjdhbbighgaaBoardOf
import Derived.Test.YtbpcjdhbbighgaaLawKit
import Derived.Test.YtbpcjdhbbighgaaBytes
import Derived.Test.YtbpcjdhbbighgaaFacts
import Derived.ProofKit
import Derived.OpenShut
import Derived.ShutString
import Derived.ChangeOld
import Derived.Below
import Derived.Deep.RegionHeld3
import Derived.Test.YtbpcjdhbbighgaaFacts
import Derived.ProofKit
import Derived.OpenShut
import Derived.ShutString
import Derived.ChangeOld
import Derived.Below
namespace Go.Proofs.Ytbpcjdhbbighgaa
open Go.RowKit Go.Deep

theorem weight_le_best {l : List Quad} {s : List Int} (h : SetOk l s) : weightAll l s ≤ weightAll l (bestOut l) := by
  have e : bestOut l = bestAll (wtB true) l := if_pos h.1
  have B1 := bestAll_ok (wtB true) l
  have S1 : SetOk l (bestOut l) := by rw [e]; exact ⟨h.1, B1.1, B1.2.1⟩
  rw [weightAll, weightAll, if_pos h, if_pos S1, e]
  have h1 := bstAll_le (wtB true) h.2.1 h.2.2
  rw [← B1.2.2] at h1
  exact h1
theorem weight_out {l : List Quad} {s : List Int} (h : SetOk l s) {i : Nat} (hi : i < l.length) (hn : s[i]?.getD 0 ≠ -1) : weightAll l (s.set i (-1)) = weightAll l s - (l[i]?.getD q0).2.2.2 := by
  have hs : i < s.length := by rw [h.2.1]; exact hi
  rw [weightAll, weightAll, if_pos h, if_pos (setOk_out i h hs)]
  have := weightUp_set (wt := fun q => q.2.2.2) (l := l) (a := -1) hs l.length hi
  rw [if_neg hn, if_pos rfl] at this
  show weightUp _ _ _ _ = weightUp _ _ _ _ - _
  omega
theorem sum_next (l : List Quad) (k : Nat) : sumW l [] (k + 1) = sumW l [] k + (l[k]?.getD q0).2.2.2 := by
  show weightUp _ _ _ _ = weightUp _ _ _ _ + _
  rw [weightUp, if_neg (by simp)]
theorem weight_le_sum {l : List Quad} {s : List Int} (h : SetOk l s) : weightAll l s ≤ sumW l [] l.length ∧ 0 ≤ weightAll l s ∧ weightAll l s ≤ 54 := by
  rw [weightAll, if_pos h]
  have := weightUp_sum_le (wt := fun q => q.2.2.2) (l := l) (s := s) (fun i hi => by have := (h.1.2 i hi).1.2.2.2.2.2.2.1; omega) l.length (Nat.le_refl _)
  have b := sumW_bound h.1 s l.length (Nat.le_refl _)
  have h6 := h.1.1
  exact ⟨this.2, b.1, by omega⟩
set_option maxHeartbeats 4000000 in
set_option maxRecDepth 100000 in
theorem FnSettingWeight_walk (v : Value) (n : Nat) (w : World) (h : Bytes w v n) :
    Calls Try.prog 8 #[v] w fun e w' => e = .returned (.bool true) ∧ Below w.heap.size w w' := by
  have CD := Lib.hid (DrawSettingWeight_any v n w h)
  obtain ⟨a, cap, rfl, h1, h2, h3⟩ := h
  clear h3
  by_cases hbig : 1048576 < n
  · have hb' : (1048576 : Int) < (n : Int) := by omega
    go_enter Try.func8, Try.ntmps8
    go_wp2
    go_ret
    exact ⟨rfl, Below.refl _ _⟩
  have hb' : ¬ (1048576 : Int) < (n : Int) := by omega
  clear hbig
  go_enter Try.func8, Try.ntmps8
  go_wp2_with fail
  refine CD.out.mono ?_
  rintro e w1 ⟨vl, l, vs, s, rfl, hA, hS, hsl, hl7, hb1⟩
  have s1 := hb1.size
  obtain ⟨la, lc, rfl, q1, q2, q3⟩ := id hA
  obtain ⟨sa, sc, rfl, q4, q5, q6⟩ := id hS
  clear q3 q6 CD
  have H := Lib.hid hA.quadsB
  have U := Lib.hid hS.intsB
  have SL := Lib.hid hsl
  have B := Lib.hid hb1
  clear hA hS hb1 hsl
  obtain ⟨N, hN⟩ : ∃ N, N = weightAll l s := ⟨_, rfl⟩
  have hne : (N != N) = false := by simp
  go_wp2_with fail
  refine (SettingWeight_any _ _ l s w1 (H.out.quads (by omega)) (U.out.ints (by omega))).mono ?_
  rintro e w2 ⟨rfl, hb2⟩
  have s2 := hb2.size
  replace H := Lib.hid (H.out.below hb2 (by omega))
  replace U := Lib.hid (U.out.below hb2 (by omega))
  replace B := Lib.hid (B.out.trans (hb2.mono (by omega)))
  clear hb2
  rw [← hN]
  go_wp2_with fail
  refine (specSettingWeight_any _ _ l s w2 (H.out.quads (by omega)) (U.out.ints (by omega))).mono ?_
  rintro e w3 ⟨rfl, hb3⟩
  have s3 := hb3.size
  replace H := Lib.hid (H.out.below hb3 (by omega))
  replace U := Lib.hid (U.out.below hb3 (by omega))
  replace B := Lib.hid (B.out.trans (hb3.mono (by omega)))
  clear hb3
  rw [← hN]
  by_cases hs : SetOk l s
  · have HS := Lib.hid hs
    have W1 := Lib.hid (weight_le_best hs)
    have W2 := weight_le_sum hs
    have W3 : Hid (∀ i, i < l.length → s[i]?.getD 0 ≠ -1 → weightAll l (s.set i (-1)) = N - (l[i]?.getD q0).2.2.2) := fun i hi hn => by rw [hN]; exact weight_out hs hi hn
    rw [← hN] at W1 W2
    have W4 := Lib.hid W2.1
    have n0 := W2.2.1
    have n54 := W2.2.2
    have hl6 := hs.1.1
    have HN := Lib.hid hN
    clear hs hN W2
    go_wp2_with fail
    refine (SettingBest_any _ l w3 (H.out.quads (by omega))).mono ?_
    rintro e w4 ⟨vb, rfl, hO, hb4⟩
    have s4 := hb4.size
    replace H := Lib.hid (H.out.below hb4 (by omega))
    replace U := Lib.hid (U.out.below hb4 (by omega))
    replace B := Lib.hid (B.out.trans (hb4.mono (by omega)))
    have O := Lib.hid hO
    clear hO hb4
    rw [decide_eq_true HS.out.1]
    have OI := Lib.hid O.out.ints
    have zW : w1.heap.size ≤ w4.heap.size := by omega
    have UI := Lib.hid (U.out.ints zW)
    have slen : s.length ≤ 1000 := by have := SL.out; omega
    go_wp2_with fail
    go_loopw [9, 10] (fun x i wr => ∃ k : Nat, k ≤ l.length ∧ i = .int .i64 k ∧ x = .int .i64 (sumW l [] k) ∧ Below w4.heap.size w4 wr) (fun _ i _ => l.length - (intOf i).toNat)
    case atStart => exact ⟨0, Nat.zero_le _, rfl, rfl, Below.refl _ _⟩
    case round =>
      obtain ⟨k, hk, rfl, rfl, hbel⟩ := hrel
      have HB := Lib.hid hbel
      have sr := hbel.size
      have bd := sumW_bound HS.out.1 [] k hk
      have bd1 := bd.1
      have bd2 := bd.2.1
      clear bd
      by_cases hkl : k < l.length
      · have x1 : (k : Int) < (l.length : Int) := by omega
        have x3 : (0 : Int) ≤ (k : Int) := by omega
        have x5 : k < s.length := by rw [SL.out]; exact hkl
        have hI := Lib.hid (UI.out.below hbel (Nat.le_refl _))
        have HH := Lib.hid (H.out.below hbel (by omega))
        obtain ⟨sb, so, hsa, sb1, sc1⟩ := ints_cell hI.out (k := k) x5
        subst hsa
        obtain ⟨_, _, he, _, _, h3⟩ := H.out
        simp only [Value.slice.injEq] at he
        obtain ⟨rfl, _, rfl⟩ := he
        obtain ⟨lb, lo, rfl, hlb, hcell⟩ := h3 (by omega)
        obtain ⟨_, _, _, d3⟩ := (hcell k hkl).below hbel (by omega)
        have sd := ((okUp_iff l s _).1 HS.out.2.2 k hkl).side
        have wd := (HS.out.1.2 k hkl).1.2.2.2.2.2.2
        have N1 := Lib.hid (sum_next l k)
        have WK := Lib.hid (W3.out k hkl)
        obtain ⟨z, hz⟩ : ∃ z, z = s[k]?.getD 0 := ⟨_, rfl⟩
        obtain ⟨c, hc⟩ : ∃ c, c = sumW l [] k := ⟨_, rfl⟩
        obtain ⟨g, hg⟩ : ∃ g, g = (l[k]?.getD q0).2.2.2 := ⟨_, rfl⟩
        rw [← hz] at sc1 sd WK
        rw [← hc] at bd1 bd2 N1 ⊢
        rw [← hg] at d3 wd N1 WK
        have HZ := Lib.hid hz
        have wd1 := wd.1
        have wd2 := wd.2
        have e1 : IntKind.i64.wrap (c + g) = c + g := IntWalk.i64_in _ (by omega)
        have e2 : IntKind.i64.wrap (N - g) = N - g := IntWalk.i64_in _ (by omega)
        have lbr : lb < wr.heap.size := by omega
        clear hz hc hg hcell h3 hbel wd
        go_wp2_with (at_builtin; (refine app_copy wr rfl _ _ rfl _ s hI.out rfl rfl slen ?_); intro v' w6 hown6 hbel6; have s6 := hbel6.size; obtain ⟨xa, xc, hx, hxc⟩ := ints_shape hown6.ints; subst hx; obtain ⟨xb, xo, hxa, y1, y2, c0, f0, hset⟩ := own_at hown6 (k := k) x5; subst hxa; rw [← HZ.out] at c0; have AO := Lib.hid (hset (-1)); have hs6 := hbel6.setCell (p := ⟨xb, xo + k, none⟩) y1 (.int .i64 (-1)); have H6 := Lib.hid (HH.out.below hs6 (by omega)); have HB6 := Lib.hid (HB.out.trans (hs6.mono sr)); have cz := (hs6.cell (p := ⟨sb, so + k, none⟩) sb1).trans sc1; have cg := (hs6.cell (p := ⟨lb, lo + k * 4 + 3, none⟩) lbr).trans d3; clear hown6 hbel6 hset hs6)
        obtain ⟨WX, hWX⟩ : ∃ x, x = w6.setCell ⟨xb, xo + k, none⟩ (.int .i64 (-1)) := ⟨_, rfl⟩
        have zX : w6.heap.size = WX.heap.size := by rw [hWX]; simp
        rw [← hWX] at AO H6 HB6 cz cg ⊢
        clear hWX d3 sc1 c0 f0
        have dr := (Below.refl WX.heap.size WX).drew
        have AD := Lib.hid (AO.out.ints.below dr (Nat.le_refl _))
        have HD := Lib.hid (H6.out.below dr (by omega))
        have k0 : WX.drew.cell? ⟨sb, so + k, none⟩ = some (.int .i64 z) := cz
        have k1 : WX.drew.cell? ⟨lb, lo + k * 4 + 3, none⟩ = some (.int .i64 g) := cg
        have sbX : sb < WX.heap.size := by omega
        have lbX : lb < WX.heap.size := by omega
        rcases sd with hs1 | hs1
        · have t1 : decide ((0 : Int) ≤ z) = false := decide_eq_false (by omega)
          clear hs1 k0 k1 dr
          go_wp2_with fail
          go_quiet (fail)
          have HB7 := Lib.hid (HB6.out.trans ((below_n (Below.refl WX.heap.size WX) nq).mono (by have := HB6.out.size; omega)))
          go_wp2_with fail
          go_roundw
          case rel => exact ⟨k + 1, by omega, by go_num, by rw [N1.out], HB7.out⟩
          case measure => simp [intOf]; omega
        · have t1 : (0 : Int) ≤ z := hs1.1
          have WE := Lib.hid (WK.out (by omega))
          have wne : (N - g != N - g) = false := by simp
          clear hs1 dr cz cg
          go_wp2_with fail
          go_region_held3 (fun w' => w'.cell? ⟨sb, so + k, none⟩ = some (.int .i64 z) ∧ w'.cell? ⟨lb, lo + k * 4 + 3, none⟩ = some (.int .i64 g))
            (first | with_reducible exact ⟨k0, k1⟩ | with_reducible exact ⟨r0, r1⟩ | fail)
            (first | (go_at_call 21; (refine (SettingWeight_any _ _ l (s.set k (-1)) _ (HD.out.quads (by show w1.heap.size ≤ WX.heap.size; omega)) AD.out).mono ?_); rintro e w7 ⟨rfl, hb7⟩; rw [WE.out]; have r0 := (hb7.cell (p := ⟨sb, so + k, none⟩) sbX).trans k0; have r1 := (hb7.cell (p := ⟨lb, lo + k * 4 + 3, none⟩) lbX).trans k1; have HB7 := Lib.hid (HB6.out.trans ((((Below.refl WX.heap.size WX).drew).trans hb7).mono (by have := HB6.out.size; omega))); clear hb7) | fail)
          all_goals
            rename_i hh
            clear hh r0 r1 k0 k1
            go_wp2_with fail
            go_roundw
            case rel => exact ⟨k + 1, by omega, by go_num, by rw [N1.out], HB7.out⟩
            case measure => simp [intOf]; omega
      · obtain rfl : k = l.length := by omega
        have w4 := W4.out
        obtain ⟨c, hc⟩ : ∃ c, c = sumW l [] l.length := ⟨_, rfl⟩
        rw [← hc] at w4 ⊢
        have HH := Lib.hid (H.out.below hbel (by omega))
        have OH := Lib.hid (OI.out.below hbel (Nat.le_refl _))
        replace B := Lib.hid (B.out.trans (HB.out.mono (by omega)))
        clear hc hbel hkl bd1 bd2 W4
        go_wp2_with fail
        refine (SettingWeight_any _ _ l (bestOut l) wr (HH.out.quads (by omega)) OH.out).mono ?_
        rintro e w7 ⟨rfl, hb7⟩
        have w1' := W1.out
        obtain ⟨m, hm⟩ : ∃ x, x = weightAll l (bestOut l) := ⟨_, rfl⟩
        rw [← hm] at w1' ⊢
        replace B := Lib.hid (B.out.trans (hb7.mono (by have := B.out.size; omega)))
        clear hm hb7 W1
        go_wp2
        go_ret
        exact ⟨rfl, B.out⟩
  · obtain rfl : N = -1 := hN.trans (if_neg hs)
    clear hs hN hne
    go_wp2
    go_ret
    exact ⟨rfl, B.out⟩
end Go.Proofs.Ytbpcjdhbbighgaa
namespace Go.Proofs.Ytbpcjdhbbighgaa.fnSettingWeight
open Go.ChangeShapes Go.WideShapes Go.ChangeAt Go.RowKit
set_option linter.unusedVariables false

theorem own : ownKnob Try.prog.godebug = none := by kernel_rfl
theorem laidOut : laidOutB Try.prog = true := fact_laid
set_option maxRecDepth 100000 in
theorem lifted (os : Os) (started : os.Started) (H : Type) (enc : TypeId × Value → H) :
    ReturnsInHanded {} Try.checked os 8 .any (Rows.fnSettingWeightSpec.pre6 enc Try.prog Try.f8 Rows.fnSettingWeightRow.domain false) (Rows.fnSettingWeightSpec.post enc Try.prog Try.f8 false true false false) := by
  refine returnsInHanded_of_change (C := Try.checked) own started (by kernel_rfl) Try.func8
    (ChangeSpec.witness6 (enc := enc) (C := Try.checked) false ⟨#[], #[.slice none 0 0], []⟩ 8 (by kernel_rfl) (by kernel_rfl) (by kernel_rfl) (by kernel_rfl)) ?_
  intro W base args ds gs before hval0 hW hcnd _
  have hval : ∀ (j : Nat) t v, Try.f8.params[j]? = some t → args[j]? = some v → Value.okWide Try.prog W .any base t v := hval0
  have hW' := hW
  obtain ⟨p, q, hA0, hV, rfl, hfz, hnd⟩ := hW
  have hA : DataW.TrodAll enc Try.prog W 0 (fun _ => true) true Try.f8.params.toList args.toList ds p := hA0
  rw [Try.params8] at hA hval
  obtain ⟨v0, vs0, d0, ds0, p0, q0, hargs, rfl, rfl, h0, r0⟩ := trodAll_cons hA
  obtain ⟨rfl, rfl, rfl⟩ := trodAll_nil r0
  obtain rfl : args = #[v0] := by cases args; simp_all
  obtain ⟨rfl, rfl⟩ := trodVars_none hV
  obtain ⟨a0, len0, cap0, rfl⟩ := okWide_slice Try.underlying22 (hval 0 22 v0 rfl rfl)
  have k0 := h0
  have lt0 : ∀ x ∈ p0, x.block < W.heap.size := by obtain ⟨m, hm⟩ := k0; exact DataW.trod_lt m _ _ _ hm
  obtain ⟨z0, w0⟩ : ∃ zs, Bytes W (.slice a0 len0 cap0) zs := bytes_opened h0
  clear hA0 hval0
  refine (FnSettingWeight_walk _ z0 W w0).mono fun e W' ⟨he, bel⟩ => ?_
  subst he
  exact ⟨_, rfl, _, _, _, [], _, [], hW', trodAll_mk1 (shut_bool Try.underlying4 _), (trodAll_cons_mk (Below.trod laidOut (by kernel_rfl) (of_decide_eq_true (by kernel_rfl)) k0 bel lt0) trodAll_mk0), rfl, bel.frame _, fun h => by cases h⟩
theorem fact_inPlace : (Rows.fnSettingWeightRow.inPlace == Try.prog.inPlace 8) = true := by kernel_rfl
theorem fact_unfollowed : (Rows.fnSettingWeightRow.unfollowed == Try.prog.unfollowed 8) = true := by kernel_rfl
theorem fact_recurses : (Rows.fnSettingWeightRow.recurses == Try.prog.recurses 8) = true := by kernel_rfl
theorem fact_named : (Rows.fnSettingWeightRow.named == Try.prog.varsNamed 8) = true := by kernel_rfl
theorem fact_plain : (Rows.fnSettingWeightRow.plainKeys == Try.prog.plainKeys) = true := by kernel_rfl
theorem joined : joinedFacts Try.pinned.checked.prog 8 Try.f8 Rows.fnSettingWeightSpec Rows.fnSettingWeightRow = true :=
  joined_of (f := 8) (fn := Try.f8) (s := Rows.fnSettingWeightSpec) (c := Rows.fnSettingWeightRow) (by kernel_rfl) (by kernel_rfl) (by kernel_rfl) (by kernel_rfl) (by kernel_rfl) fact_inPlace fact_unfollowed fact_recurses fact_named (by kernel_rfl) (by kernel_rfl) (by kernel_rfl) (by kernel_rfl) (by kernel_rfl) (by kernel_rfl) (by kernel_rfl) (by kernel_rfl) (by kernel_rfl) fact_plain (by kernel_rfl) rfl rfl (by kernel_rfl) (by kernel_rfl) (by kernel_rfl) (by kernel_rfl)

/-- the statement -/
theorem proved : Rows.FnSettingWeightSaid :=
  OpenClaim.holds_of_wide 8 Try.f8 rfl rfl rfl rfl rfl rfl rfl ⟨rfl, rfl, rfl, rfl, rfl⟩ rfl rfl rfl rfl rfl (by kernel_rfl) Try.func8 joined
    (of_decide_eq_true (by kernel_rfl)) (by unfold Func.isWrapper; first | (rw [if_pos (by decide +kernel)]; kernel_rfl) | (rw [if_neg (by decide +kernel)]; exact ⟨rfl, rfl⟩))
    (fun os started H enc _ => lifted os started H enc)
#print axioms proved
end Go.Proofs.Ytbpcjdhbbighgaa.fnSettingWeight
