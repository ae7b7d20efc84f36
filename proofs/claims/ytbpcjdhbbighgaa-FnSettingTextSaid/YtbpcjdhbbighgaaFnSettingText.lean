/-
  FnSettingText: for all arguments the law returns true and leaves what was there as it was. No condition.
-/
import Derived.Test.YtbpcjdhbbighgaaLawKit2
import Derived.Test.YtbpcjdhbbighgaaSettingD
import Derived.Test.YtbpcjdhbbighgaaText
import Derived.Test.YtbpcjdhbbighgaaTextI
import Derived.Test.YtbpcjdhbbighgaaBoardOf
import Derived.Test.YtbpcjdhbbighgaaLawKit
import Derived.Test.YtbpcjdhbbighgaaBytes
import Derived.Test.YtbpcjdhbbighgaaFacts
import Derived.ProofKit
import Derived.OpenShut
import Derived.ShutString
import Derived.ChangeOld
import Derived.Below
import Derived.Test.YtbpcjdhbbighgaaFacts
import Derived.ProofKit
import Derived.OpenShut
import Derived.ShutString
import Derived.ChangeOld
import Derived.Below
namespace Go.Proofs.Ytbpcjdhbbighgaa
open Go.RowKit Go.Deep

set_option maxHeartbeats 1000000 in
set_option maxRecDepth 100000 in
theorem countOf_any (t : List UInt8) (c : Nat) (w : World) (ht : t.length ≤ 100000) :
    Calls Try.prog 41 #[.string ⟨t.toArray⟩, .int .u8 (c : Int)] w fun e w' => e = .returned (.int .i64 (cntB c t : Nat)) ∧ w = w' := by
  go_enter Try.func41, Try.ntmps41
  go_wp2_with fail
  go_loop [5, 6] (fun x i => ∃ k : Nat, k ≤ t.length ∧ i = .int .i64 k ∧ x = .int .i64 (cntB c (t.take k) : Nat)) (fun _ i => t.length - (intOf i).toNat)
  case atStart => exact ⟨0, Nat.zero_le _, rfl, by simp [cntB]⟩
  case round =>
    obtain ⟨k, hk, rfl, rfl⟩ := hrel
    have sz : (⟨t.toArray⟩ : ByteArray).size = t.length := by simp [ByteArray.size]
    have bnd : cntB c (t.take k) ≤ k := by
      have := List.countP_le_length (p := fun b : UInt8 => decide (b.toNat = c)) (l := t.take k)
      rw [List.length_take] at this
      unfold cntB
      omega
    by_cases hlt : k < t.length
    · have x1 : (k : Int) < (t.length : Int) := by omega
      have x3 : (0 : Int) ≤ (k : Int) := by omega
      have TK : Hid (cntB c (t.take (k + 1)) = cntB c (t.take k) + if (t[k]).toNat = c then 1 else 0) := by
        show _ = _
        rw [List.take_succ_eq_append_getElem hlt, cntB_app]
        simp [cntB, List.countP_cons]
      have gx : ((⟨t.toArray⟩ : ByteArray)[k]'(by rw [sz]; exact hlt)).toNat = (t[k]).toNat := rfl
      obtain ⟨b, hb⟩ : ∃ b, b = (t[k]).toNat := ⟨_, rfl⟩
      obtain ⟨m, hm⟩ : ∃ m, m = cntB c (t.take k) := ⟨_, rfl⟩
      rw [← hb] at TK gx
      rw [← hm] at TK bnd ⊢
      clear hb hm
      by_cases hbc : b = c
      · have eb : ((b : Int) == (c : Int)) = true := by simp [hbc]
        have M1 : Hid (cntB c (t.take (k + 1)) = m + 1) := by show _ = _; rw [TK.out, if_pos hbc]
        have e1 : IntKind.i64.wrap ((m : Int) + 1) = (m : Int) + 1 := IntWalk.i64_in _ (by omega)
        clear hbc TK
        go_wp2_with fail
        go_round
        case rel => exact ⟨k + 1, by omega, by go_num, by rw [M1.out]; go_num⟩
        case measure => simp [intOf]; omega
      · have eb : ((b : Int) == (c : Int)) = false := by simp; omega
        have M1 : Hid (cntB c (t.take (k + 1)) = m) := by show _ = _; rw [TK.out, if_neg hbc]; omega
        clear hbc TK
        go_wp2_with fail
        go_round
        case rel => exact ⟨k + 1, by omega, by go_num, by rw [M1.out]⟩
        case measure => simp [intOf]; omega
    · obtain rfl : k = t.length := by omega
      rw [List.take_length]
      go_wp2_with fail
      go_ret
      exact ⟨rfl, rfl⟩
theorem wid_bound {l : List Quad} (hl : ValidL l) (s : List Int) : ∀ k, k ≤ l.length → 0 ≤ weightUp (fun q => q.2.2.1) l s k ∧ weightUp (fun q => q.2.2.1) l s k ≤ 5 * (k : Int) := by
  intro k
  induction k with
  | zero => intro _; exact ⟨Int.le_refl _, by simp [weightUp]⟩
  | succ k ih =>
    intro hk
    have h := ih (by omega)
    have g := (hl.2 k (by omega)).1.2.2.2.2
    rw [weightUp]
    split <;> omega
theorem widUp_next (l : List Quad) (s : List Int) (k : Nat) : weightUp (fun q => q.2.2.1) l s (k + 1) = weightUp (fun q => q.2.2.1) l s k + if s[k]?.getD 0 = -1 then 0 else (l[k]?.getD q0).2.2.1 := rfl
set_option maxHeartbeats 4000000 in
set_option maxRecDepth 100000 in
theorem FnSettingText_walk (v : Value) (n : Nat) (w : World) (h : Bytes w v n) :
    Calls Try.prog 9 #[v] w fun e w' => e = .returned (.bool true) ∧ Below w.heap.size w w' := by
  have CD := Lib.hid (DrawSettingText_any v n w h)
  obtain ⟨a, cap, rfl, h1, h2, h3⟩ := h
  clear h3
  by_cases hbig : 1048576 < n
  · have hb' : (1048576 : Int) < (n : Int) := by omega
    go_enter Try.func9, Try.ntmps9
    go_wp2
    go_ret
    exact ⟨rfl, Below.refl _ _⟩
  have hb' : ¬ (1048576 : Int) < (n : Int) := by omega
  clear hbig
  go_enter Try.func9, Try.ntmps9
  go_wp2_with fail
  refine CD.out.mono ?_
  rintro e w1 ⟨vl, l, vs, s, rfl, hA, hS, hsl, hl7, hb1⟩
  have s1 := hb1.size
  obtain ⟨la, lc, rfl, q1, q2, q3⟩ := id hA
  obtain ⟨sa, sc, rfl, q4, q5, q6⟩ := id hS
  clear q3 q6 CD
  have H := Lib.hid hA.quadsB
  have U := Lib.hid hS.intsB
  have SL := Lib.hid hsl
  have B := Lib.hid hb1
  clear hA hS hb1 hsl
  obtain ⟨T, hT⟩ : ∃ T, T = textOf l s := ⟨_, rfl⟩
  go_wp2_with fail
  refine (SettingText_any _ _ l s w1 (H.out.quads (by omega)) (U.out.ints (by omega))).mono ?_
  rintro e w2 ⟨rfl, hb2⟩
  have s2 := hb2.size
  replace H := Lib.hid (H.out.below hb2 (by omega))
  replace U := Lib.hid (U.out.below hb2 (by omega))
  replace B := Lib.hid (B.out.trans (hb2.mono (by omega)))
  clear hb2
  rw [← hT]
  go_wp2_with fail
  refine (specSettingText_any _ _ l s w2 (H.out.quads (by omega)) (U.out.ints (by omega))).mono ?_
  rintro e w3 ⟨rfl, hb3⟩
  have s3 := hb3.size
  replace H := Lib.hid (H.out.below hb3 (by omega))
  replace U := Lib.hid (U.out.below hb3 (by omega))
  replace B := Lib.hid (B.out.trans (hb3.mono (by omega)))
  clear hb3
  rw [← hT]
  by_cases hs : SetOk l s
  · have HS := Lib.hid hs
    obtain ⟨t1, t2, t3, t4⟩ := text_counts hs
    rw [← hT] at t1 t2 t3 t4
    have HT := Lib.hid hT
    have hl6 := hs.1.1
    have C10 := Lib.hid t2
    have C42 := Lib.hid t3
    have C46 := Lib.hid t4
    have sz : (⟨T.toArray⟩ : ByteArray).size = 110 := by simpa [ByteArray.size] using t1
    have te : T.isEmpty = false := by rw [List.isEmpty_eq_false_iff]; intro e; rw [e] at t1; simp at t1
    have T1 := Lib.hid t1
    have zW : w1.heap.size ≤ w3.heap.size := by omega
    clear hs t2 t3 t4 hT
    go_wp2_with fail
    go_loopw [7, 8] (fun x i wr => ∃ k : Nat, k ≤ l.length ∧ i = .int .i64 k ∧ x = .int .i64 (weightUp (fun q => q.2.2.1) l s k) ∧ Below w3.heap.size w3 wr) (fun _ i _ => l.length - (intOf i).toNat)
    case atStart => exact ⟨0, Nat.zero_le _, rfl, rfl, Below.refl _ _⟩
    case round =>
      obtain ⟨k, hk, rfl, rfl, hbel⟩ := hrel
      have HB := Lib.hid hbel
      have sr := hbel.size
      have bd := wid_bound HS.out.1 s k hk
      by_cases hkl : k < l.length
      · have x1 : (k : Int) < (l.length : Int) := by omega
        have x3 : (0 : Int) ≤ (k : Int) := by omega
        have x5 : k < s.length := by rw [SL.out]; exact hkl
        obtain ⟨sb, so, hsa, sb1, sc1⟩ := ints_cell ((U.out.ints zW).below hbel (Nat.le_refl _)) (k := k) x5
        subst hsa
        obtain ⟨_, _, he, _, _, h3⟩ := H.out
        simp only [Value.slice.injEq] at he
        obtain ⟨rfl, _, rfl⟩ := he
        obtain ⟨lb, lo, rfl, hlb, hcell⟩ := h3 (by omega)
        obtain ⟨_, _, d2, _⟩ := (hcell k hkl).below hbel (by omega)
        have sd := ((okUp_iff l s _).1 HS.out.2.2 k hkl).side
        have wd := (HS.out.1.2 k hkl).1.2.2.2.2
        have N1 := Lib.hid (widUp_next l s k)
        obtain ⟨z, hz⟩ : ∃ z, z = s[k]?.getD 0 := ⟨_, rfl⟩
        obtain ⟨c, hc⟩ : ∃ c, c = weightUp (fun q => q.2.2.1) l s k := ⟨_, rfl⟩
        obtain ⟨g, hg⟩ : ∃ g, g = (l[k]?.getD q0).2.2.1 := ⟨_, rfl⟩
        rw [← hz] at sc1 sd N1
        rw [← hc] at bd N1 ⊢
        rw [← hg] at d2 wd N1
        have wd1 := wd.1
        have wd2 := wd.2.1
        have e1 : IntKind.i64.wrap (c + g) = c + g := IntWalk.i64_in _ (by omega)
        clear hz hc hg hcell h3 hbel bd wd
        rcases sd with hs1 | hs1
        · have t1 : ¬ (0 : Int) ≤ z := by omega
          have M1 : Hid (weightUp (fun q => q.2.2.1) l s (k + 1) = c) := by show _ = _; rw [N1.out, if_pos hs1]; omega
          clear hs1
          go_wp2_with fail
          go_roundw
          case rel => exact ⟨k + 1, by omega, by go_num, by rw [M1.out], HB.out⟩
          case measure => simp [intOf]; omega
        · have t1 : (0 : Int) ≤ z := hs1.1
          have M1 : Hid (weightUp (fun q => q.2.2.1) l s (k + 1) = c + g) := by show _ = _; rw [N1.out, if_neg (by omega)]
          clear hs1
          go_wp2_with fail
          go_roundw
          case rel => exact ⟨k + 1, by omega, by go_num, by rw [M1.out], HB.out⟩
          case measure => simp [intOf]; omega
      · obtain rfl : k = l.length := by omega
        have c46 := C46.out
        obtain ⟨wd, hwd⟩ : ∃ x, x = weightUp (fun q => q.2.2.1) l s l.length := ⟨_, rfl⟩
        rw [← hwd] at c46 bd ⊢
        replace B := Lib.hid (B.out.trans (HB.out.mono (by omega)))
        clear hwd hbel hkl C46 H U
        go_wp2_with fail
        refine (countOf_any T 46 wr (by omega)).mono ?_
        rintro e w4 ⟨rfl, rfl⟩
        obtain ⟨f, hf⟩ : ∃ x, x = cntB 46 T := ⟨_, rfl⟩
        rw [← hf] at c46 ⊢
        clear hf
        go_wp2_with fail
        refine (countOf_any T 10 wr (by omega)).mono ?_
        rintro e w4 ⟨rfl, rfl⟩
        rw [C10.out]
        go_wp2_with fail
        refine (countOf_any T 42 wr (by omega)).mono ?_
        rintro e w4 ⟨rfl, rfl⟩
        rw [C42.out]
        have e1 : IntKind.i64.wrap (110 - (f : Int)) = 110 - (f : Int) := IntWalk.i64_in _ (by omega)
        have e2 : IntKind.i64.wrap (110 - (f : Int) - (l.length : Int)) = 110 - (f : Int) - (l.length : Int) := IntWalk.i64_in _ (by omega)
        have e3 : IntKind.i64.wrap (110 - (f : Int) - (l.length : Int) - 10) = wd := by rw [IntWalk.i64_in _ (by omega)]; omega
        clear t1 c46
        go_wp2
        go_ret
        exact ⟨rfl, B.out⟩
  · obtain rfl : T = [] := hT.trans (if_neg hs)
    clear hs hT
    go_wp2
    go_ret
    exact ⟨rfl, B.out⟩
end Go.Proofs.Ytbpcjdhbbighgaa
namespace Go.Proofs.Ytbpcjdhbbighgaa.fnSettingText
open Go.ChangeShapes Go.WideShapes Go.ChangeAt Go.RowKit
set_option linter.unusedVariables false

theorem own : ownKnob Try.prog.godebug = none := by kernel_rfl
theorem laidOut : laidOutB Try.prog = true := fact_laid
set_option maxRecDepth 100000 in
theorem lifted (os : Os) (started : os.Started) (H : Type) (enc : TypeId × Value → H) :
    ReturnsInHanded {} Try.checked os 9 .any (Rows.fnSettingTextSpec.pre6 enc Try.prog Try.f9 Rows.fnSettingTextRow.domain false) (Rows.fnSettingTextSpec.post enc Try.prog Try.f9 false true false false) := by
  refine returnsInHanded_of_change (C := Try.checked) own started (by kernel_rfl) Try.func9
    (ChangeSpec.witness6 (enc := enc) (C := Try.checked) false ⟨#[], #[.slice none 0 0], []⟩ 8 (by kernel_rfl) (by kernel_rfl) (by kernel_rfl) (by kernel_rfl)) ?_
  intro W base args ds gs before hval0 hW hcnd _
  have hval : ∀ (j : Nat) t v, Try.f9.params[j]? = some t → args[j]? = some v → Value.okWide Try.prog W .any base t v := hval0
  have hW' := hW
  obtain ⟨p, q, hA0, hV, rfl, hfz, hnd⟩ := hW
  have hA : DataW.TrodAll enc Try.prog W 0 (fun _ => true) true Try.f9.params.toList args.toList ds p := hA0
  rw [Try.params9] at hA hval
  obtain ⟨v0, vs0, d0, ds0, p0, q0, hargs, rfl, rfl, h0, r0⟩ := trodAll_cons hA
  obtain ⟨rfl, rfl, rfl⟩ := trodAll_nil r0
  obtain rfl : args = #[v0] := by cases args; simp_all
  obtain ⟨rfl, rfl⟩ := trodVars_none hV
  obtain ⟨a0, len0, cap0, rfl⟩ := okWide_slice Try.underlying22 (hval 0 22 v0 rfl rfl)
  have k0 := h0
  have lt0 : ∀ x ∈ p0, x.block < W.heap.size := by obtain ⟨m, hm⟩ := k0; exact DataW.trod_lt m _ _ _ hm
  obtain ⟨z0, w0⟩ : ∃ zs, Bytes W (.slice a0 len0 cap0) zs := bytes_opened h0
  clear hA0 hval0
  refine (FnSettingText_walk _ z0 W w0).mono fun e W' ⟨he, bel⟩ => ?_
  subst he
  exact ⟨_, rfl, _, _, _, [], _, [], hW', trodAll_mk1 (shut_bool Try.underlying4 _), (trodAll_cons_mk (Below.trod laidOut (by kernel_rfl) (of_decide_eq_true (by kernel_rfl)) k0 bel lt0) trodAll_mk0), rfl, bel.frame _, fun h => by cases h⟩
theorem fact_inPlace : (Rows.fnSettingTextRow.inPlace == Try.prog.inPlace 9) = true := by kernel_rfl
theorem fact_unfollowed : (Rows.fnSettingTextRow.unfollowed == Try.prog.unfollowed 9) = true := by kernel_rfl
theorem fact_recurses : (Rows.fnSettingTextRow.recurses == Try.prog.recurses 9) = true := by kernel_rfl
theorem fact_named : (Rows.fnSettingTextRow.named == Try.prog.varsNamed 9) = true := by kernel_rfl
theorem fact_plain : (Rows.fnSettingTextRow.plainKeys == Try.prog.plainKeys) = true := by kernel_rfl
theorem joined : joinedFacts Try.pinned.checked.prog 9 Try.f9 Rows.fnSettingTextSpec Rows.fnSettingTextRow = true :=
  joined_of (f := 9) (fn := Try.f9) (s := Rows.fnSettingTextSpec) (c := Rows.fnSettingTextRow) (by kernel_rfl) (by kernel_rfl) (by kernel_rfl) (by kernel_rfl) (by kernel_rfl) fact_inPlace fact_unfollowed fact_recurses fact_named (by kernel_rfl) (by kernel_rfl) (by kernel_rfl) (by kernel_rfl) (by kernel_rfl) (by kernel_rfl) (by kernel_rfl) (by kernel_rfl) (by kernel_rfl) fact_plain (by kernel_rfl) rfl rfl (by kernel_rfl) (by kernel_rfl) (by kernel_rfl) (by kernel_rfl)

/-- the statement -/
theorem proved : Rows.FnSettingTextSaid :=
  OpenClaim.holds_of_wide 9 Try.f9 rfl rfl rfl rfl rfl rfl rfl ⟨rfl, rfl, rfl, rfl, rfl⟩ rfl rfl rfl rfl rfl (by kernel_rfl) Try.func9 joined
    (of_decide_eq_true (by kernel_rfl)) (by unfold Func.isWrapper; first | (rw [if_pos (by decide +kernel)]; kernel_rfl) | (rw [if_neg (by decide +kernel)]; exact ⟨rfl, rfl⟩))
    (fun os started H enc _ => lifted os started H enc)
#print axioms proved
end Go.Proofs.Ytbpcjdhbbighgaa.fnSettingText
