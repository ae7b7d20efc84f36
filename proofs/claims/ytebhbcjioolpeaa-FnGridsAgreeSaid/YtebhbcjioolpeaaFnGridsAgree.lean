/-
  FnGridsAgree: for every code the law returns true and leaves what was there as it was. No condition.
-/
import Derived.Test.YtebhbcjioolpeaaDrawN
import Derived.Test.YtebhbcjioolpeaaMirror
import Derived.Test.YtebhbcjioolpeaaJoin
import Derived.Test.YtebhbcjioolpeaaFacts
import Derived.ProofKit
import Derived.OpenShut
import Derived.ShutString
import Derived.ChangeOld
import Derived.Below
namespace Go.Proofs.Ytebhbcjioolpeaa
open Go.RowKit Go.Deep

theorem gapUp_zero {ga gb : Rows} (hs : Same ga gb) : ∀ n, n ≤ ga.length → gapUpTo ga gb n = 0 → ∀ k, k < n → lastOf ga k = firstOf gb k := by
  intro n
  induction n with
  | zero => intro _ _ k hk; omega
  | succ n ih =>
    intro hn h0 k hk
    have := gap_small hs n (by omega)
    rw [gapUpTo] at h0
    have ha : 0 ≤ aparts (lastOf ga n) (firstOf gb n) := by unfold aparts; omega
    have e1 : gapUpTo ga gb n = 0 := by omega
    have e2 : aparts (lastOf ga n) (firstOf gb n) = 0 := by omega
    by_cases e : k = n
    · subst e; unfold aparts at e2; omega
    · exact ih (by omega) e1 k (by omega)
theorem half_self {ga gb : Rows} (hs : Same ga gb) (h0 : gapOf ga gb = 0) {k : Nat} (hk : k < ga.length) : halfOf ga gb k = lastOf ga k ∧ halfOf ga gb k = firstOf gb k := by
  rw [gap_val hs] at h0
  have e := gapUp_zero hs _ (Nat.le_refl _) h0 k hk
  have := half_small hs k hk
  unfold halfOf
  rw [Int.tdiv_eq_ediv_of_nonneg this.1]
  omega
theorem set_self {l : List Int} {j : Nat} {x : Int} (hj : j < l.length) (h : x = l[j]?.getD 0) : l.set j x = l := by
  refine row_ext (by simp) fun i hi => ?_
  rw [List.length_set] at hi
  by_cases e : i = j
  · subst e; rw [setI_get hi, if_pos rfl, h]
  · rw [List.getElem?_set_ne (by omega)]
/-- grids that agree are mended to themselves -/
theorem mendA_self {ga gb : Rows} (hs : Same ga gb) (h0 : gapOf ga gb = 0) : mendA ga gb ga.length = ga := by
  refine rows_eq (mendA_len _ _ _) fun k hk => ?_
  rw [mendA_len] at hk
  rw [mendA_get _ _ _ _ hk, if_pos hk]
  have hl := (hs.1.2.2.2.2 k hk).1
  have := hs.1.2.2.1
  exact set_self (by omega) (half_self hs h0 hk).1
theorem mendB_self {ga gb : Rows} (hs : Same ga gb) (h0 : gapOf ga gb = 0) : mendB ga gb ga.length = gb := by
  refine rows_eq (mendB_len _ _ _) fun k hk => ?_
  rw [mendB_len] at hk
  have hk2 : k < ga.length := by have := hs.2.2; omega
  rw [mendB_get _ _ _ _ hk, if_pos hk2]
  have hl := (hs.2.1.2.2.2.2 k hk).1
  have := hs.2.1.2.2.1
  exact set_self (by omega) (half_self hs h0 hk2).2

set_option maxHeartbeats 4000000 in
set_option maxRecDepth 100000 in
theorem FnGridsAgree_walk (v : Value) (n : Nat) (w : World) (h : Bytes w v n) :
    Calls Try.prog 11 #[v] w fun e w' => e = .returned (.bool true) ∧ Below w.heap.size w w' := by
  have CD := Lib.hid (DrawGridsAgree_any v n w h)
  obtain ⟨a, cap, rfl, h1, h2, h3⟩ := h
  clear h3
  by_cases hbig : 1048576 < n
  · have hb' : (1048576 : Int) < (n : Int) := by omega
    go_enter Try.func11, Try.ntmps11
    go_wp2
    go_ret
    exact ⟨rfl, Below.refl _ _⟩
  have hb' : ¬ (1048576 : Int) < (n : Int) := by omega
  clear hbig
  go_enter Try.func11, Try.ntmps11
  go_wp2_with fail
  refine CD.out.mono ?_
  rintro e w1 ⟨va, vb, ga, gb, rfl, hA, hB, dA, dB, hb1⟩
  have B := Lib.hid hb1
  have s1 := hb1.size
  have A := Lib.hid (show GridB w1.heap.size w1 va ga from hA)
  have G := Lib.hid (show GridB w1.heap.size w1 vb gb from hB)
  clear hA hB hb1 CD
  go_wp2_with fail
  with_reducible refine (GridsAgree_any va vb ga gb w1 (A.out.grid (by omega)) (G.out.grid (by omega))).mono ?_
  rintro e w2 ⟨rfl, hb2⟩
  have s2 := hb2.size
  replace A := Lib.hid (A.out.below hb2 (by omega))
  replace G := Lib.hid (G.out.below hb2 (by omega))
  replace B := Lib.hid (B.out.trans (hb2.mono (by omega)))
  clear hb2
  go_wp2_with fail
  with_reducible refine (specGridsAgree_any va vb ga gb w2 (A.out.grid (by omega)) (G.out.grid (by omega))).mono ?_
  rintro e w3 ⟨rfl, hb3⟩
  have s3 := hb3.size
  replace A := Lib.hid (A.out.below hb3 (by omega))
  replace G := Lib.hid (G.out.below hb3 (by omega))
  replace B := Lib.hid (B.out.trans (hb3.mono (by omega)))
  clear hb3
  by_cases h0 : gapOf ga gb = 0
  · have hs : Same ga gb := same_of_gap h0
    have H0 := Lib.hid h0
    have HS := Lib.hid hs
    have OA := Lib.hid hs.1
    have OB := Lib.hid hs.2.1
    rw [decide_eq_true h0]
    clear hs h0
    go_wp2_with fail
    with_reducible refine (GridsMend_any va vb ga gb w3 (A.out.grid (by omega)) (G.out.grid (by omega))).mono ?_
    rintro e w4 ⟨x, y, m4, rfl, lo4, hi4, hX, hY, hb4⟩
    have s4 := hb4.size
    replace A := Lib.hid (A.out.below hb4 (by omega))
    replace G := Lib.hid (G.out.below hb4 (by omega))
    replace B := Lib.hid (B.out.trans (hb4.mono (by omega)))
    clear hb4
    rw [mendAll_yes HS.out] at hX hY
    have hX1 := hX.grid hi4
    have hY1 := hY.grid (Nat.le_refl _)
    clear hX hY
    rw [mendA_self HS.out H0.out] at hX1
    rw [mendB_self HS.out H0.out] at hY1
    rw [decide_eq_true HS.out]
    have X := Lib.hid (show GridB w4.heap.size w4 x ga from hX1)
    have Y := Lib.hid (show GridB w4.heap.size w4 y gb from hY1)
    clear hX1 hY1
    go_wp2_with fail
    with_reducible refine (GridMirror_any va ga w4 (A.out.grid (by omega)) OA.out).mono ?_
    rintro e w5 ⟨am, rfl, hM, hb5⟩
    have AM := Lib.hid (show GridB w5.heap.size w5 am _ from hM.grid (Nat.le_refl _))
    clear hM
    have s5 := hb5.size
    replace A := Lib.hid (A.out.below hb5 (by omega))
    replace G := Lib.hid (G.out.below hb5 (by omega))
    replace X := Lib.hid (X.out.below hb5 (by omega))
    replace Y := Lib.hid (Y.out.below hb5 (by omega))
    replace B := Lib.hid (B.out.trans (hb5.mono (by omega)))
    clear hb5
    go_wp2_with fail
    with_reducible refine (GridMirror_any vb gb w5 (G.out.grid (by omega)) OB.out).mono ?_
    rintro e w6 ⟨bm, rfl, hM, hb6⟩
    have BM := Lib.hid (show GridB w6.heap.size w6 bm _ from hM.grid (Nat.le_refl _))
    clear hM
    have s6 := hb6.size
    replace A := Lib.hid (A.out.below hb6 (by omega))
    replace G := Lib.hid (G.out.below hb6 (by omega))
    replace X := Lib.hid (X.out.below hb6 (by omega))
    replace Y := Lib.hid (Y.out.below hb6 (by omega))
    replace AM := Lib.hid (AM.out.below hb6 (by omega))
    replace B := Lib.hid (B.out.trans (hb6.mono (by omega)))
    clear hb6
    go_wp2_with fail
    with_reducible refine (GridsGap_any va vb ga gb w6 (A.out.grid (by omega)) (G.out.grid (by omega))).mono ?_
    rintro e w7 ⟨rfl, hb7⟩
    rw [H0.out]
    have s7 := hb7.size
    replace A := Lib.hid (A.out.below hb7 (by omega))
    replace G := Lib.hid (G.out.below hb7 (by omega))
    replace X := Lib.hid (X.out.below hb7 (by omega))
    replace Y := Lib.hid (Y.out.below hb7 (by omega))
    replace AM := Lib.hid (AM.out.below hb7 (by omega))
    replace BM := Lib.hid (BM.out.below hb7 (by omega))
    replace B := Lib.hid (B.out.trans (hb7.mono (by omega)))
    clear hb7
    go_wp2_with fail
    with_reducible refine (sameGrid_b x va ga ga w7 (X.out.grid (by omega)) (A.out.grid (by omega))).mono ?_
    rintro e w8 ⟨rfl, hb8⟩
    rw [decide_eq_true rfl]
    have s8 := hb8.size
    replace A := Lib.hid (A.out.below hb8 (by omega))
    replace G := Lib.hid (G.out.below hb8 (by omega))
    replace X := Lib.hid (X.out.below hb8 (by omega))
    replace Y := Lib.hid (Y.out.below hb8 (by omega))
    replace AM := Lib.hid (AM.out.below hb8 (by omega))
    replace BM := Lib.hid (BM.out.below hb8 (by omega))
    replace B := Lib.hid (B.out.trans (hb8.mono (by omega)))
    clear hb8
    go_wp2_with fail
    with_reducible refine (sameGrid_b y vb gb gb w8 (Y.out.grid (by omega)) (G.out.grid (by omega))).mono ?_
    rintro e w9 ⟨rfl, hb9⟩
    rw [decide_eq_true rfl]
    have s9 := hb9.size
    replace A := Lib.hid (A.out.below hb9 (by omega))
    replace G := Lib.hid (G.out.below hb9 (by omega))
    replace X := Lib.hid (X.out.below hb9 (by omega))
    replace Y := Lib.hid (Y.out.below hb9 (by omega))
    replace AM := Lib.hid (AM.out.below hb9 (by omega))
    replace BM := Lib.hid (BM.out.below hb9 (by omega))
    replace B := Lib.hid (B.out.trans (hb9.mono (by omega)))
    clear hb9
    go_wp2_with fail
    with_reducible refine (GridsAgree_any bm am (mirrorOf gb) (mirrorOf ga) w9 (BM.out.grid (by omega)) (AM.out.grid (by omega))).mono ?_
    rintro e w10 ⟨rfl, hb10⟩
    rw [mirror_gap HS.out, decide_eq_true H0.out]
    have s10 := hb10.size
    replace A := Lib.hid (A.out.below hb10 (by omega))
    replace G := Lib.hid (G.out.below hb10 (by omega))
    replace X := Lib.hid (X.out.below hb10 (by omega))
    replace Y := Lib.hid (Y.out.below hb10 (by omega))
    replace AM := Lib.hid (AM.out.below hb10 (by omega))
    replace BM := Lib.hid (BM.out.below hb10 (by omega))
    replace B := Lib.hid (B.out.trans (hb10.mono (by omega)))
    clear hb10
    go_wp2
    go_ret
    exact ⟨rfl, B.out⟩
  · rw [decide_eq_false h0]
    clear h0
    go_wp2
    go_ret
    exact ⟨rfl, B.out⟩
end Go.Proofs.Ytebhbcjioolpeaa
namespace Go.Proofs.Ytebhbcjioolpeaa.fnGridsAgree
open Go.ChangeShapes Go.WideShapes Go.ChangeAt Go.RowKit
set_option linter.unusedVariables false

theorem own : ownKnob Try.prog.godebug = none := by kernel_rfl
theorem laidOut : laidOutB Try.prog = true := fact_laid
set_option maxRecDepth 100000 in
theorem lifted (os : Os) (started : os.Started) (H : Type) (enc : TypeId × Value → H) :
    ReturnsInHanded {} Try.checked os 11 .any (Rows.fnGridsAgreeSpec.pre6 enc Try.prog Try.f11 Rows.fnGridsAgreeRow.domain false) (Rows.fnGridsAgreeSpec.post enc Try.prog Try.f11 false true false false) := by
  refine returnsInHanded_of_change (C := Try.checked) own started (by kernel_rfl) Try.func11
    (ChangeSpec.witness6 (enc := enc) (C := Try.checked) false ⟨#[], #[.slice none 0 0], []⟩ 8 (by kernel_rfl) (by kernel_rfl) (by kernel_rfl) (by kernel_rfl)) ?_
  intro W base args ds gs before hval0 hW hcnd _
  have hval : ∀ (j : Nat) t v, Try.f11.params[j]? = some t → args[j]? = some v → Value.okWide Try.prog W .any base t v := hval0
  have hW' := hW
  obtain ⟨p, q, hA0, hV, rfl, hfz, hnd⟩ := hW
  have hA : DataW.TrodAll enc Try.prog W 0 (fun _ => true) true Try.f11.params.toList args.toList ds p := hA0
  rw [Try.params11] at hA hval
  obtain ⟨v0, vs0, d0, ds0, p0, q0, hargs, rfl, rfl, h0, r0⟩ := trodAll_cons hA
  obtain ⟨rfl, rfl, rfl⟩ := trodAll_nil r0
  obtain rfl : args = #[v0] := by cases args; simp_all
  obtain ⟨rfl, rfl⟩ := trodVars_none hV
  obtain ⟨a0, len0, cap0, rfl⟩ := okWide_slice Try.underlying29 (hval 0 29 v0 rfl rfl)
  have k0 := h0
  have lt0 : ∀ x ∈ p0, x.block < W.heap.size := by obtain ⟨m, hm⟩ := k0; exact DataW.trod_lt m _ _ _ hm
  obtain ⟨z0, w0⟩ : ∃ zs, Bytes W (.slice a0 len0 cap0) zs := bytes_opened h0
  clear hA0 hval0
  refine (FnGridsAgree_walk _ z0 W w0).mono fun e W' ⟨he, bel⟩ => ?_
  subst he
  exact ⟨_, rfl, _, _, _, [], _, [], hW', trodAll_mk1 (shut_bool Try.underlying4 _), (trodAll_cons_mk (Below.trod laidOut (by kernel_rfl) (of_decide_eq_true (by kernel_rfl)) k0 bel lt0) trodAll_mk0), rfl, bel.frame _, fun h => by cases h⟩
theorem fact_inPlace : (Rows.fnGridsAgreeRow.inPlace == Try.prog.inPlace 11) = true := by kernel_rfl
theorem fact_unfollowed : (Rows.fnGridsAgreeRow.unfollowed == Try.prog.unfollowed 11) = true := by kernel_rfl
theorem fact_recurses : (Rows.fnGridsAgreeRow.recurses == Try.prog.recurses 11) = true := by kernel_rfl
theorem fact_named : (Rows.fnGridsAgreeRow.named == Try.prog.varsNamed 11) = true := by kernel_rfl
theorem fact_plain : (Rows.fnGridsAgreeRow.plainKeys == Try.prog.plainKeys) = true := by kernel_rfl
theorem joined : joinedFacts Try.pinned.checked.prog 11 Try.f11 Rows.fnGridsAgreeSpec Rows.fnGridsAgreeRow = true :=
  joined_of (f := 11) (fn := Try.f11) (s := Rows.fnGridsAgreeSpec) (c := Rows.fnGridsAgreeRow) (by kernel_rfl) (by kernel_rfl) (by kernel_rfl) (by kernel_rfl) (by kernel_rfl) fact_inPlace fact_unfollowed fact_recurses fact_named (by kernel_rfl) (by kernel_rfl) (by kernel_rfl) (by kernel_rfl) (by kernel_rfl) (by kernel_rfl) (by kernel_rfl) (by kernel_rfl) (by kernel_rfl) fact_plain (by kernel_rfl) rfl rfl (by kernel_rfl) (by kernel_rfl) (by kernel_rfl) (by kernel_rfl)

/-- the statement -/
theorem proved : Rows.FnGridsAgreeSaid :=
  OpenClaim.holds_of_wide 11 Try.f11 rfl rfl rfl rfl rfl rfl rfl ⟨rfl, rfl, rfl, rfl, rfl⟩ rfl rfl rfl rfl rfl (by kernel_rfl) Try.func11 joined
    (of_decide_eq_true (by kernel_rfl)) (by unfold Func.isWrapper; first | (rw [if_pos (by decide +kernel)]; kernel_rfl) | (rw [if_neg (by decide +kernel)]; exact ⟨rfl, rfl⟩))
    (fun os started H enc _ => lifted os started H enc)
#print axioms proved
end Go.Proofs.Ytebhbcjioolpeaa.fnGridsAgree
