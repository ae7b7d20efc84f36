/-
  FnGridsGap: for every code the law returns true and leaves what was there as it was. No condition.
-/
import Derived.Test.YtebhbcjioolpeaaDrawN
import Derived.Test.YtebhbcjioolpeaaMirror
import Derived.Test.YtebhbcjioolpeaaJoin
import Derived.Test.YtebhbcjioolpeaaFacts
import Derived.ProofKit
import Derived.OpenShut
import Derived.ShutString
import Derived.ChangeOld
import Derived.Below
namespace Go.Proofs.Ytebhbcjioolpeaa
open Go.RowKit Go.Deep

theorem sizeOf_same (x : Int) (w : World) (h1 : -1000000 ≤ x) (h2 : x ≤ 1000000) :
    Calls Try.prog 36 #[.int .i64 x] w fun e w' => e = .returned (.int .i64 (max x (-x))) ∧ w' = w := by
  have w1 := wrap_small (x := 0 - x) (by omega) (by omega)
  go_enter Try.func36, Try.ntmps36
  go_wp2
  go_ret
  exact ⟨ret_int (by omega), rfl⟩
theorem moved_k {ga gb : Rows} (hs : Same ga gb) {k : Nat} (hk : k < ga.length) : max (halfOf ga gb k - lastOf ga k) (-(halfOf ga gb k - lastOf ga k)) + max (halfOf ga gb k - firstOf gb k) (-(halfOf ga gb k - firstOf gb k)) = aparts (lastOf ga k) (firstOf gb k) := by
  have := half_small hs k hk
  unfold halfOf aparts
  rw [Int.tdiv_eq_ediv_of_nonneg this.1]
  omega

set_option maxHeartbeats 4000000 in
set_option maxRecDepth 100000 in
theorem FnGridsGap_walk (v : Value) (n : Nat) (w : World) (h : Bytes w v n) :
    Calls Try.prog 8 #[v] w fun e w' => e = .returned (.bool true) ∧ Below w.heap.size w w' := by
  have CD := Lib.hid (DrawGridsGap_any v n w h)
  obtain ⟨a, cap, rfl, h1, h2, h3⟩ := h
  clear h3
  by_cases hbig : 1048576 < n
  · have hb' : (1048576 : Int) < (n : Int) := by omega
    go_enter Try.func8, Try.ntmps8
    go_wp2
    go_ret
    exact ⟨rfl, Below.refl _ _⟩
  have hb' : ¬ (1048576 : Int) < (n : Int) := by omega
  clear hbig
  go_enter Try.func8, Try.ntmps8
  go_wp2_with fail
  refine CD.out.mono ?_
  rintro e w1 ⟨va, vb, ga, gb, rfl, hA, hB, dA, dB, hb1⟩
  have B := Lib.hid hb1
  have s1 := hb1.size
  have A := Lib.hid (show GridB w1.heap.size w1 va ga from hA)
  have G := Lib.hid (show GridB w1.heap.size w1 vb gb from hB)
  clear hA hB hb1 CD
  go_wp2_with fail
  with_reducible refine (GridsGap_any va vb ga gb w1 (A.out.grid (by omega)) (G.out.grid (by omega))).mono ?_
  rintro e w2 ⟨rfl, hb2⟩
  have s2 := hb2.size
  replace A := Lib.hid (A.out.below hb2 (by omega))
  replace G := Lib.hid (G.out.below hb2 (by omega))
  replace B := Lib.hid (B.out.trans (hb2.mono (by omega)))
  clear hb2
  go_wp2_with fail
  with_reducible refine (specGridsGap_any va vb ga gb w2 (A.out.grid (by omega)) (G.out.grid (by omega))).mono ?_
  rintro e w3 ⟨rfl, hb3⟩
  have s3 := hb3.size
  replace A := Lib.hid (A.out.below hb3 (by omega))
  replace G := Lib.hid (G.out.below hb3 (by omega))
  replace B := Lib.hid (B.out.trans (hb3.mono (by omega)))
  clear hb3
  by_cases hs : Same ga gb
  · have HS := Lib.hid hs
    have OA := Lib.hid hs.1
    have OB := Lib.hid hs.2.1
    have gsm := gap_small hs ga.length (Nat.le_refl _)
    have hgl := hs.1.1
    have hgl2 := hs.1.2.1
    rw [← gap_val hs] at gsm
    obtain ⟨out, hout⟩ : ∃ x, x = gapOf ga gb := ⟨_, rfl⟩
    rw [← hout] at gsm ⊢
    have OUT := Lib.hid hout
    have t1 : (out != out) = false := by simp
    have t2 : ¬ out < 0 := by omega
    clear hs hout
    go_wp2_with fail
    with_reducible refine (GridMirror_any va ga w3 (A.out.grid (by omega)) OA.out).mono ?_
    rintro e w4 ⟨am, rfl, hM, hb4⟩
    have AM := Lib.hid (show GridB w4.heap.size w4 am _ from hM.grid (Nat.le_refl _))
    clear hM
    have s4 := hb4.size
    replace A := Lib.hid (A.out.below hb4 (by omega))
    replace G := Lib.hid (G.out.below hb4 (by omega))
    replace B := Lib.hid (B.out.trans (hb4.mono (by omega)))
    clear hb4
    go_wp2_with fail
    with_reducible refine (GridMirror_any vb gb w4 (G.out.grid (by omega)) OB.out).mono ?_
    rintro e w5 ⟨bm, rfl, hM, hb5⟩
    have BM := Lib.hid (show GridB w5.heap.size w5 bm _ from hM.grid (Nat.le_refl _))
    clear hM
    have s5 := hb5.size
    replace A := Lib.hid (A.out.below hb5 (by omega))
    replace G := Lib.hid (G.out.below hb5 (by omega))
    replace AM := Lib.hid (AM.out.below hb5 (by omega))
    replace B := Lib.hid (B.out.trans (hb5.mono (by omega)))
    clear hb5
    go_wp2_with fail
    with_reducible refine (GridsMend_any va vb ga gb w5 (A.out.grid (by omega)) (G.out.grid (by omega))).mono ?_
    rintro e w6 ⟨x, y, m6, rfl, lo6, hi6, hX, hY, hb6⟩
    have s6 := hb6.size
    replace A := Lib.hid (A.out.below hb6 (by omega))
    replace G := Lib.hid (G.out.below hb6 (by omega))
    replace AM := Lib.hid (AM.out.below hb6 (by omega))
    replace BM := Lib.hid (BM.out.below hb6 (by omega))
    replace B := Lib.hid (B.out.trans (hb6.mono (by omega)))
    clear hb6
    rw [mendAll_yes HS.out] at hX hY
    rw [decide_eq_true HS.out]
    have X := Lib.hid (show GridB w6.heap.size w6 x _ from hX.grid hi6)
    have Y := Lib.hid (show GridB w6.heap.size w6 y _ from hY.grid (Nat.le_refl _))
    clear hX hY
    have hlb : Hid (gb.length = ga.length) := HS.out.2.2.symm
    obtain ⟨b1, o1, c1, hv1, _, _, k1, HC1⟩ := (A.out.mono (show w1.heap.size ≤ w6.heap.size by omega)).open (by omega)
    obtain ⟨b2, o2, c2, hv2, _, _, k2, HC2⟩ := (G.out.mono (show w1.heap.size ≤ w6.heap.size by omega)).open (by have := hlb.out; omega)
    obtain ⟨b3, o3, c3, hv3, _, _, k3, HC3⟩ := X.out.open (by rw [mendA_len]; omega)
    obtain ⟨b4, o4, c4, hv4, _, _, k4, HC4⟩ := Y.out.open (by rw [mendB_len]; have := hlb.out; omega)
    have AG := Lib.hid A.out
    have GG := Lib.hid G.out
    rw [hlb.out] at hv2
    rw [mendA_len] at hv3
    rw [mendB_len, hlb.out] at hv4
    subst hv1
    subst hv2
    subst hv3
    subst hv4
    have H1 := Lib.hid HC1
    have H2 := Lib.hid HC2
    have H3 := Lib.hid HC3
    have H4 := Lib.hid HC4
    clear HC1 HC2 HC3 HC4
    obtain ⟨N, hN⟩ : ∃ N, N = ga.length := ⟨_, rfl⟩
    have HN := Lib.hid hN
    rw [← hN] at hgl hgl2 ⊢
    clear hN
    go_wp2
    go_loopw [14, 15, 16] (fun mv i _ wr => ∃ k : Nat, k ≤ N ∧ i = .int .i64 k ∧ mv = .int .i64 (gapUpTo ga gb k) ∧ Below w6.heap.size w6 wr) (fun _ i _ _ => N - (intOf i).toNat)
    case atStart => exact ⟨0, Nat.zero_le _, rfl, rfl, Below.refl _ _⟩
    case round =>
      obtain ⟨k, hk, rfl, rfl, hbel⟩ := hrel
      by_cases hlt : k < N
      · have hka : k < ga.length := by rw [← HN.out]; exact hlt
        have hkb : k < gb.length := by rw [hlb.out]; exact hka
        have nA := (HS.out.1.2.2.2.2 k hka).1
        have nB := (HS.out.2.1.2.2.2.2 k hkb).1
        have hca := HS.out.1.2.2.1
        have hca2 := HS.out.1.2.2.2.1
        have hcb := HS.out.2.1.2.2.1
        have hcb2 := HS.out.2.1.2.2.2.1
        have eX : (mendA ga gb ga.length)[k]?.getD [] = (ga[k]?.getD []).set (colsOf ga - 1) (halfOf ga gb k) := by rw [mendA_get _ _ _ _ hka, if_pos hka]
        have eY : (mendB ga gb ga.length)[k]?.getD [] = (gb[k]?.getD []).set 0 (halfOf ga gb k) := by rw [mendB_get _ _ _ _ hkb, if_pos hka]
        obtain ⟨p1, d1, x1, u1, u1', y1⟩ := H1.out k hka
        obtain ⟨p2, d2, x2, u2, u2', y2⟩ := H2.out k hkb
        obtain ⟨p3, d3, x3, u3, u3', y3⟩ := H3.out k (by rw [mendA_len]; exact hka)
        obtain ⟨p4, d4, x4, u4, u4', y4⟩ := H4.out k (by rw [mendB_len]; exact hkb)
        rw [eX] at x3 u3 y3
        rw [eY] at x4 u4 y4
        rw [List.length_set] at x3 u3 y3 x4 u4 y4
        rw [nA] at x1 u1 y1 x3 u3 y3
        rw [nB] at x2 u2 y2 x4 u4 y4
        obtain ⟨q1, f1, rfl, g1, v1⟩ := y1 (by omega)
        obtain ⟨q2, f2, rfl, g2, v2⟩ := y2 (by omega)
        obtain ⟨q3, f3, rfl, g3, v3⟩ := y3 (by omega)
        obtain ⟨q4, f4, rfl, g4, v4⟩ := y4 (by omega)
        have hhal := half_ok HS.out hka
        have vA := v1 (colsOf ga - 1) (by omega)
        have vB := v2 0 (by omega)
        have vX := v3 (colsOf ga - 1) (by omega)
        have vY := v4 0 (by omega)
        rw [setI_get (by omega), if_pos rfl] at vX vY
        obtain ⟨m, hm⟩ : ∃ m, colsOf ga = m + 1 := ⟨colsOf ga - 1, by omega⟩
        obtain ⟨mb, hmb⟩ : ∃ m, colsOf gb = m + 1 := ⟨colsOf gb - 1, by omega⟩
        have rA := HS.out.1.cell hka (j := m) (by omega)
        have rB := HS.out.2.1.cell hkb (j := 0) (by omega)
        rw [hm] at x1 u1 x3 u3 hca2
        rw [hmb] at x2 u2 x4 u4 hcb2
        rw [hm, Nat.add_sub_cancel] at vA vX
        rw [Nat.add_zero] at vB vY
        have hgs := gap_small HS.out k (by omega)
        have hgs2 := gap_small HS.out (k + 1) (by omega)
        have hstep : gapUpTo ga gb (k + 1) = gapUpTo ga gb k + (max (halfOf ga gb k - lastOf ga k) (-(halfOf ga gb k - lastOf ga k)) + max (halfOf ga gb k - firstOf gb k) (-(halfOf ga gb k - firstOf gb k))) := by rw [moved_k HS.out hka]; rfl
        have hU : lastOf ga k = (ga[k]?.getD [])[m]?.getD 0 := by unfold lastOf; rw [hm, Nat.add_sub_cancel]
        have hT : firstOf gb k = (gb[k]?.getD [])[0]?.getD 0 := rfl
        rw [hU, hT] at hstep
        obtain ⟨u, hu⟩ : ∃ u, u = (ga[k]?.getD [])[m]?.getD 0 := ⟨_, rfl⟩
        obtain ⟨t, ht⟩ : ∃ t, t = (gb[k]?.getD [])[0]?.getD 0 := ⟨_, rfl⟩
        obtain ⟨z, hz⟩ : ∃ z, z = halfOf ga gb k := ⟨_, rfl⟩
        rw [← hu] at vA rA hstep
        rw [← ht] at vB rB hstep
        rw [← hz] at vX vY hhal hstep
        obtain ⟨mv, hmv⟩ : ∃ x, x = gapUpTo ga gb k := ⟨_, rfl⟩
        rw [← hmv] at hgs hstep ⊢
        have i1 := (hbel.cell (p := ⟨b1, o1 + k, none⟩) k1).trans x1
        have i2 := (hbel.cell (p := ⟨b2, o2 + k, none⟩) k2).trans x2
        have i3 := (hbel.cell (p := ⟨b3, o3 + k, none⟩) k3).trans x3
        have i4 := (hbel.cell (p := ⟨b4, o4 + k, none⟩) k4).trans x4
        have j1 := (hbel.cell (p := ⟨q1, f1 + m, none⟩) g1).trans vA
        have j2 := (hbel.cell (p := ⟨q2, f2, none⟩) g2).trans vB
        have j3 := (hbel.cell (p := ⟨q3, f3 + m, none⟩) g3).trans vX
        have j4 := (hbel.cell (p := ⟨q4, f4, none⟩) g4).trans vY
        have HBE := Lib.hid hbel
        have w1' : IntKind.i64.wrap ((m : Int) + 1 - 1) = (m : Int) := by rw [Int.add_sub_cancel]; exact IntWalk.i64_in _ (by omega)
        have w2' : IntKind.i64.wrap (m : Int) = (m : Int) := IntWalk.i64_in _ (by omega)
        have w3' := wrap_small (x := z - u) (by omega) (by omega)
        have w4' := wrap_small (x := z - t) (by omega) (by omega)
        have C1 := Lib.hid (fun w => sizeOf_same (z - u) w (by omega) (by omega))
        have C2 := Lib.hid (fun w => sizeOf_same (z - t) w (by omega) (by omega))
        obtain ⟨e1, he1⟩ : ∃ x, x = max (z - u) (-(z - u)) := ⟨_, rfl⟩
        obtain ⟨e2, he2⟩ : ∃ x, x = max (z - t) (-(z - t)) := ⟨_, rfl⟩
        rw [← he1] at C1 hstep
        rw [← he2] at C2 hstep
        have w5' := wrap_small (x := mv + e1) (by omega) (by omega)
        have w6' := wrap_small (x := mv + e1 + e2) (by omega) (by omega)
        have m1 : (m : Int) < (m : Int) + 1 := by omega
        have m2 : (0 : Int) < (mb : Int) + 1 := by omega
        have HST := Lib.hid hstep
        clear v1 v2 v3 v4 y1 y2 y3 y4 x1 x2 x3 x4 vA vB vX vY eX eY nA nB hU hT hu ht hz hm hmb hbel hhal hca hcb hstep he1 he2 hmv hgs2 rA rB
        go_wp2
        go_quiet (first | exact Calls.quiet_of_same (C1.out _) | exact Calls.quiet_of_same (C2.out _))
        go_wp2
        go_roundw
        case rel => exact ⟨k + 1, by omega, by go_num, by rw [HST.out, ← Int.add_assoc], below_n HBE.out nq⟩
        case measure => simp [intOf]; omega
      · obtain rfl : k = N := by omega
        have sz := hbel.size
        have HBE := Lib.hid hbel
        clear hbel
        have HK : Hid (gapUpTo ga gb k = out) := by
          show gapUpTo ga gb k = out
          rw [OUT.out, gap_val HS.out, HN.out]
        rw [HK.out]
        replace A := Lib.hid (AG.out.below HBE.out (by omega))
        replace G := Lib.hid (GG.out.below HBE.out (by omega))
        replace AM := Lib.hid (AM.out.below HBE.out (by omega))
        replace BM := Lib.hid (BM.out.below HBE.out (by omega))
        replace B := Lib.hid (B.out.trans (HBE.out.mono (by omega)))
        clear X Y AG GG
        have A1 : Hid (GridB w1.heap.size wr (.slice (some ⟨b1, o1, none⟩) k c1) ga) := by rw [HN.out]; exact A
        have G1 : Hid (GridB w1.heap.size wr (.slice (some ⟨b2, o2, none⟩) k c2) gb) := by rw [HN.out]; exact G
        obtain ⟨w7, rfl⟩ : ∃ w7 : World, w7 = wr := ⟨_, rfl⟩
        clear A G
        have t3 : (decide (gapOf ga gb = 0)) = (out == 0) := by rw [← OUT.out]; by_cases h : out = 0 <;> simp [h]
        have T3 := Lib.hid t3
        clear t3
        go_wp2_with fail
        with_reducible refine (GridsAgree_any _ _ ga gb w7 (A1.out.grid (by omega)) (G1.out.grid (by omega))).mono ?_
        rintro e w8 ⟨rfl, hb8⟩
        rw [T3.out]
        have s8 := hb8.size
        replace A1 := Lib.hid (A1.out.below hb8 (by omega))
        replace G1 := Lib.hid (G1.out.below hb8 (by omega))
        replace AM := Lib.hid (AM.out.below hb8 (by omega))
        replace BM := Lib.hid (BM.out.below hb8 (by omega))
        replace B := Lib.hid (B.out.trans (hb8.mono (by omega)))
        clear hb8
        go_wp2_with fail
        with_reducible refine (GridsGap_any bm am (mirrorOf gb) (mirrorOf ga) w8 (BM.out.grid (by omega)) (AM.out.grid (by omega))).mono ?_
        rintro e w9 ⟨rfl, hb9⟩
        rw [mirror_gap HS.out, ← OUT.out]
        have s9 := hb9.size
        replace A1 := Lib.hid (A1.out.below hb9 (by omega))
        replace G1 := Lib.hid (G1.out.below hb9 (by omega))
        replace AM := Lib.hid (AM.out.below hb9 (by omega))
        replace BM := Lib.hid (BM.out.below hb9 (by omega))
        replace B := Lib.hid (B.out.trans (hb9.mono (by omega)))
        clear hb9
        go_wp2
        go_ret
        exact ⟨ret_bool (by simp), B.out⟩
  · rw [gap_none hs]
    clear hs
    go_wp2
    go_ret
    exact ⟨rfl, B.out⟩
end Go.Proofs.Ytebhbcjioolpeaa
namespace Go.Proofs.Ytebhbcjioolpeaa.fnGridsGap
open Go.ChangeShapes Go.WideShapes Go.ChangeAt Go.RowKit
set_option linter.unusedVariables false

theorem own : ownKnob Try.prog.godebug = none := by kernel_rfl
theorem laidOut : laidOutB Try.prog = true := fact_laid
set_option maxRecDepth 100000 in
theorem lifted (os : Os) (started : os.Started) (H : Type) (enc : TypeId × Value → H) :
    ReturnsInHanded {} Try.checked os 8 .any (Rows.fnGridsGapSpec.pre6 enc Try.prog Try.f8 Rows.fnGridsGapRow.domain false) (Rows.fnGridsGapSpec.post enc Try.prog Try.f8 false true false false) := by
  refine returnsInHanded_of_change (C := Try.checked) own started (by kernel_rfl) Try.func8
    (ChangeSpec.witness6 (enc := enc) (C := Try.checked) false ⟨#[], #[.slice none 0 0], []⟩ 8 (by kernel_rfl) (by kernel_rfl) (by kernel_rfl) (by kernel_rfl)) ?_
  intro W base args ds gs before hval0 hW hcnd _
  have hval : ∀ (j : Nat) t v, Try.f8.params[j]? = some t → args[j]? = some v → Value.okWide Try.prog W .any base t v := hval0
  have hW' := hW
  obtain ⟨p, q, hA0, hV, rfl, hfz, hnd⟩ := hW
  have hA : DataW.TrodAll enc Try.prog W 0 (fun _ => true) true Try.f8.params.toList args.toList ds p := hA0
  rw [Try.params8] at hA hval
  obtain ⟨v0, vs0, d0, ds0, p0, q0, hargs, rfl, rfl, h0, r0⟩ := trodAll_cons hA
  obtain ⟨rfl, rfl, rfl⟩ := trodAll_nil r0
  obtain rfl : args = #[v0] := by cases args; simp_all
  obtain ⟨rfl, rfl⟩ := trodVars_none hV
  obtain ⟨a0, len0, cap0, rfl⟩ := okWide_slice Try.underlying29 (hval 0 29 v0 rfl rfl)
  have k0 := h0
  have lt0 : ∀ x ∈ p0, x.block < W.heap.size := by obtain ⟨m, hm⟩ := k0; exact DataW.trod_lt m _ _ _ hm
  obtain ⟨z0, w0⟩ : ∃ zs, Bytes W (.slice a0 len0 cap0) zs := bytes_opened h0
  clear hA0 hval0
  refine (FnGridsGap_walk _ z0 W w0).mono fun e W' ⟨he, bel⟩ => ?_
  subst he
  exact ⟨_, rfl, _, _, _, [], _, [], hW', trodAll_mk1 (shut_bool Try.underlying4 _), (trodAll_cons_mk (Below.trod laidOut (by kernel_rfl) (of_decide_eq_true (by kernel_rfl)) k0 bel lt0) trodAll_mk0), rfl, bel.frame _, fun h => by cases h⟩
theorem fact_inPlace : (Rows.fnGridsGapRow.inPlace == Try.prog.inPlace 8) = true := by kernel_rfl
theorem fact_unfollowed : (Rows.fnGridsGapRow.unfollowed == Try.prog.unfollowed 8) = true := by kernel_rfl
theorem fact_recurses : (Rows.fnGridsGapRow.recurses == Try.prog.recurses 8) = true := by kernel_rfl
theorem fact_named : (Rows.fnGridsGapRow.named == Try.prog.varsNamed 8) = true := by kernel_rfl
theorem fact_plain : (Rows.fnGridsGapRow.plainKeys == Try.prog.plainKeys) = true := by kernel_rfl
theorem joined : joinedFacts Try.pinned.checked.prog 8 Try.f8 Rows.fnGridsGapSpec Rows.fnGridsGapRow = true :=
  joined_of (f := 8) (fn := Try.f8) (s := Rows.fnGridsGapSpec) (c := Rows.fnGridsGapRow) (by kernel_rfl) (by kernel_rfl) (by kernel_rfl) (by kernel_rfl) (by kernel_rfl) fact_inPlace fact_unfollowed fact_recurses fact_named (by kernel_rfl) (by kernel_rfl) (by kernel_rfl) (by kernel_rfl) (by kernel_rfl) (by kernel_rfl) (by kernel_rfl) (by kernel_rfl) (by kernel_rfl) fact_plain (by kernel_rfl) rfl rfl (by kernel_rfl) (by kernel_rfl) (by kernel_rfl) (by kernel_rfl)

/-- the statement -/
theorem proved : Rows.FnGridsGapSaid :=
  OpenClaim.holds_of_wide 8 Try.f8 rfl rfl rfl rfl rfl rfl rfl ⟨rfl, rfl, rfl, rfl, rfl⟩ rfl rfl rfl rfl rfl (by kernel_rfl) Try.func8 joined
    (of_decide_eq_true (by kernel_rfl)) (by unfold Func.isWrapper; first | (rw [if_pos (by decide +kernel)]; kernel_rfl) | (rw [if_neg (by decide +kernel)]; exact ⟨rfl, rfl⟩))
    (fun os started H enc _ => lifted os started H enc)
#print axioms proved
end Go.Proofs.Ytebhbcjioolpeaa.fnGridsGap
