/-
  FnGridsMend: for every code the law returns true and leaves what was there as it was. No condition.
-/
import Derived.Test.YtebhbcjioolpeaaDrawM
import Derived.Lib.MinMax
import Derived.BigQuiet
import Derived.Test.YtebhbcjioolpeaaFacts
import Derived.ProofKit
import Derived.OpenShut
import Derived.ShutString
import Derived.ChangeOld
import Derived.Below
namespace Go.Proofs.Ytebhbcjioolpeaa
open Go.RowKit Go.Deep

/-- what a read matrix with a row holds -/
theorem GridB.open {B : Nat} {w : World} {v : Value} {g : Rows} (h : GridB B w v g) (hp : 0 < g.length) : ∃ b off cap, v = .slice (some ⟨b, off, none⟩) g.length cap ∧ g.length ≤ cap ∧ cap ≤ 9223372036854775807 ∧ b < B ∧
    ∀ k, k < g.length → ∃ a c, w.cell? ⟨b, off + k, none⟩ = some (.slice a (g[k]?.getD []).length c) ∧ (g[k]?.getD []).length ≤ c ∧ c ≤ 9223372036854775807 ∧ (0 < (g[k]?.getD []).length → ∃ b2 o2, a = some ⟨b2, o2, none⟩ ∧ b2 < B ∧ ∀ j, j < (g[k]?.getD []).length → w.cell? ⟨b2, o2 + j, none⟩ = some (.int .i64 ((g[k]?.getD [])[j]?.getD 0))) := by
  obtain ⟨a, cap, rfl, h1, h2, h3⟩ := h
  obtain ⟨b, off, rfl, hb, hc⟩ := h3 hp
  refine ⟨b, off, cap, rfl, h1, h2, hb, fun k hk => ?_⟩
  obtain ⟨r, hr, a2, c2, rfl, q1, q2, q3⟩ := hc k hk
  exact ⟨a2, c2, hr, q1, q2, q3⟩

set_option maxHeartbeats 4000000 in
set_option maxRecDepth 100000 in
theorem FnGridsMend_walk (v : Value) (n : Nat) (w : World) (h : Bytes w v n) :
    Calls Try.prog 7 #[v] w fun e w' => e = .returned (.bool true) ∧ Below w.heap.size w w' := by
  have CD := Lib.hid (DrawGridsMend_any v n w h)
  obtain ⟨a, cap, rfl, h1, h2, h3⟩ := h
  clear h3
  by_cases hbig : 1048576 < n
  · have hb' : (1048576 : Int) < (n : Int) := by omega
    go_enter Try.func7, Try.ntmps7
    go_wp2
    go_ret
    exact ⟨rfl, Below.refl _ _⟩
  have hb' : ¬ (1048576 : Int) < (n : Int) := by omega
  clear hbig
  go_enter Try.func7, Try.ntmps7
  go_wp2_with fail
  refine CD.out.mono ?_
  rintro e w1 ⟨va, vb, ga, gb, rfl, hA, hB, dA, dB, hb1⟩
  have B := Lib.hid hb1
  have s1 := hb1.size
  have A := Lib.hid (show GridB w1.heap.size w1 va ga from hA)
  have G := Lib.hid (show GridB w1.heap.size w1 vb gb from hB)
  clear hA hB hb1 CD
  go_wp2_with fail
  refine (GridsMend_any va vb ga gb w1 (A.out.grid (Nat.le_refl _)) (G.out.grid (Nat.le_refl _))).mono ?_
  rintro e w2 ⟨x, y, m2, rfl, lo2, hi2, hX, hY, hb2⟩
  have s2 := hb2.size
  have X := Lib.hid (show GridB w2.heap.size w2 x _ from hX.grid hi2)
  have Y := Lib.hid (show GridB w2.heap.size w2 y _ from hY.grid (Nat.le_refl _))
  replace A := Lib.hid (A.out.below hb2 (Nat.le_refl _))
  replace G := Lib.hid (G.out.below hb2 (Nat.le_refl _))
  replace B := Lib.hid (B.out.trans (hb2.mono (by omega)))
  clear hX hY hb2
  go_wp2_with fail
  refine (specGridsMend_any va vb ga gb w2 (A.out.grid (by omega)) (G.out.grid (by omega))).mono ?_
  rintro e w3 ⟨x', y', m3, rfl, lo3, hi3, hX', hY', hb3⟩
  have s3 := hb3.size
  have X' := Lib.hid (show GridB w3.heap.size w3 x' _ from hX'.grid hi3)
  have Y' := Lib.hid (show GridB w3.heap.size w3 y' _ from hY'.grid (Nat.le_refl _))
  replace X := Lib.hid (X.out.below hb3 (Nat.le_refl _))
  replace Y := Lib.hid (Y.out.below hb3 (Nat.le_refl _))
  replace A := Lib.hid (A.out.below hb3 (by omega))
  replace G := Lib.hid (G.out.below hb3 (by omega))
  replace B := Lib.hid (B.out.trans (hb3.mono (by omega)))
  clear hX' hY' hb3
  by_cases hs : Same ga gb
  · rw [mendAll_yes hs] at X Y X' Y'
    have e1 := Lib.hid (decide_eq_true hs)
    have HS := Lib.hid hs
    rw [e1.out]
    clear hs
    go_wp2_with fail
    refine (sameGrid_b _ _ _ _ _ (X.out.grid (by omega)) (X'.out.grid (by omega))).mono ?_
    rintro e w4 ⟨rfl, hb4⟩
    rw [decide_eq_true rfl]
    have s4 := hb4.size
    replace X := Lib.hid (X.out.below hb4 (by omega))
    replace Y := Lib.hid (Y.out.below hb4 (by omega))
    replace Y' := Lib.hid (Y'.out.below hb4 (by omega))
    replace A := Lib.hid (A.out.below hb4 (by omega))
    replace G := Lib.hid (G.out.below hb4 (by omega))
    replace B := Lib.hid (B.out.trans (hb4.mono (by omega)))
    clear hb4
    go_wp2_with fail
    refine (sameGrid_b _ _ _ _ _ (Y.out.grid (by omega)) (Y'.out.grid (by omega))).mono ?_
    rintro e w5 ⟨rfl, hb5⟩
    rw [decide_eq_true rfl]
    have s5 := hb5.size
    replace X := Lib.hid (X.out.below hb5 (by omega))
    replace Y := Lib.hid (Y.out.below hb5 (by omega))
    replace A := Lib.hid (A.out.below hb5 (by omega))
    replace G := Lib.hid (G.out.below hb5 (by omega))
    replace B := Lib.hid (B.out.trans (hb5.mono (by omega)))
    clear hb5 X' Y'
    have hgl := HS.out.1.1
    have hgl2 := HS.out.1.2.1
    have hlb : Hid (gb.length = ga.length) := HS.out.2.2.symm
    obtain ⟨b1, o1, c1, hv1, _, _, k1, HC1⟩ := (A.out.mono (show w1.heap.size ≤ w3.heap.size by omega)).open (by omega)
    obtain ⟨b2, o2, c2, hv2, _, _, k2, HC2⟩ := (G.out.mono (show w1.heap.size ≤ w3.heap.size by omega)).open (by have := hlb.out; omega)
    obtain ⟨b3, o3, c3, hv3, _, _, k3, HC3⟩ := (X.out.mono (show w2.heap.size ≤ w3.heap.size by omega)).open (by rw [mendA_len]; omega)
    obtain ⟨b4, o4, c4, hv4, _, _, k4, HC4⟩ := (Y.out.mono (show w2.heap.size ≤ w3.heap.size by omega)).open (by rw [mendB_len]; have := hlb.out; omega)
    rw [hlb.out] at hv2
    rw [mendA_len] at hv3
    rw [mendB_len, hlb.out] at hv4
    subst hv1
    subst hv2
    subst hv3
    subst hv4
    have H1 := Lib.hid HC1
    have H2 := Lib.hid HC2
    have H3 := Lib.hid HC3
    have H4 := Lib.hid HC4
    clear HC1 HC2 HC3 HC4
    obtain ⟨N, hN⟩ : ∃ N, N = ga.length := ⟨_, rfl⟩
    have HN := Lib.hid hN
    rw [← hN] at hgl hgl2 ⊢
    clear hN
    go_wp2
    go_loopw [11, 12, 13, 14, 15] (fun i _ _ _ _ wr => ∃ k : Nat, k ≤ N ∧ i = .int .i64 k ∧ Below w5.heap.size w5 wr) (fun i _ _ _ _ _ => N - (intOf i).toNat)
    case atStart => exact ⟨0, Nat.zero_le _, rfl, Below.refl _ _⟩
    case round =>
      obtain ⟨k, hk, rfl, hbel⟩ := hrel
      by_cases hlt : k < N
      · have hka : k < ga.length := by rw [← HN.out]; exact hlt
        have hkb : k < gb.length := by rw [hlb.out]; exact hka
        have nA := (HS.out.1.2.2.2.2 k hka).1
        have nB := (HS.out.2.1.2.2.2.2 k hkb).1
        have hca := HS.out.1.2.2.1
        have hca2 := HS.out.1.2.2.2.1
        have hcb := HS.out.2.1.2.2.1
        have hcb2 := HS.out.2.1.2.2.2.1
        have eX : (mendA ga gb ga.length)[k]?.getD [] = (ga[k]?.getD []).set (colsOf ga - 1) (halfOf ga gb k) := by rw [mendA_get _ _ _ _ hka, if_pos hka]
        have eY : (mendB ga gb ga.length)[k]?.getD [] = (gb[k]?.getD []).set 0 (halfOf ga gb k) := by rw [mendB_get _ _ _ _ hkb, if_pos hka]
        obtain ⟨p1, d1, x1, u1, u1', y1⟩ := H1.out k hka
        obtain ⟨p2, d2, x2, u2, u2', y2⟩ := H2.out k hkb
        obtain ⟨p3, d3, x3, u3, u3', y3⟩ := H3.out k (by rw [mendA_len]; exact hka)
        obtain ⟨p4, d4, x4, u4, u4', y4⟩ := H4.out k (by rw [mendB_len]; exact hkb)
        rw [eX] at x3 u3 y3
        rw [eY] at x4 u4 y4
        rw [List.length_set] at x3 u3 y3 x4 u4 y4
        rw [nA] at x1 u1 y1 x3 u3 y3
        rw [nB] at x2 u2 y2 x4 u4 y4
        obtain ⟨q1, f1, rfl, g1, v1⟩ := y1 (by omega)
        obtain ⟨q2, f2, rfl, g2, v2⟩ := y2 (by omega)
        obtain ⟨q3, f3, rfl, g3, v3⟩ := y3 (by omega)
        obtain ⟨q4, f4, rfl, g4, v4⟩ := y4 (by omega)
        have hhal := half_small HS.out k hka
        have hHV : halfOf ga gb k = (lastOf ga k + firstOf gb k) / 2 := by unfold halfOf; exact Int.tdiv_eq_ediv_of_nonneg hhal.1
        have vA := v1 (colsOf ga - 1) (by omega)
        have vB := v2 0 (by omega)
        have vX := v3 (colsOf ga - 1) (by omega)
        rw [setI_get (by omega), if_pos rfl] at vX
        have V1 : Hid (∀ j, j < colsOf ga → w5.cell? ⟨q1, f1 + j, none⟩ = some (.int .i64 ((ga[k]?.getD [])[j]?.getD 0))) := v1
        have V3 : Hid (∀ j, j + 1 < colsOf ga → w5.cell? ⟨q3, f3 + j, none⟩ = some (.int .i64 ((ga[k]?.getD [])[j]?.getD 0))) := fun j hj => by
          have := v3 j (by omega)
          rwa [List.getElem?_set_ne (by omega)] at this
        have V2 : Hid (∀ j, j < colsOf gb → w5.cell? ⟨q2, f2 + j, none⟩ = some (.int .i64 ((gb[k]?.getD [])[j]?.getD 0))) := v2
        have V4 : Hid (∀ j, 0 < j → j < colsOf gb → w5.cell? ⟨q4, f4 + j, none⟩ = some (.int .i64 ((gb[k]?.getD [])[j]?.getD 0))) := fun j h0 hj => by
          have := v4 j (by omega)
          rwa [List.getElem?_set_ne (by omega)] at this
        obtain ⟨m, hm⟩ : ∃ m, colsOf ga = m + 1 := ⟨colsOf ga - 1, by omega⟩
        obtain ⟨mb, hmb⟩ : ∃ m, colsOf gb = m + 1 := ⟨colsOf gb - 1, by omega⟩
        rw [hm] at x1 u1 x3 u3 V1 V3 hca2
        rw [hmb] at x2 u2 x4 u4 V2 V4 hcb2
        rw [hm, Nat.add_sub_cancel] at vA vX
        rw [Nat.add_zero] at vB
        have hU : lastOf ga k = (ga[k]?.getD [])[m]?.getD 0 := by unfold lastOf; rw [hm, Nat.add_sub_cancel]
        have hT : firstOf gb k = (gb[k]?.getD [])[0]?.getD 0 := rfl
        obtain ⟨u, hu⟩ : ∃ u, u = (ga[k]?.getD [])[m]?.getD 0 := ⟨_, rfl⟩
        obtain ⟨t, ht⟩ : ∃ t, t = (gb[k]?.getD [])[0]?.getD 0 := ⟨_, rfl⟩
        rw [hU, hT] at hhal hHV
        rw [← hu] at vA hhal hHV
        rw [← ht] at vB hhal hHV
        obtain ⟨z, hz⟩ : ∃ z, z = halfOf ga gb k := ⟨_, rfl⟩
        rw [← hz] at vX hHV
        have hz1 : min u t ≤ z ∧ z ≤ max u t := by omega
        have X1 := Lib.hid x1
        have X2 := Lib.hid x2
        have X3 := Lib.hid x3
        have X4 := Lib.hid x4
        have VA := Lib.hid vA
        have VB := Lib.hid vB
        have VX := Lib.hid vX
        have r1 := (hbel.cell (p := ⟨b1, o1 + k, none⟩) (by show b1 < w5.heap.size; omega)).trans x1
        have HBE := Lib.hid hbel
        have w1' : IntKind.i64.wrap ((m : Int) + 1 - 1) = (m : Int) := by rw [Int.add_sub_cancel]; exact IntWalk.i64_in _ (by omega)
        have w2' : IntKind.i64.wrap (m : Int) = (m : Int) := IntWalk.i64_in _ (by omega)
        have gk : ∀ b, b < w3.heap.size → b < w5.heap.size := fun b hb => by omega
        have GK := Lib.hid gk
        clear v1 v2 v3 v4 y1 y2 y3 y4 x1 x2 x3 x4 vA vB vX eX eY nA nB hU hT hu ht hz hm hmb hHV hbel gk hhal hca hcb
        go_wp2
        clear r1
        obtain ⟨wo, rfl⟩ : ∃ wo : World, wo = wr := ⟨_, rfl⟩
        go_loopw [13] (fun i wi => ∃ j : Nat, j ≤ m ∧ i = .int .i64 j ∧ Below w5.heap.size w5 wi) (fun i _ => m - (intOf i).toNat)
        case atStart => exact ⟨0, Nat.zero_le _, rfl, HBE.out⟩
        case round =>
          obtain ⟨j, hj, rfl, hbel⟩ := hrel
          by_cases hjl : j < m
          · have i1 := (hbel.cell (p := ⟨b1, o1 + k, none⟩) (GK.out _ k1)).trans X1.out
            have i3 := (hbel.cell (p := ⟨b3, o3 + k, none⟩) (GK.out _ k3)).trans X3.out
            have i4 := (hbel.cell (p := ⟨q1, f1 + j, none⟩) (GK.out _ g1)).trans (V1.out j (by omega))
            have i5 := (hbel.cell (p := ⟨q3, f3 + j, none⟩) (GK.out _ g3)).trans (V3.out j (by omega))
            obtain ⟨s, hs⟩ : ∃ s, s = (ga[k]?.getD [])[j]?.getD 0 := ⟨_, rfl⟩
            rw [← hs] at i4 i5
            have hne : (s != s) = false := by simp
            have HBI := Lib.hid hbel
            have j1 : (j : Int) < (m : Int) + 1 := by omega
            clear hs hbel
            go_wp2
            go_quiet (fail)
            go_wp2
            go_roundw
            case rel => exact ⟨j + 1, by omega, by go_num, below_n HBI.out nq⟩
            case measure => simp [intOf]; omega
          · have HBI := Lib.hid hbel
            have i2 := (hbel.cell (p := ⟨b2, o2 + k, none⟩) (GK.out _ k2)).trans X2.out
            clear hbel
            go_wp2
            clear i2
            obtain ⟨wo2, rfl⟩ : ∃ wo : World, wo = wr := ⟨_, rfl⟩
            go_loopw [14] (fun i wi => ∃ j : Nat, 1 ≤ j ∧ j ≤ mb + 1 ∧ i = .int .i64 j ∧ Below w5.heap.size w5 wi) (fun i _ => mb + 1 - (intOf i).toNat)
            case atStart => exact ⟨1, Nat.le_refl _, by omega, rfl, HBI.out⟩
            case round =>
              obtain ⟨l, hl1, hl, rfl, hbel⟩ := hrel
              have i2 := (hbel.cell (p := ⟨b2, o2 + k, none⟩) (GK.out _ k2)).trans X2.out
              by_cases hll : l < mb + 1
              · have i4 := (hbel.cell (p := ⟨b4, o4 + k, none⟩) (GK.out _ k4)).trans X4.out
                have i5 := (hbel.cell (p := ⟨q2, f2 + l, none⟩) (GK.out _ g2)).trans (V2.out l (by omega))
                have i6 := (hbel.cell (p := ⟨q4, f4 + l, none⟩) (GK.out _ g4)).trans (V4.out l (by omega) (by omega))
                obtain ⟨s, hs⟩ : ∃ s, s = (gb[k]?.getD [])[l]?.getD 0 := ⟨_, rfl⟩
                rw [← hs] at i5 i6
                have hne : (s != s) = false := by simp
                have HBL := Lib.hid hbel
                clear hs hbel
                go_wp2
                go_quiet (fail)
                go_wp2
                go_roundw
                case rel => exact ⟨l + 1, by omega, by omega, by go_num, below_n HBL.out nq⟩
                case measure => simp [intOf]; omega
              · have i1 := (hbel.cell (p := ⟨b1, o1 + k, none⟩) (GK.out _ k1)).trans X1.out
                have i3 := (hbel.cell (p := ⟨b3, o3 + k, none⟩) (GK.out _ k3)).trans X3.out
                have i4 := (hbel.cell (p := ⟨q1, f1 + m, none⟩) (GK.out _ g1)).trans VA.out
                have i5 := (hbel.cell (p := ⟨q2, f2, none⟩) (GK.out _ g2)).trans VB.out
                have i6 := (hbel.cell (p := ⟨q3, f3 + m, none⟩) (GK.out _ g3)).trans VX.out
                have HBL := Lib.hid hbel
                have jm1 : (m : Int) < (m : Int) + 1 := by omega
                have jm2 : (0 : Int) < (mb : Int) + 1 := by omega
                clear hbel
                have hlo : (decide (z < min u t)) = false := decide_eq_false (by omega)
                have hhi : (decide (max u t < z)) = false := decide_eq_false (by omega)
                go_wp2
                go_quiet (fail)
                go_wp2
                go_roundw
                case rel => exact ⟨k + 1, by omega, by go_num, below_n HBL.out nq⟩
                case measure => simp [intOf]; omega
      · obtain rfl : k = N := by omega
        have sz := hbel.size
        have HBE := Lib.hid hbel
        clear hbel
        replace X := Lib.hid (X.out.below HBE.out (by omega))
        replace Y := Lib.hid (Y.out.below HBE.out (by omega))
        replace B := Lib.hid (B.out.trans (HBE.out.mono (by omega)))
        go_wp2_with fail
        have X1 : Grid wr (.slice (some ⟨b3, o3, none⟩) k c3) (mendA ga gb ga.length) := by rw [HN.out]; exact X.out.grid (by omega)
        have Y1 : Grid wr (.slice (some ⟨b4, o4, none⟩) k c4) (mendB ga gb ga.length) := by rw [HN.out]; exact Y.out.grid (by omega)
        with_reducible refine (GridsAgree_any _ _ _ _ _ X1 Y1).mono ?_
        rintro e w6 ⟨rfl, hb6⟩
        rw [mend_gap HS.out]
        go_wp2
        go_ret
        exact ⟨rfl, B.out.trans (hb6.mono (by omega))⟩
  · rw [mendAll_no hs] at X Y X' Y'
    have e1 := Lib.hid (decide_eq_false hs)
    rw [e1.out]
    clear hs
    go_wp2_with fail
    refine (sameGrid_b _ _ _ _ _ (X.out.grid (by omega)) (X'.out.grid (by omega))).mono ?_
    rintro e w4 ⟨rfl, hb4⟩
    rw [decide_eq_true rfl]
    have s4 := hb4.size
    replace X := Lib.hid (X.out.below hb4 (by omega))
    replace X' := Lib.hid (X'.out.below hb4 (by omega))
    replace Y := Lib.hid (Y.out.below hb4 (by omega))
    replace Y' := Lib.hid (Y'.out.below hb4 (by omega))
    replace B := Lib.hid (B.out.trans (hb4.mono (by omega)))
    clear hb4
    go_wp2_with fail
    refine (sameGrid_b _ _ _ _ _ (Y.out.grid (by omega)) (Y'.out.grid (by omega))).mono ?_
    rintro e w5 ⟨rfl, hb5⟩
    rw [decide_eq_true rfl]
    have s5 := hb5.size
    replace X := Lib.hid (X.out.below hb5 (by omega))
    replace X' := Lib.hid (X'.out.below hb5 (by omega))
    replace Y := Lib.hid (Y.out.below hb5 (by omega))
    replace Y' := Lib.hid (Y'.out.below hb5 (by omega))
    replace B := Lib.hid (B.out.trans (hb5.mono (by omega)))
    clear hb5
    go_wp2_with fail
    refine (sameGrid_b _ _ _ _ _ (X.out.grid (by omega)) (X'.out.grid (by omega))).mono ?_
    rintro e w6 ⟨rfl, hb6⟩
    rw [decide_eq_true rfl]
    have s6 := hb6.size
    replace Y := Lib.hid (Y.out.below hb6 (by omega))
    replace Y' := Lib.hid (Y'.out.below hb6 (by omega))
    replace B := Lib.hid (B.out.trans (hb6.mono (by omega)))
    clear hb6
    go_wp2_with fail
    refine (sameGrid_b _ _ _ _ _ (Y.out.grid (by omega)) (Y'.out.grid (by omega))).mono ?_
    rintro e w7 ⟨rfl, hb7⟩
    rw [decide_eq_true rfl]
    go_wp2
    go_ret
    exact ⟨rfl, B.out.trans (hb7.mono (by omega))⟩
end Go.Proofs.Ytebhbcjioolpeaa
namespace Go.Proofs.Ytebhbcjioolpeaa.fnGridsMend
open Go.ChangeShapes Go.WideShapes Go.ChangeAt Go.RowKit
set_option linter.unusedVariables false

theorem own : ownKnob Try.prog.godebug = none := by kernel_rfl
theorem laidOut : laidOutB Try.prog = true := fact_laid
set_option maxRecDepth 100000 in
theorem lifted (os : Os) (started : os.Started) (H : Type) (enc : TypeId × Value → H) :
    ReturnsInHanded {} Try.checked os 7 .any (Rows.fnGridsMendSpec.pre6 enc Try.prog Try.f7 Rows.fnGridsMendRow.domain false) (Rows.fnGridsMendSpec.post enc Try.prog Try.f7 false true false false) := by
  refine returnsInHanded_of_change (C := Try.checked) own started (by kernel_rfl) Try.func7
    (ChangeSpec.witness6 (enc := enc) (C := Try.checked) false ⟨#[], #[.slice none 0 0], []⟩ 8 (by kernel_rfl) (by kernel_rfl) (by kernel_rfl) (by kernel_rfl)) ?_
  intro W base args ds gs before hval0 hW hcnd _
  have hval : ∀ (j : Nat) t v, Try.f7.params[j]? = some t → args[j]? = some v → Value.okWide Try.prog W .any base t v := hval0
  have hW' := hW
  obtain ⟨p, q, hA0, hV, rfl, hfz, hnd⟩ := hW
  have hA : DataW.TrodAll enc Try.prog W 0 (fun _ => true) true Try.f7.params.toList args.toList ds p := hA0
  rw [Try.params7] at hA hval
  obtain ⟨v0, vs0, d0, ds0, p0, q0, hargs, rfl, rfl, h0, r0⟩ := trodAll_cons hA
  obtain ⟨rfl, rfl, rfl⟩ := trodAll_nil r0
  obtain rfl : args = #[v0] := by cases args; simp_all
  obtain ⟨rfl, rfl⟩ := trodVars_none hV
  obtain ⟨a0, len0, cap0, rfl⟩ := okWide_slice Try.underlying29 (hval 0 29 v0 rfl rfl)
  have k0 := h0
  have lt0 : ∀ x ∈ p0, x.block < W.heap.size := by obtain ⟨m, hm⟩ := k0; exact DataW.trod_lt m _ _ _ hm
  obtain ⟨z0, w0⟩ : ∃ zs, Bytes W (.slice a0 len0 cap0) zs := bytes_opened h0
  clear hA0 hval0
  refine (FnGridsMend_walk _ z0 W w0).mono fun e W' ⟨he, bel⟩ => ?_
  subst he
  exact ⟨_, rfl, _, _, _, [], _, [], hW', trodAll_mk1 (shut_bool Try.underlying4 _), (trodAll_cons_mk (Below.trod laidOut (by kernel_rfl) (of_decide_eq_true (by kernel_rfl)) k0 bel lt0) trodAll_mk0), rfl, bel.frame _, fun h => by cases h⟩
theorem fact_inPlace : (Rows.fnGridsMendRow.inPlace == Try.prog.inPlace 7) = true := by kernel_rfl
theorem fact_unfollowed : (Rows.fnGridsMendRow.unfollowed == Try.prog.unfollowed 7) = true := by kernel_rfl
theorem fact_recurses : (Rows.fnGridsMendRow.recurses == Try.prog.recurses 7) = true := by kernel_rfl
theorem fact_named : (Rows.fnGridsMendRow.named == Try.prog.varsNamed 7) = true := by kernel_rfl
theorem fact_plain : (Rows.fnGridsMendRow.plainKeys == Try.prog.plainKeys) = true := by kernel_rfl
theorem joined : joinedFacts Try.pinned.checked.prog 7 Try.f7 Rows.fnGridsMendSpec Rows.fnGridsMendRow = true :=
  joined_of (f := 7) (fn := Try.f7) (s := Rows.fnGridsMendSpec) (c := Rows.fnGridsMendRow) (by kernel_rfl) (by kernel_rfl) (by kernel_rfl) (by kernel_rfl) (by kernel_rfl) fact_inPlace fact_unfollowed fact_recurses fact_named (by kernel_rfl) (by kernel_rfl) (by kernel_rfl) (by kernel_rfl) (by kernel_rfl) (by kernel_rfl) (by kernel_rfl) (by kernel_rfl) (by kernel_rfl) fact_plain (by kernel_rfl) rfl rfl (by kernel_rfl) (by kernel_rfl) (by kernel_rfl) (by kernel_rfl)

/-- the statement -/
theorem proved : Rows.FnGridsMendSaid :=
  OpenClaim.holds_of_wide 7 Try.f7 rfl rfl rfl rfl rfl rfl rfl ⟨rfl, rfl, rfl, rfl, rfl⟩ rfl rfl rfl rfl rfl (by kernel_rfl) Try.func7 joined
    (of_decide_eq_true (by kernel_rfl)) (by unfold Func.isWrapper; first | (rw [if_pos (by decide +kernel)]; kernel_rfl) | (rw [if_neg (by decide +kernel)]; exact ⟨rfl, rfl⟩))
    (fun os started H enc _ => lifted os started H enc)
#print axioms proved
end Go.Proofs.Ytebhbcjioolpeaa.fnGridsMend
