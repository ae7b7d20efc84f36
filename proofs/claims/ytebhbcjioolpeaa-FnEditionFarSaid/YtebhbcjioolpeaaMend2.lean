/-
  The reference's GridsMend. No condition but that the slices read as the lists.
-/
import Derived.Test.YtebhbcjioolpeaaMend
import Derived.Test.YtebhbcjioolpeaaGap2
namespace Go.Proofs.Ytebhbcjioolpeaa
open Go.RowKit Go.Deep Go.Sort BigFrame

theorem mendA_len (ga gb : Rows) (k : Nat) : (mendA ga gb k).length = ga.length := by simp [mendA]
theorem mendB_len (ga gb : Rows) (k : Nat) : (mendB ga gb k).length = gb.length := by simp [mendB]
theorem mendA_get (ga gb : Rows) (k i : Nat) (hi : i < ga.length) : (mendA ga gb k)[i]?.getD [] = if i < k then (ga[i]?.getD []).set (colsOf ga - 1) (halfOf ga gb i) else ga[i]?.getD [] := by simp [mendA, hi]
theorem mendB_get (ga gb : Rows) (k i : Nat) (hi : i < gb.length) : (mendB ga gb k)[i]?.getD [] = if i < k then (gb[i]?.getD []).set 0 (halfOf ga gb i) else gb[i]?.getD [] := by simp [mendB, hi]
theorem mendA_set (ga gb : Rows) (k : Nat) (hk : k < ga.length) : (mendA ga gb k).set k (((mendA ga gb k)[k]?.getD []).set (colsOf ga - 1) (halfOf ga gb k)) = mendA ga gb (k + 1) := by
  refine rows_eq (by simp [mendA_len]) fun i hi => ?_
  have hi : i < ga.length := by simpa [mendA_len] using hi
  rw [setR_get (by rw [mendA_len]; exact hk), mendA_get _ _ _ _ hi, mendA_get _ _ _ _ hi, mendA_get _ _ _ _ hk, if_neg (by omega : ¬ k < k)]
  by_cases e : i = k
  · subst e; rw [if_pos rfl, if_pos (by omega)]
  · rw [if_neg e]
    by_cases e2 : i < k
    · rw [if_pos e2, if_pos (by omega)]
    · rw [if_neg e2, if_neg (by omega)]
theorem mendB_set (ga gb : Rows) (k : Nat) (hk : k < gb.length) : (mendB ga gb k).set k (((mendB ga gb k)[k]?.getD []).set 0 (halfOf ga gb k)) = mendB ga gb (k + 1) := by
  refine rows_eq (by simp [mendB_len]) fun i hi => ?_
  have hi : i < gb.length := by simpa [mendB_len] using hi
  rw [setR_get (by rw [mendB_len]; exact hk), mendB_get _ _ _ _ hi, mendB_get _ _ _ _ hi, mendB_get _ _ _ _ hk, if_neg (by omega : ¬ k < k)]
  by_cases e : i = k
  · subst e; rw [if_pos rfl, if_pos (by omega)]
  · rw [if_neg e]
    by_cases e2 : i < k
    · rw [if_pos e2, if_pos (by omega)]
    · rw [if_neg e2, if_neg (by omega)]
theorem mendA_zero (ga gb : Rows) : mendA ga gb 0 = ga := rows_eq (mendA_len ..) fun i hi => by rw [mendA_len] at hi; rw [mendA_get _ _ _ _ hi, if_neg (by omega)]
theorem mendB_zero (ga gb : Rows) : mendB ga gb 0 = gb := rows_eq (mendB_len ..) fun i hi => by rw [mendB_len] at hi; rw [mendB_get _ _ _ _ hi, if_neg (by omega)]

set_option maxHeartbeats 2000000 in
set_option maxRecDepth 100000 in
theorem specGridsMend_any (va vb : Value) (ga gb : Rows) (w : World) (ha : Grid w va ga) (hb : Grid w vb gb) :
    Calls Try.prog 28 #[va, vb] w fun e w' => ∃ x y m, e = .returned (.tuple #[x, y, .bool (decide (Same ga gb))]) ∧ w.heap.size ≤ m ∧ m ≤ w'.heap.size ∧ OwnG w.heap.size m w' x (mendAll ga gb).1 ∧ OwnG m w'.heap.size w' y (mendAll ga gb).2 ∧ Below w.heap.size w w' := by
  have C := Lib.hid (l7Rows_any va vb ga gb w ha hb)
  have HA := Lib.hid (show GridB w.heap.size w va ga from ha)
  have HB := Lib.hid (show GridB w.heap.size w vb gb from hb)
  by_cases hs : Same ga gb
  · rw [mendAll_yes hs]
    obtain ⟨a, ca, rfl, ha1, ha2, ha3⟩ := ha
    obtain ⟨b, cb, rfl, hb1, hb2, hb3⟩ := hb
    have e1 := Lib.hid (decide_eq_true hs)
    have HS := Lib.hid hs
    have hgl := hs.1.1
    have hgl2 := hs.1.2.1
    have hl : Hid (gb.length = ga.length) := hs.2.2.symm
    obtain ⟨b1, off1, rfl, hb1', hcell1⟩ := ha3 (by omega)
    obtain ⟨b2, off2, rfl, hb2', hcell2⟩ := hb3 (by have := hl.out; omega)
    have HC1 := Lib.hid hcell1
    have HC2 := Lib.hid hcell2
    have HRA : Hid (∀ k, k < ga.length → (ga[k]?.getD []).length = colsOf ga) := fun k hk => (HS.out.1.2.2.2.2 k hk).1
    have HRB : Hid (∀ k, k < gb.length → (gb[k]?.getD []).length = colsOf gb) := fun k hk => (HS.out.2.1.2.2.2.2 k hk).1
    have HALF : Hid (∀ k, k < ga.length → 0 ≤ lastOf ga k + firstOf gb k ∧ lastOf ga k + firstOf gb k ≤ 198) := half_small hs
    have hca := hs.1.2.2.1
    have hca2 := hs.1.2.2.2.1
    have hcb := hs.2.1.2.2.1
    have hcb2 := hs.2.1.2.2.2.1
    clear ha3 hb3 hcell1 hcell2 hs
    go_enter Try.func28, Try.ntmps28
    go_wp2_with fail
    refine C.out.mono ?_
    rintro e w1 ⟨rfl, b1'⟩
    rw [e1.out]
    have B1 := Lib.hid b1'
    have z1 := b1'.size
    clear b1' C
    go_wp2_with fail
    refine (l1Copy_any _ ga _ ((HA.out.below B1.out (Nat.le_refl _)).grid z1) (by omega) (fun j hj => by rw [HRA.out j hj]; omega)).mono ?_
    rintro e w2 ⟨x, rfl, hOx, b2'⟩
    have B2 := Lib.hid (B1.out.trans (b2'.mono z1))
    have z2 := b2'.size
    have HX0 := Lib.hid hOx
    clear b2' hOx
    go_wp2_with fail
    refine (l1Copy_any _ gb _ ((HB.out.below B2.out (Nat.le_refl _)).grid (by omega)) (by have := hl.out; omega) (fun j hj => by rw [HRB.out j hj]; omega)).mono ?_
    rintro e w3 ⟨y, rfl, hOy, b3'⟩
    have B3 := Lib.hid (B2.out.trans (b3'.mono (by omega)))
    have z3 := b3'.size
    have HX1 := Lib.hid (HX0.out.below b3' (Nat.le_refl _))
    have HY1 := Lib.hid hOy
    clear b3' hOy
    obtain ⟨L0, hL0⟩ : ∃ L, L = w1.heap.size := ⟨_, rfl⟩
    obtain ⟨L1, hL1⟩ : ∃ L, L = w2.heap.size := ⟨_, rfl⟩
    obtain ⟨L2, hL2⟩ : ∃ L, L = w3.heap.size := ⟨_, rfl⟩
    rw [← hL0, ← hL1] at HX1
    rw [← hL1, ← hL2] at HY1
    rw [← hL0] at z1 z2
    rw [← hL1] at z2 z3
    rw [← hL2] at z3
    have HL2 := Lib.hid hL2
    clear hL0 hL1 hL2
    go_wp2
    go_loopw [9, 10, 11] (fun i _ _ wr => ∃ k : Nat, k ≤ ga.length ∧ i = .int .i64 k ∧ OwnG L0 L1 wr x (mendA ga gb k) ∧ OwnG L1 L2 wr y (mendB ga gb k) ∧ L2 ≤ wr.heap.size ∧ Below w.heap.size w wr) (fun i _ _ _ => ga.length - (intOf i).toNat)
    case atStart => exact ⟨0, Nat.zero_le _, rfl, by rw [mendA_zero]; exact HX1.out, by rw [mendB_zero]; exact HY1.out, by rw [HL2.out]; exact Nat.le_refl _, B3.out⟩
    case round =>
      obtain ⟨k, hk, rfl, hOx, hOy, hL2w, hbel⟩ := hrel
      by_cases hlt : k < ga.length
      · have hkb : k < gb.length := by have := hl.out; omega
        obtain ⟨r1, x1, y1⟩ := HC1.out k hlt
        obtain ⟨r2, x2, y2⟩ := HC2.out k hkb
        have n1 := HRA.out k hlt
        have n2 := HRB.out k hkb
        have hhal := HALF.out k hlt
        obtain ⟨p1, d1, rfl, o1, o2, o3⟩ := y1
        obtain ⟨p2, d2, rfl, o4, o5, o6⟩ := y2
        rw [n1] at x1 o1
        rw [n2] at x2 o4
        obtain ⟨m1, f1, rfl, q1, v1⟩ := o3 (by omega)
        obtain ⟨m2, f2, rfl, q2, v2⟩ := o6 (by omega)
        have v1 := v1 (colsOf ga - 1) (by omega)
        have v2 := v2 0 (by omega)
        have j1 := (hbel.cell (p := ⟨b1, off1 + k, none⟩) hb1').trans x1
        have j2 := (hbel.cell (p := ⟨b2, off2 + k, none⟩) hb2').trans x2
        have j3 := (hbel.cell (p := ⟨m1, f1 + (colsOf ga - 1), none⟩) q1).trans v1
        have j4 := (hbel.cell (p := ⟨m2, f2 + 0, none⟩) q2).trans v2
        have hHV : halfOf ga gb k = (lastOf ga k + firstOf gb k).tdiv 2 := rfl
        obtain ⟨u, hu⟩ : ∃ u, u = (ga[k]?.getD [])[colsOf ga - 1]?.getD 0 := ⟨_, rfl⟩
        obtain ⟨t, ht⟩ : ∃ t, t = (gb[k]?.getD [])[0]?.getD 0 := ⟨_, rfl⟩
        have hu2 : lastOf ga k = u := hu.symm
        have ht2 : firstOf gb k = t := ht.symm
        rw [hu2, ht2] at hhal hHV
        rw [← hu] at j3
        rw [← ht] at j4
        have mlen : ((mendA ga gb k)[k]?.getD []).length = colsOf ga := by rw [mendA_get _ _ _ _ hlt, if_neg (by omega)]; exact n1
        have nlen : ((mendB ga gb k)[k]?.getD []).length = colsOf gb := by rw [mendB_get _ _ _ _ hkb, if_neg (by omega)]; exact n2
        obtain ⟨m, hm⟩ : ∃ m, colsOf ga = m + 1 := ⟨colsOf ga - 1, by omega⟩
        obtain ⟨mb, hmb⟩ : ∃ m, colsOf gb = m + 1 := ⟨colsOf gb - 1, by omega⟩
        rw [hm, Nat.add_sub_cancel] at j3
        rw [hm] at j1 o1 mlen hca2
        rw [hmb] at j2 o4 nlen hcb2
        rw [Nat.add_zero] at j4
        have SA := Lib.hid (mendA_set ga gb k hlt)
        have SB := Lib.hid (mendB_set ga gb k hkb)
        rw [hm, Nat.add_sub_cancel] at SA
        have w1' := wrap_small (x := (m : Int) + 1 - 1) (by omega) (by omega)
        have w2' := wrap_small (x := u + t) (by omega) (by omega)
        have HHV := Lib.hid hHV
        have HOX := Lib.hid hOx
        have HOY := Lib.hid hOy
        have HBE := Lib.hid hbel
        have MLEN := Lib.hid mlen
        have NLEN := Lib.hid nlen
        have hlx : k < (mendA ga gb k).length := by rw [mendA_len]; exact hlt
        have hly : k < (mendB ga gb k).length := by rw [mendB_len]; exact hkb
        have HLX := Lib.hid hlx
        have HLY := Lib.hid hly
        clear hu ht hu2 ht2 hOx hOy hbel v1 v2 x1 x2 o3 o6 n1 n2 hHV mlen nlen hm hmb hlx hly
        go_wp2
        go_quiet (fail)
        have hz' : (u + t) / 2 = halfOf ga gb k := by rw [HHV.out, Int.tdiv_eq_ediv_of_nonneg hhal.1]
        obtain ⟨z, hz⟩ : ∃ z, z = (u + t) / 2 := ⟨_, rfl⟩
        rw [← hz] at hz' ⊢
        rw [← hz'] at SA SB
        have HO1 := HOX.out.touch ((Touch.refl L2 L2 wr).drewN nq) (.inl z3)
        have HO2 := HOY.out.touch ((Touch.refl L2 L2 wr).drewN nq) (.inl (Nat.le_refl _))
        have HB5 := Lib.hid (below_n HBE.out nq)
        replace hL2w : L2 ≤ (wr.drewN nq).heap.size := hL2w
        obtain ⟨wp, hwp⟩ : ∃ wp, wp = wr.drewN nq := ⟨_, rfl⟩
        rw [← hwp] at HO1 HO2 HB5 hL2w ⊢
        clear hz hz' hwp j1 j2 j3 j4
        obtain ⟨bx, ox, cx, bx2, ox2, cx2, hxv, s1, s2, s3, s4, s5, s6, s7, s8⟩ := HO1.cell (r := k) (c := m) HLX.out (by rw [MLEN.out]; omega)
        rw [MLEN.out] at s1 s6
        rw [mendA_len] at hxv
        subst hxv
        have T1 := (Touch.refl L0 L1 wp).setCell (p := ⟨bx2, ox2 + m, none⟩) s4 s5 (.int .i64 z)
        obtain ⟨by0, oy, cy, by2, oy2, cy2, hyv, t1, t2, t3, t4, t5, t6, t7, t8⟩ := (HO2.touch T1 (.inr (Nat.le_refl _))).cell (r := k) (c := 0) HLY.out (by rw [NLEN.out]; omega)
        rw [NLEN.out] at t1 t6
        rw [mendB_len] at hyv
        subst hyv
        rw [Nat.add_zero] at t2 t3
        have HSB := Lib.hid (t8 z)
        have HSA := Lib.hid ((s8 z).touch ((Touch.refl L1 L2 _).setCell (p := ⟨by2, oy2 + 0, none⟩) t4 t5 (.int .i64 z)) (.inl (Nat.le_refl _)))
        rw [Nat.add_zero] at HSA HSB
        rw [SA.out] at HSA
        rw [SB.out] at HSB
        have HBF := Lib.hid ((HB5.out.setCell (p := ⟨bx2, ox2 + m, none⟩) (by show w.heap.size ≤ bx2; omega) (.int .i64 z)).setCell (p := ⟨by2, oy2, none⟩) (by show w.heap.size ≤ by2; omega) (.int .i64 z))
        have HSZ : Hid (L2 ≤ ((wp.setCell ⟨bx2, ox2 + m, none⟩ (.int .i64 z)).setCell ⟨by2, oy2, none⟩ (.int .i64 z)).heap.size) := by show L2 ≤ _; simp [World.setCell]; exact hL2w
        generalize ((mendA ga gb k)[k]?.getD [])[m]?.getD 0 = oldx at s2
        generalize ((mendB ga gb k)[k]?.getD [])[0]?.getD 0 = oldy at t2
        clear s8 t8 HO1 HO2 T1
        go_wp2
        go_roundw
        case rel => exact ⟨k + 1, by omega, by go_num, HSA.out, HSB.out, HSZ.out, HBF.out⟩
        case measure => simp [intOf]; omega
      · obtain rfl : k = ga.length := by omega
        have HX := Lib.hid hOx
        have HY := Lib.hid hOy
        have HB := Lib.hid hbel
        clear hOx hOy hbel
        go_wp2
        go_ret3
        exact ⟨_, _, L1, by rw [e1.out]; first | done | rfl, by omega, by omega, HX.out.mono z1 (Nat.le_refl _), HY.out.mono (Nat.le_refl _) hL2w, HB.out⟩
  · rw [mendAll_no hs]
    have e1 := Lib.hid (decide_eq_false hs)
    clear ha hb hs
    go_enter Try.func28, Try.ntmps28
    go_wp2_with fail
    refine C.out.mono ?_
    rintro e w1 ⟨rfl, b1⟩
    rw [e1.out]
    have B1 := Lib.hid b1
    have z1 := b1.size
    clear b1 C
    go_wp2
    go_ret3
    exact ⟨_, _, w.heap.size, by rw [e1.out]; first | done | rfl, Nat.le_refl _, by simp; omega, .inl ⟨rfl, _, _, rfl, by omega⟩, .inl ⟨rfl, _, _, rfl, by omega⟩, (B1.out.alloc z1 _).alloc (by simp; omega) _⟩
theorem mend_small (ga gb : Rows) : (mendAll ga gb).1.length ≤ 1048576 ∧ (∀ j, j < (mendAll ga gb).1.length → ((mendAll ga gb).1[j]?.getD []).length ≤ 1048576) ∧ (mendAll ga gb).2.length ≤ 1048576 ∧ (∀ j, j < (mendAll ga gb).2.length → ((mendAll ga gb).2[j]?.getD []).length ≤ 1048576) := by
  by_cases h : Same ga gb
  · rw [mendAll_yes h]
    have h1 := h.1.2.1
    have h2 := h.1.2.2.2.1
    have h3 := h.2.1.2.1
    have h4 := h.2.1.2.2.2.1
    refine ⟨by rw [mendA_len]; omega, fun j hj => ?_, by rw [mendB_len]; omega, fun j hj => ?_⟩
    · rw [mendA_len] at hj
      have := (h.1.2.2.2.2 j hj).1
      dsimp only
      rw [mendA_get _ _ _ _ hj]
      split
      · rw [List.length_set]; omega
      · omega
    · rw [mendB_len] at hj
      have := (h.2.1.2.2.2.2 j hj).1
      dsimp only
      rw [mendB_get _ _ _ _ hj]
      split
      · rw [List.length_set]; omega
      · omega
  · rw [mendAll_no h]
    exact ⟨by simp, fun j hj => by simp, by simp, fun j hj => by simp⟩
end Go.Proofs.Ytebhbcjioolpeaa
