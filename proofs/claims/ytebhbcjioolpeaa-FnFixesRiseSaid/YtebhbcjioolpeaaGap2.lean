/-
  The reference's GridValid, l7Rows, l7Size, GridsGap, GridsAgree. No condition but that the slices read as the lists.
-/
import Derived.Test.YtebhbcjioolpeaaGap
namespace Go.Proofs.Ytebhbcjioolpeaa
open Go.RowKit Go.Deep Go.Sort

set_option maxHeartbeats 400000 in
theorem l6In_yes (n low high : Int) (w : World) (h1 : low ≤ n) (h2 : n ≤ high) :
    Calls Try.prog 99 #[.int .i64 n, .int .i64 low, .int .i64 high] w fun e w' => e = .returned (.bool true) ∧ w = w' := by
  have t1 : decide (low ≤ n) = true := decide_eq_true h1
  have t2 : decide (n ≤ high) = true := decide_eq_true h2
  go_enter Try.func99, Try.ntmps99
  go_wp2
  go_ret
  exact ⟨rfl, rfl⟩
set_option maxHeartbeats 400000 in
theorem l6In_no (n low high : Int) (w : World) (h : n < low ∨ high < n) :
    Calls Try.prog 99 #[.int .i64 n, .int .i64 low, .int .i64 high] w fun e w' => e = .returned (.bool false) ∧ w = w' := by
  by_cases h1 : n < low
  · have t1 : decide (low ≤ n) = false := decide_eq_false (by omega)
    clear h
    go_enter Try.func99, Try.ntmps99
    go_wp2
    go_ret
    exact ⟨rfl, rfl⟩
  · have t1 : decide (low ≤ n) = true := decide_eq_true (by omega)
    have t2 : decide (n ≤ high) = false := decide_eq_false (by omega)
    clear h
    go_enter Try.func99, Try.ntmps99
    go_wp2
    go_ret
    exact ⟨rfl, rfl⟩

set_option maxHeartbeats 400000 in
theorem l7Size_any (n : Int) (w : World) (h1 : -1000000 ≤ n) (h2 : n ≤ 1000000) :
    Calls Try.prog 63 #[.int .i64 n] w fun e w' => e = .returned (.int .i64 (max n (-n))) ∧ w' = w := by
  go_enter Try.func63, Try.ntmps63
  go_wp2
  all_goals (go_ret; exact ⟨ret_int (by omega), rfl⟩)

set_option maxHeartbeats 2000000 in
set_option maxRecDepth 100000 in
theorem specGridValid_any (v : Value) (g : Rows) (w : World) (h : Grid w v g) :
    Calls Try.prog 85 #[v] w fun e w' => e = .returned (.bool (decide (GridOk g))) ∧ Below w.heap.size w w' := by
  obtain ⟨a, cap, rfl, h1, h2, h3⟩ := h
  by_cases g1 : 1 ≤ g.length ∧ g.length ≤ 7
  · obtain ⟨b, off, rfl, hb, hcell⟩ := h3 (by omega)
    obtain ⟨r0, c0, i0⟩ := hcell 0 (by omega)
    obtain ⟨x0, cap0, rfl, e0, _⟩ := i0
    have ec : (g[0]?.getD []).length = colsOf g := rfl
    rw [ec] at c0 e0
    rw [Nat.add_zero] at c0
    have HC := Lib.hid hcell
    clear hcell h3 ec
    have hgl := g1.1
    by_cases g3 : 1 ≤ colsOf g ∧ colsOf g ≤ 7
    · have ho : ∀ p : Prop, p → p := fun _ h => h
      clear ho
      have HO : Hid ((∀ i, i < g.length → RowOk (colsOf g) (g[i]?.getD [])) ↔ GridOk g) := ⟨fun h => ⟨g1.1, g1.2, g3.1, g3.2, h⟩, fun h => h.2.2.2.2⟩
      obtain ⟨c, hc⟩ : ∃ c, c = colsOf g := ⟨_, rfl⟩
      rw [← hc] at c0 e0 g3 HO
      clear hc
      go_enter Try.func85, Try.ntmps85
      go_wp2_with fail
      refine (l6In_yes _ _ _ _ (by omega) (by omega)).mono ?_
      rintro e w' ⟨rfl, rfl⟩
      go_wp2_with fail
      refine (l6In_yes _ _ _ _ (by omega) (by omega)).mono ?_
      rintro e w' ⟨rfl, rfl⟩
      go_wp2
      go_loopw [3, 4] (fun i _ wr => ∃ k : Nat, k ≤ g.length ∧ i = .int .i64 k ∧ (∀ i, i < k → RowOk c (g[i]?.getD [])) ∧ Below w.heap.size w wr) (fun i _ _ => g.length - (intOf i).toNat)
      case atStart => exact ⟨0, Nat.zero_le _, rfl, fun i hi => absurd hi (Nat.not_lt_zero _), Below.refl _ _⟩
      case round =>
        obtain ⟨k, hk, rfl, hdone, hbel⟩ := hrel
        by_cases hlt : k < g.length
        · obtain ⟨r, c1, i1⟩ := HC.out k hlt
          have c2 : wr.cell? ⟨b, off + k, none⟩ = some r := (hbel.cell (p := ⟨b, off + k, none⟩) hb).trans c1
          have c3 := (hbel.cell (p := ⟨b, off, none⟩) hb).trans c0
          obtain ⟨lk, hlk⟩ : ∃ l, l = g[k]?.getD [] := ⟨_, rfl⟩
          rw [← hlk] at i1
          obtain ⟨xk, capk, rfl, q1, q2, q3⟩ := i1
          have HQ := Lib.hid q3
          have HD := Lib.hid hdone
          have HLK := Lib.hid hlk
          have HB := Lib.hid hbel
          have c2' := Lib.hid c1
          clear q3 hdone hlk hbel c1
          by_cases hl : lk.length = c
          · have HL := Lib.hid hl
            have c2'' := c2'.out
            rw [hl] at c2 c2'' q1
            replace c2' := Lib.hid c2''
            clear c2'' hl
            go_wp2
            go_quiet (fail)
            go_wp2
            have HB0 := Lib.hid (below_n HB.out nq)
            obtain ⟨wo, hwo⟩ : ∃ wo, wo = wr.drewN nq := ⟨_, rfl⟩
            rw [← hwo] at HB0 ⊢
            clear hwo c2 c3
            go_loopw [4] (fun i wi => ∃ j : Nat, j ≤ c ∧ i = .int .i64 j ∧ (∀ i, i < j → 0 ≤ lk[i]?.getD 0 ∧ lk[i]?.getD 0 ≤ 99) ∧ Below w.heap.size w wi) (fun i _ => c - (intOf i).toNat)
            case atStart => exact ⟨0, Nat.zero_le _, rfl, fun i hi => absurd hi (Nat.not_lt_zero _), HB0.out⟩
            case round =>
              obtain ⟨j, hj, rfl, hgood, hbel⟩ := hrel
              have c4 := (hbel.cell (p := ⟨b, off + k, none⟩) hb).trans c2'.out
              by_cases hjl : j < c
              · obtain ⟨b2, off2, rfl, hb2, hcell2⟩ := HQ.out (by rw [HL.out]; omega)
                have c5 := (hbel.cell (p := ⟨b2, off2 + j, none⟩) hb2).trans (hcell2 j (by rw [HL.out]; omega))
                obtain ⟨y, hy⟩ : ∃ y, y = lk[j]?.getD 0 := ⟨_, rfl⟩
                rw [← hy] at c5
                have HGD := Lib.hid hgood
                have HBI := Lib.hid hbel
                have HY := Lib.hid hy
                clear hcell2 hgood hbel hy
                by_cases hyy : 0 ≤ y ∧ y ≤ 99
                · go_wp2_with fail
                  refine (l6In_yes _ _ _ _ hyy.1 hyy.2).mono ?_
                  rintro e w' ⟨rfl, rfl⟩
                  go_wp2
                  go_roundw
                  case rel =>
                    refine ⟨j + 1, by omega, by go_num, fun i hi => ?_, HBI.out⟩
                    by_cases e : i = j
                    · rw [e, ← HY.out]; exact hyy
                    · exact HGD.out i (by omega)
                  case measure => simp [intOf]; omega
                · go_wp2_with fail
                  refine (l6In_no _ _ _ _ (by omega)).mono ?_
                  rintro e w' ⟨rfl, rfl⟩
                  go_wp2
                  go_ret
                  exact ⟨ret_bool (decide_eq_false fun h => hyy (by
                    have := (HO.out.2 h k hlt).2 j (by rw [← HLK.out, HL.out]; omega)
                    rw [← HLK.out, ← HY.out] at this
                    exact this)).symm, HBI.out⟩
              · have HGD := Lib.hid hgood
                have HBI := Lib.hid hbel
                clear hgood hbel
                go_wp2
                go_roundw
                case rel =>
                  refine ⟨k + 1, by omega, by go_num, fun i hi => ?_, HBI.out⟩
                  by_cases e : i = k
                  · rw [e, ← HLK.out]
                    exact ⟨HL.out, fun i hi => HGD.out i (by have := HL.out; omega)⟩
                  · exact HD.out i (by omega)
                case measure => simp [intOf]; omega
          · have hl2 : ((lk.length : Int) != (c : Int)) = true := by simp; omega
            go_wp2
            go_quiet (fail)
            go_wp2
            go_ret
            exact ⟨ret_bool (decide_eq_false fun h => hl (by have := (HO.out.2 h k hlt).1; rwa [← HLK.out] at this)).symm, below_n HB.out nq⟩
        · have hok : GridOk g := HO.out.1 (fun i hi => hdone i (by omega))
          have HOK := Lib.hid hok
          have HB := Lib.hid hbel
          clear hdone hok hbel
          go_wp2
          go_ret
          exact ⟨ret_bool (decide_eq_true HOK.out).symm, HB.out⟩
    · have hno : Hid (¬ GridOk g) := fun h => g3 ⟨h.2.2.1, h.2.2.2.1⟩
      go_enter Try.func85, Try.ntmps85
      go_wp2_with fail
      refine (l6In_yes _ _ _ _ (by omega) (by omega)).mono ?_
      rintro e w' ⟨rfl, rfl⟩
      go_wp2_with fail
      refine (l6In_no _ _ _ _ (by omega)).mono ?_
      rintro e w' ⟨rfl, rfl⟩
      go_wp2
      go_ret
      exact ⟨ret_bool (decide_eq_false hno.out).symm, Below.refl _ _⟩
  · have hno : Hid (¬ GridOk g) := fun h => g1 ⟨h.1, h.2.1⟩
    clear h3
    go_enter Try.func85, Try.ntmps85
    go_wp2_with fail
    refine (l6In_no _ _ _ _ (by omega)).mono ?_
    rintro e w' ⟨rfl, rfl⟩
    go_wp2
    go_ret
    exact ⟨ret_bool (decide_eq_false hno.out).symm, Below.refl _ _⟩

set_option maxHeartbeats 1000000 in
set_option maxRecDepth 100000 in
theorem l7Rows_any (va vb : Value) (ga gb : Rows) (w : World) (ha : Grid w va ga) (hb : Grid w vb gb) :
    Calls Try.prog 62 #[va, vb] w fun e w' => e = .returned (.bool (decide (Same ga gb))) ∧ Below w.heap.size w w' := by
  have HA := Lib.hid (show GridB w.heap.size w _ ga from ha)
  have HB := Lib.hid (show GridB w.heap.size w _ gb from hb)
  obtain ⟨a, ca, rfl, ha1, ha2, ha3⟩ := ha
  obtain ⟨b, cb, rfl, hb1, hb2, hb3⟩ := hb
  clear ha3 hb3
  by_cases h1 : GridOk ga
  · by_cases h2 : GridOk gb
    · have e1 := Lib.hid (decide_eq_true h1)
      have e2 := Lib.hid (decide_eq_true h2)
      have H1 := Lib.hid h1
      have H2 := Lib.hid h2
      clear h1 h2
      go_enter Try.func62, Try.ntmps62
      go_wp2_with fail
      refine (specGridValid_any _ ga _ (HA.out.grid (Nat.le_refl _))).mono ?_
      rintro e w1 ⟨rfl, b1⟩
      rw [e1.out]
      have B1 := Lib.hid b1
      have z1 := b1.size
      clear b1
      go_wp2_with fail
      refine (specGridValid_any _ gb _ ((HB.out.below B1.out (Nat.le_refl _)).grid (by omega))).mono ?_
      rintro e w2 ⟨rfl, b2⟩
      rw [e2.out]
      have B2 := Lib.hid (B1.out.trans (b2.mono z1))
      clear b2
      go_wp2
      go_ret
      exact ⟨ret_bool (by by_cases h : ga.length = gb.length
                          · simp [h, Same, H1.out, H2.out]
                          · simp [h, Same]; omega), B2.out⟩
    · have e1 := Lib.hid (decide_eq_true h1)
      have e2 := Lib.hid (decide_eq_false h2)
      have H2 := Lib.hid h2
      clear h1 h2
      go_enter Try.func62, Try.ntmps62
      go_wp2_with fail
      refine (specGridValid_any _ ga _ (HA.out.grid (Nat.le_refl _))).mono ?_
      rintro e w1 ⟨rfl, b1⟩
      rw [e1.out]
      have B1 := Lib.hid b1
      have z1 := b1.size
      clear b1
      go_wp2_with fail
      refine (specGridValid_any _ gb _ ((HB.out.below B1.out (Nat.le_refl _)).grid (by omega))).mono ?_
      rintro e w2 ⟨rfl, b2⟩
      rw [e2.out]
      have B2 := Lib.hid (B1.out.trans (b2.mono z1))
      clear b2
      go_wp2
      go_ret
      exact ⟨ret_bool (decide_eq_false fun h => H2.out h.2.1).symm, B2.out⟩
  · have e1 := Lib.hid (decide_eq_false h1)
    have H1 := Lib.hid h1
    clear h1
    go_enter Try.func62, Try.ntmps62
    go_wp2_with fail
    refine (specGridValid_any _ ga _ (HA.out.grid (Nat.le_refl _))).mono ?_
    rintro e w1 ⟨rfl, b1⟩
    rw [e1.out]
    have B1 := Lib.hid b1
    clear b1
    go_wp2
    go_ret
    exact ⟨ret_bool (decide_eq_false fun h => H1.out h.1).symm, B1.out⟩

theorem aparts_eq (x y : Int) : max (x - y) (-(x - y)) = aparts x y := by unfold aparts; omega

set_option maxHeartbeats 1000000 in
set_option maxRecDepth 100000 in
theorem specGridsGap_any (va vb : Value) (ga gb : Rows) (w : World) (ha : Grid w va ga) (hb : Grid w vb gb) :
    Calls Try.prog 20 #[va, vb] w fun e w' => e = .returned (.int .i64 (gapOf ga gb)) ∧ Below w.heap.size w w' := by
  have C := Lib.hid (l7Rows_any va vb ga gb w ha hb)
  obtain ⟨a, ca, rfl, ha1, ha2, ha3⟩ := ha
  obtain ⟨b, cb, rfl, hb1, hb2, hb3⟩ := hb
  by_cases hs : Same ga gb
  · rw [gap_val hs]
    have e1 := Lib.hid (decide_eq_true hs)
    have HS := Lib.hid hs
    have HGS := Lib.hid (gap_small hs)
    have hgl := hs.1.1
    have hgl2 := hs.1.2.1
    have hl : Hid (gb.length = ga.length) := hs.2.2.symm
    obtain ⟨b1, off1, rfl, hb1', hcell1⟩ := ha3 (by omega)
    obtain ⟨b2, off2, rfl, hb2', hcell2⟩ := hb3 (by have := hl.out; omega)
    have HC1 := Lib.hid hcell1
    have HC2 := Lib.hid hcell2
    have HRA : Hid (∀ k, k < ga.length → (ga[k]?.getD []).length = colsOf ga) := fun k hk => (HS.out.1.2.2.2.2 k hk).1
    have HRB : Hid (∀ k, k < gb.length → (gb[k]?.getD []).length = colsOf gb) := fun k hk => (HS.out.2.1.2.2.2.2 k hk).1
    have HL : Hid (∀ k, k < ga.length → (0 ≤ lastOf ga k ∧ lastOf ga k ≤ 99) ∧ (0 ≤ firstOf gb k ∧ firstOf gb k ≤ 99)) := fun k hk => ⟨HS.out.1.cell hk (by have := HS.out.1.2.2.1; omega), HS.out.2.1.cell (by have := hl.out; omega) (by have := HS.out.2.1.2.2.1; omega)⟩
    have hca := hs.1.2.2.1
    have hca2 := hs.1.2.2.2.1
    have hcb := hs.2.1.2.2.1
    clear ha3 hb3 hcell1 hcell2 hs
    go_enter Try.func20, Try.ntmps20
    go_wp2_with fail
    refine C.out.mono ?_
    rintro e w1 ⟨rfl, b1'⟩
    rw [e1.out]
    have B1 := Lib.hid b1'
    clear b1' C
    go_wp2
    go_loopw [5, 6] (fun s i wr => ∃ k : Nat, k ≤ ga.length ∧ i = .int .i64 k ∧ s = .int .i64 (gapUpTo ga gb k) ∧ Below w.heap.size w wr) (fun _ i _ => ga.length - (intOf i).toNat)
    case atStart => exact ⟨0, Nat.zero_le _, rfl, rfl, B1.out⟩
    case round =>
      obtain ⟨k, hk, rfl, hq, hbel⟩ := hrel
      have hgs := HGS.out k hk
      obtain ⟨g, hg⟩ : ∃ g, g = gapUpTo ga gb k := ⟨_, rfl⟩
      rw [← hg] at hq hgs
      subst hq
      have HG := Lib.hid hg
      clear hg
      by_cases hlt : k < ga.length
      · obtain ⟨r1, x1, y1⟩ := HC1.out k hlt
        obtain ⟨r2, x2, y2⟩ := HC2.out k (by have := hl.out; omega)
        have n1 := HRA.out k hlt
        have n2 := HRB.out k (by have := hl.out; omega)
        have hlo := HL.out k hlt
        unfold lastOf firstOf at hlo
        obtain ⟨p1, d1, rfl, o1, o2, o3⟩ := y1
        obtain ⟨p2, d2, rfl, o4, o5, o6⟩ := y2
        rw [n1] at x1 o1 o3
        rw [n2] at x2 o4 o6
        obtain ⟨m1, f1, rfl, z1, v1⟩ := o3 (by omega)
        obtain ⟨m2, f2, rfl, z2, v2⟩ := o6 (by omega)
        have v1 := v1 (colsOf ga - 1) (by omega)
        have v2 := v2 0 (by omega)
        have j1 := (hbel.cell (p := ⟨b1, off1 + k, none⟩) hb1').trans x1
        have j2 := (hbel.cell (p := ⟨b2, off2 + k, none⟩) hb2').trans x2
        have j3 := (hbel.cell (p := ⟨m1, f1 + (colsOf ga - 1), none⟩) z1).trans v1
        have j4 := (hbel.cell (p := ⟨m2, f2 + 0, none⟩) z2).trans v2
        have HB := Lib.hid hbel
        have hll := hl.out
        have e2 : gapUpTo ga gb (k + 1) = g + aparts ((ga[k]?.getD [])[colsOf ga - 1]?.getD 0) ((gb[k]?.getD [])[0]?.getD 0) := by rw [gapUpTo, HG.out]; rfl
        obtain ⟨x, hx⟩ : ∃ x, x = (ga[k]?.getD [])[colsOf ga - 1]?.getD 0 := ⟨_, rfl⟩
        obtain ⟨y, hy⟩ : ∃ y, y = (gb[k]?.getD [])[0]?.getD 0 := ⟨_, rfl⟩
        rw [← hx] at j3 hlo e2
        rw [← hy] at j4 hlo e2
        have HE2 := Lib.hid e2
        obtain ⟨m, hm⟩ : ∃ m, colsOf ga = m + 1 := ⟨colsOf ga - 1, by omega⟩
        obtain ⟨cb', hcb'⟩ : ∃ c, c = colsOf gb := ⟨_, rfl⟩
        rw [hm] at j1 j3 o1 hca2
        rw [← hcb'] at j2 hcb
        rw [Nat.add_sub_cancel] at j3
        rw [Nat.add_zero] at j4
        have HS1 := Lib.hid hlo
        have C7 : ∀ W, Calls Try.prog 63 #[.int .i64 (x - y)] W fun e w' => e = .returned (.int .i64 (aparts x y)) ∧ w' = W := fun W => by
          have := l7Size_any (x - y) W (by omega) (by omega)
          rwa [aparts_eq] at this
        have hxy : 0 ≤ aparts x y ∧ aparts x y ≤ 99 := by unfold aparts; omega
        obtain ⟨z, hz⟩ : ∃ z, z = aparts x y := ⟨_, rfl⟩
        rw [← hz] at C7 hxy HE2
        have w1' := wrap_small (x := x - y) (by omega) (by omega)
        have w2' := wrap_small (x := g + z) (by omega) (by omega)
        have w3' := wrap_small (x := (m : Int) + 1 - 1) (by omega) (by omega)
        clear hx hy hz hm hcb' v1 v2 x1 x2 o3 o6 n1 n2 e2 hbel
        go_wp2
        go_quiet (exact Calls.quiet_of_same (C7 _))
        go_wp2
        go_roundw
        case rel => exact ⟨k + 1, by omega, by go_num, HE2.out.symm ▸ rfl, below_n HB.out nq⟩
        case measure => simp [intOf]; omega
      · obtain rfl : k = ga.length := by omega
        have HB := Lib.hid hbel
        clear hbel
        go_wp2
        go_ret
        exact ⟨ret_int HG.out, HB.out⟩
  · rw [gap_none hs]
    have e1 := Lib.hid (decide_eq_false hs)
    clear ha3 hb3 hs
    go_enter Try.func20, Try.ntmps20
    go_wp2_with fail
    refine C.out.mono ?_
    rintro e w1 ⟨rfl, b1⟩
    rw [e1.out]
    have B1 := Lib.hid b1
    clear b1 C
    go_wp2
    go_ret
    exact ⟨rfl, B1.out⟩

set_option maxHeartbeats 400000 in
theorem specGridsAgree_any (va vb : Value) (ga gb : Rows) (w : World) (ha : Grid w va ga) (hb : Grid w vb gb) :
    Calls Try.prog 24 #[va, vb] w fun e w' => e = .returned (.bool (decide (gapOf ga gb = 0))) ∧ Below w.heap.size w w' := by
  have C := Lib.hid (specGridsGap_any va vb ga gb w ha hb)
  clear ha hb
  go_enter Try.func24, Try.ntmps24
  go_wp2_with fail
  refine C.out.mono ?_
  rintro e w1 ⟨rfl, b1⟩
  have B1 := Lib.hid b1
  clear b1 C
  go_wp2
  go_ret
  exact ⟨ret_bool (by by_cases h : gapOf ga gb = 0 <;> simp [h]), B1.out⟩

theorem eqIntSS_b (va vb : Value) (ga gb : Rows) (w : World) (ha : Grid w va ga) (hb : Grid w vb gb) :
    Calls Try.prog 23 #[va, vb] w fun e w' => e = .returned (.bool (decide (ga = gb))) ∧ Below w.heap.size w w' :=
  (eqIntSS_any va vb ga gb w ha hb).mono fun _ _ ⟨he, n, hw⟩ => ⟨he, by rw [hw]; exact below_n (Below.refl _ _) n⟩
end Go.Proofs.Ytebhbcjioolpeaa
