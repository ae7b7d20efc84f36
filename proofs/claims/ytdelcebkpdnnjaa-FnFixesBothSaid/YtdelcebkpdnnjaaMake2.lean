/-
  The reference's l9Alike, FixesMake and EditionFar. No condition but that the slices read as the lists.
-/
import Derived.Test.YtdelcebkpdnnjaaMake
import Derived.Test.YtdelcebkpdnnjaaGap2
namespace Go.Proofs.Ytdelcebkpdnnjaa
open Go.RowKit Go.Deep Go.Sort BigFrame

theorem makeOf_len (ga gb : Rows) : (makeOf ga gb).length ≤ 1099511627776 := by
  unfold makeOf
  split
  · rename_i h
    have h1 := diffs_len ga gb ga.length
    have h2 := small_cells h.1.1
    unfold diffsOf
    omega
  · simp
theorem Quads.drewn {w : World} {v : Value} {l : List Quad} (h : Quads w v l) : Quads w.drew v l := by
  have h2 : QuadsB w.heap.size w.drew v l := QuadsB.below h.quadsB ((Below.refl w.heap.size w).drew) (Nat.le_refl _)
  exact h2
theorem quads_one_drew {w : World} {q : Quad} {t : TypeId} : Quads (w.alloc (.cells #[.int .i64 q.1, .int .i64 q.2.1, .int .i64 q.2.2.1, .int .i64 q.2.2.2] t)).drew (.slice (some ⟨w.heap.size, 0, none⟩) 1 1) [q] := quads_one.drewn
theorem gridB_regrown {B : Nat} {w : World} {v : Value} {g : Rows} (h : GridB B w v g) (hB : B ≤ w.heap.size) (d os) : GridB B (grow (redrawn w d) os) v g :=
  h.below (below_regrown w d os) hB

set_option maxHeartbeats 2000000 in
set_option maxRecDepth 100000 in
theorem l9Alike_any (va vb : Value) (ga gb : Rows) (w : World) (ha : Grid w va ga) (hb : Grid w vb gb) :
    Calls Try.prog 87 #[va, vb] w fun e w' => e = .returned (.bool (decide (Like ga gb))) ∧ Below w.heap.size w w' := by
  have hsz : ∀ d os, w.heap.size ≤ (grow (redrawn w d) os).heap.size := fun d os => (below_regrown w d os).size
  have HSZ := Lib.hid hsz
  clear hsz
  obtain ⟨oa, hoa⟩ : ∃ o, o = decide (GridOk ga) := ⟨_, rfl⟩
  obtain ⟨ob, hob⟩ : ∃ o, o = decide (GridOk gb) := ⟨_, rfl⟩
  have HA := Lib.hid (show GridB w.heap.size w va ga from ha)
  have HB := Lib.hid (show GridB w.heap.size w vb gb from hb)
  have cA : ∀ d os, Calls Try.prog 73 #[va] (grow (redrawn w d) os) fun e w'' => e = .returned (.bool oa) ∧ ∃ p : Regrown, w'' = grow (redrawn w p.d) p.os := fun d os => by rw [hoa]; exact Calls.regrown_of (specGridValid_any va ga _ ((gridB_regrown HA.out (Nat.le_refl _) d os).grid (HSZ.out d os)))
  have cB : ∀ d os, Calls Try.prog 73 #[vb] (grow (redrawn w d) os) fun e w'' => e = .returned (.bool ob) ∧ ∃ p : Regrown, w'' = grow (redrawn w p.d) p.os := fun d os => by rw [hob]; exact Calls.regrown_of (specGridValid_any vb gb _ ((gridB_regrown HB.out (Nat.le_refl _) d os).grid (HSZ.out d os)))
  obtain ⟨a, ca, rfl, ha1, ha2, ha3⟩ := ha
  obtain ⟨b, cb, rfl, hb1, hb2, hb3⟩ := hb
  by_cases h1 : GridOk ga
  · rw [decide_eq_true h1] at hoa
    subst hoa
    by_cases h2 : GridOk gb
    · rw [decide_eq_true h2] at hob
      subst hob
      obtain ⟨b1, off1, rfl, hb1', hcell1⟩ := ha3 h1.1
      obtain ⟨b2, off2, rfl, hb2', hcell2⟩ := hb3 h2.1
      obtain ⟨r1, x1, y1⟩ := hcell1 0 h1.1
      obtain ⟨r2, x2, y2⟩ := hcell2 0 h2.1
      obtain ⟨p1, d1, rfl, _⟩ := y1
      obtain ⟨p2, d2, rfl, _⟩ := y2
      have hg1 := h1.1
      have hg2 := h2.1
      have hp1 : 0 < ga.length := hg1
      have hp2 : 0 < gb.length := hg2
      have hp3 : ((0 : Int) < (ga.length : Int)) := by omega
      have hp4 : ((0 : Int) < (gb.length : Int)) := by omega
      rw [Nat.add_zero] at x1 x2
      rw [show (ga[0]?.getD []).length = colsOf ga from rfl] at x1
      rw [show (gb[0]?.getD []).length = colsOf gb from rfl] at x2
      have q1 := cell_regrown x1
      have q2 := cell_regrown x2
      have HD : Hid (decide (Like ga gb) = (decide (ga.length = gb.length) && decide (colsOf ga = colsOf gb))) := by
        show _ = _
        by_cases e1 : ga.length = gb.length <;> by_cases e2 : colsOf ga = colsOf gb <;> simp [Like, Same, h1, h2, e1, e2]
      by_cases e1 : ga.length = gb.length
      · have E1 := Lib.hid e1
        have e1' : ((ga.length : Int) == (gb.length : Int)) = true := by simp [e1]
        by_cases e2 : colsOf ga = colsOf gb
        · have E2 := Lib.hid e2
          have e2' : ((colsOf ga : Int) == (colsOf gb : Int)) = true := by simp [e2]
          clear e1 e2 h1 h2 x1 x2 hcell1 hcell2 ha3 hb3
          go_enter Try.func87, Try.ntmps87
          go_wp2
          refine wp_region_quiet_below (by kernel_rfl) (by kernel_rfl) ?_
          repeat (go_big_quiet_step (first | with_reducible exact cA _ _ | with_reducible exact cB _ _))
          refine wpQuiet_nil ?_
          intro _ hw'
          obtain ⟨⟨dq, osq⟩, hw''⟩ := hw'
          subst hw''
          have HBQ := Lib.hid (below_regrown w dq osq)
          clear cA cB
          go_wp2
          go_ret
          exact ⟨ret_bool (by rw [HD.out]; simp [E1.out, E2.out]), HBQ.out⟩
        · have E2 := Lib.hid e2
          have e2' : ((colsOf ga : Int) == (colsOf gb : Int)) = false := by simp; omega
          clear e1 e2 h1 h2 x1 x2 hcell1 hcell2 ha3 hb3
          go_enter Try.func87, Try.ntmps87
          go_wp2
          refine wp_region_quiet_below (by kernel_rfl) (by kernel_rfl) ?_
          repeat (go_big_quiet_step (first | with_reducible exact cA _ _ | with_reducible exact cB _ _))
          refine wpQuiet_nil ?_
          intro _ hw'
          obtain ⟨⟨dq, osq⟩, hw''⟩ := hw'
          subst hw''
          have HBQ := Lib.hid (below_regrown w dq osq)
          clear cA cB
          go_wp2
          go_ret
          exact ⟨ret_bool (by rw [HD.out]; simp [E2.out]), HBQ.out⟩
      · have E1 := Lib.hid e1
        have e1' : ((ga.length : Int) == (gb.length : Int)) = false := by simp; omega
        clear e1 h1 h2 x1 x2 hcell1 hcell2 ha3 hb3
        go_enter Try.func87, Try.ntmps87
        go_wp2
        refine wp_region_quiet_below (by kernel_rfl) (by kernel_rfl) ?_
        repeat (go_big_quiet_step (first | with_reducible exact cA _ _ | with_reducible exact cB _ _))
        refine wpQuiet_nil ?_
        intro _ hw'
        obtain ⟨⟨dq, osq⟩, hw''⟩ := hw'
        subst hw''
        have HBQ := Lib.hid (below_regrown w dq osq)
        clear cA cB
        go_wp2
        go_ret
        exact ⟨ret_bool (by rw [HD.out]; simp [E1.out]), HBQ.out⟩
    · rw [decide_eq_false h2] at hob
      subst hob
      have H2 := Lib.hid h2
      clear h1 h2 ha3 hb3
      go_enter Try.func87, Try.ntmps87
      go_wp2
      refine wp_region_quiet_below (by kernel_rfl) (by kernel_rfl) ?_
      repeat (go_big_quiet_step (first | with_reducible exact cA _ _ | with_reducible exact cB _ _))
      refine wpQuiet_nil ?_
      intro _ hw'
      obtain ⟨⟨dq, osq⟩, hw''⟩ := hw'
      subst hw''
      have HBQ := Lib.hid (below_regrown w dq osq)
      clear cA cB
      go_wp2
      go_ret
      exact ⟨ret_bool (by exact (decide_eq_false fun h => H2.out h.1.2.1).symm), HBQ.out⟩
  · rw [decide_eq_false h1] at hoa
    subst hoa
    have H1 := Lib.hid h1
    clear h1 ha3 hb3
    go_enter Try.func87, Try.ntmps87
    go_wp2
    refine wp_region_quiet_below (by kernel_rfl) (by kernel_rfl) ?_
    repeat (go_big_quiet_step (first | with_reducible exact cA _ _ | with_reducible exact cB _ _))
    refine wpQuiet_nil ?_
    intro _ hw'
    obtain ⟨⟨dq, osq⟩, hw''⟩ := hw'
    subst hw''
    have HBQ := Lib.hid (below_regrown w dq osq)
    clear cA cB
    go_wp2
    go_ret
    exact ⟨ret_bool (by exact (decide_eq_false fun h => H1.out h.1.1).symm), HBQ.out⟩

set_option maxHeartbeats 2000000 in
set_option maxRecDepth 100000 in
theorem specFixesMake_any (va vb : Value) (ga gb : Rows) (w : World) (ha : Grid w va ga) (hb : Grid w vb gb) :
    Calls Try.prog 62 #[va, vb] w fun e w' => ∃ v, e = .returned (.tuple #[v, .bool (decide (Like ga gb))]) ∧ OwnQ w.heap.size w'.heap.size w' v (makeOf ga gb) ∧ Below w.heap.size w w' := by
  have HA := Lib.hid (show GridB w.heap.size w va ga from ha)
  have HB := Lib.hid (show GridB w.heap.size w vb gb from hb)
  have B0 := Lib.hid ((Below.refl w.heap.size w).alloc (Nat.le_refl _) (.cells #[] 41))
  have HO0 := Lib.hid (World.ownsRow_made (base := w.heap.size) (e := 41) (size := 4) w #[] 0 (Nat.le_refl _) (by decide) rfl)
  obtain ⟨a, ca, rfl, ha1, ha2, ha3⟩ := ha
  obtain ⟨b, cb, rfl, hb1, hb2, hb3⟩ := hb
  by_cases hs : Like ga gb
  · rw [makeOf_yes hs]
    have e1 := Lib.hid (decide_eq_true hs)
    have hgl := hs.1.1.1
    have hgl2 := hs.1.1.2.1
    have hl : Hid (gb.length = ga.length) := hs.1.2.2.symm
    obtain ⟨b1, off1, rfl, hb1', hcell1⟩ := ha3 (by omega)
    obtain ⟨b2, off2, rfl, hb2', hcell2⟩ := hb3 (by have := hl.out; omega)
    have HC1 := Lib.hid hcell1
    have HC2 := Lib.hid hcell2
    have HRA : Hid (∀ k, k < ga.length → (ga[k]?.getD []).length = colsOf ga) := fun k hk => (hs.1.1.2.2.2.2 k hk).1
    have HRB : Hid (∀ k, k < gb.length → (gb[k]?.getD []).length = colsOf ga) := fun k hk => by rw [hs.2]; exact (hs.1.2.1.2.2.2.2 k hk).1
    have hca := hs.1.1.2.2.1
    have hca2 := hs.1.1.2.2.2.1
    have HDL := Lib.hid (diffs_len ga gb)
    have HRL := Lib.hid (rowDiff_len ga gb)
    have HDS := Lib.hid (diffs_succ ga gb)
    have HEnd : Hid (diffsOf ga gb = diffs ga gb ga.length) := rfl
    have hgb : (gb.length : Int) = (ga.length : Int) := by rw [hl.out]
    obtain ⟨n, hnn⟩ : ∃ n, n = ga.length := ⟨_, rfl⟩
    obtain ⟨c, hc⟩ : ∃ c, c = colsOf ga := ⟨_, rfl⟩
    rw [← hc] at HRA HRB hca hca2 HDL HDS
    have HN := Lib.hid hnn
    clear ha3 hb3 hcell1 hcell2 hs hc hgb hnn
    go_enter Try.func62, Try.ntmps62
    go_wp2_with fail
    refine (l9Alike_any _ _ ga gb _ ((HA.out.below B0.out (Nat.le_refl _)).grid (by simp)) ((HB.out.below B0.out (Nat.le_refl _)).grid (by simp))).mono ?_
    rintro e w1 ⟨rfl, b1'⟩
    rw [e1.out]
    have B1 := Lib.hid (B0.out.trans (b1'.mono (by simp)))
    have HO1 := Lib.hid (ownsRow_below HO0.out b1')
    clear b1'
    go_wp2
    go_loopw [6, 7, 8] (fun v i _ wr => ∃ k : Nat, k ≤ ga.length ∧ i = .int .i64 k ∧ wr.ownsRow w.heap.size 41 4 v (diffs ga gb k).length (flat (diffs ga gb k)) ∧ Below w.heap.size w wr) (fun _ i _ _ => ga.length - (intOf i).toNat)
    case atStart => exact ⟨0, Nat.zero_le _, rfl, HO1.out, B1.out⟩
    case round =>
      obtain ⟨k, hk, rfl, hown, hbel⟩ := hrel
      by_cases hlt : k < ga.length
      · have hkb : k < gb.length := by have := hl.out; omega
        obtain ⟨r1, x1, y1⟩ := HC1.out k hlt
        obtain ⟨r2, x2, y2⟩ := HC2.out k hkb
        have n1 := HRA.out k hlt
        have n2 := HRB.out k hkb
        obtain ⟨p1, d1, rfl, o1, o2, o3⟩ := y1
        obtain ⟨p2, d2, rfl, o4, o5, o6⟩ := y2
        rw [n1] at x1 o1
        rw [n2] at x2 o4
        obtain ⟨m1, f1, rfl, z1, v1⟩ := o3 (by omega)
        obtain ⟨m2, f2, rfl, z2, v2⟩ := o6 (by omega)
        rw [n1] at v1
        rw [n2] at v2
        have X1 := Lib.hid x1
        have X2 := Lib.hid x2
        have V1 := Lib.hid v1
        have V2 := Lib.hid v2
        have j1 := (hbel.cell (p := ⟨b1, off1 + k, none⟩) hb1').trans x1
        have HO2 := Lib.hid hown
        have HB2 := Lib.hid hbel
        clear hown hbel v1 v2 x1 x2 o3 o6 n1 n2
        go_wp2
        clear j1
        obtain ⟨wo, rfl⟩ : ∃ wo : World, wo = wr := ⟨_, rfl⟩
        go_loopw [6, 8] (fun v i wi => ∃ j : Nat, j ≤ c ∧ i = .int .i64 j ∧ wi.ownsRow w.heap.size 41 4 v (diffs ga gb k ++ rowDiff ga gb k j).length (flat (diffs ga gb k ++ rowDiff ga gb k j)) ∧ Below w.heap.size w wi) (fun _ i _ => c - (intOf i).toNat)
        case atStart => exact ⟨0, Nat.zero_le _, rfl, by simpa [rowDiff] using HO2.out, HB2.out⟩
        case round =>
          obtain ⟨wi, rfl⟩ : ∃ wi : World, wi = wr := ⟨_, rfl⟩
          obtain ⟨j, hj, rfl, hown, hbel⟩ := hrel
          have i1 := (hbel.cell (p := ⟨b1, off1 + k, none⟩) hb1').trans X1.out
          have i2 := (hbel.cell (p := ⟨b2, off2 + k, none⟩) hb2').trans X2.out
          by_cases hjl : j < c
          · obtain ⟨x, hx⟩ : ∃ x, x = (ga[k]?.getD [])[j]?.getD 0 := ⟨_, rfl⟩
            obtain ⟨y, hy⟩ : ∃ y, y = (gb[k]?.getD [])[j]?.getD 0 := ⟨_, rfl⟩
            have i3 := (hbel.cell (p := ⟨m1, f1 + j, none⟩) z1).trans (V1.out j hjl)
            have i4 := (hbel.cell (p := ⟨m2, f2 + j, none⟩) z2).trans (V2.out j hjl)
            rw [← hx] at i3
            rw [← hy] at i4
            have HX := Lib.hid hx
            have HY := Lib.hid hy
            have HO3 := Lib.hid hown
            have HB3 := Lib.hid hbel
            have hsz := hbel.size
            clear hx hy hown hbel
            by_cases hxy : x = y
            · have hne : (x != y) = false := by simp [hxy]
              have HXY := Lib.hid hxy
              clear hxy
              go_wp2
              go_quiet (fail)
              go_wp2
              go_roundw
              case rel =>
                refine ⟨j + 1, by omega, by go_num, ?_, below_n HB3.out nq⟩
                rw [rowDiff_same (by rw [← HX.out, ← HY.out]; exact HXY.out)]
                exact ownsRow_below HO3.out (below_n (Below.refl _ _) nq)
              case measure => simp [intOf]; omega
            · have hne : (x != y) = true := by simp [hxy]
              have HXY := Lib.hid hxy
              clear hxy
              go_wp2
              go_quiet (fail)
              go_wp2
              have HB4 := Lib.hid (below_n HB3.out nq)
              have HO4 := Lib.hid (ownsRow_below HO3.out (below_n (Below.refl _ _) nq))
              replace i1 : (wi.drewN nq).cell? _ = _ := i1
              replace i2 : (wi.drewN nq).cell? _ = _ := i2
              replace i3 : (wi.drewN nq).cell? _ = _ := i3
              replace i4 : (wi.drewN nq).cell? _ = _ := i4
              obtain ⟨wq, hwq⟩ : ∃ wq, wq = wi.drewN nq := ⟨_, rfl⟩
              rw [← hwq] at i1 i2 i3 i4 HB4 HO4 ⊢
              have hzq : w.heap.size ≤ wq.heap.size := HB4.out.size
              clear hwq
              obtain ⟨L, hL⟩ : ∃ L, L = diffs ga gb k ++ rowDiff ga gb k j := ⟨_, rfl⟩
              rw [← hL] at HO4
              have hLn : L.length ≤ 1000 := by
                rw [hL, List.length_append]
                have h1 := HDL.out k
                have h2 := HRL.out k j
                have h3 := Nat.mul_le_mul (show k ≤ 7 by omega) hca2
                omega
              have HLE := Lib.hid hL
              clear hL
              go_region_held3 (fun w' => w'.cell? ⟨b1, off1 + k, none⟩ = some (.slice (some ⟨m1, f1, none⟩) c d1) ∧ w'.cell? ⟨b2, off2 + k, none⟩ = some (.slice (some ⟨m2, f2, none⟩) c d2) ∧ w'.cell? ⟨m1, f1 + j, none⟩ = some (.int .i64 x) ∧ w'.cell? ⟨m2, f2 + j, none⟩ = some (.int .i64 y))
                (first | exact ⟨i1, i2, i3, i4⟩ | exact ⟨g1, g2, g3, g4⟩ | go_keep)
                (first | (refine step_app_quads wq _ rfl _ _ rfl w.heap.size _ L _ [((k : Int), (j : Int), x, y)] (HO4.out.alloc _).drew quads_one_drew rfl rfl (by simp; omega) (by show w.heap.size ≤ (wq.alloc _).heap.size; simp; omega) ((Below.refl w.heap.size wq).alloc hzq _).drew ?_; intro v7 w7 hown7 hb7; have g1 := (hb7.cell (p := ⟨b1, off1 + k, none⟩) hb1').trans i1; have g2 := (hb7.cell (p := ⟨b2, off2 + k, none⟩) hb2').trans i2; have g3 := (hb7.cell (p := ⟨m1, f1 + j, none⟩) z1).trans i3; have g4 := (hb7.cell (p := ⟨m2, f2 + j, none⟩) z2).trans i4; have HO7 := Lib.hid hown7; have HB7 := Lib.hid hb7) | fail)
              go_wp2
              go_roundw
              case rel =>
                refine ⟨j + 1, by omega, by go_num, ?_, HB4.out.trans HB7.out⟩
                rw [rowDiff_other HX.out HY.out HXY.out, ← List.append_assoc, ← HLE.out]
                exact HO7.out
              case measure => simp [intOf]; omega
          · obtain rfl : j = c := by omega
            have HO3 := Lib.hid hown
            have HB3 := Lib.hid hbel
            clear hown hbel
            go_wp2
            go_roundw
            case rel => exact ⟨k + 1, by omega, by go_num, by rw [HDS.out]; exact HO3.out, HB3.out⟩
            case measure => simp [intOf]; omega
      · obtain rfl : k = ga.length := by omega
        have HO2 := Lib.hid hown
        have HB2 := Lib.hid hbel
        obtain ⟨va', vc', rfl⟩ := ownsRow_slice hown
        clear hown hbel
        go_wp2
        go_ret2
        exact ⟨_, by rw [e1.out]; first | done | rfl, by rw [HEnd.out]; exact ownQ_of_ownsRow HO2.out (Nat.le_refl _), HB2.out⟩
  · rw [makeOf_no hs]
    have e1 := Lib.hid (decide_eq_false hs)
    clear ha3 hb3 hs
    go_enter Try.func62, Try.ntmps62
    go_wp2_with fail
    refine (l9Alike_any _ _ ga gb _ ((HA.out.below B0.out (Nat.le_refl _)).grid (by simp)) ((HB.out.below B0.out (Nat.le_refl _)).grid (by simp))).mono ?_
    rintro e w1 ⟨rfl, b1'⟩
    rw [e1.out]
    have B1 := Lib.hid (B0.out.trans (b1'.mono (by simp)))
    clear b1'
    go_wp2
    go_ret2
    exact ⟨_, by rw [e1.out]; first | done | rfl, .inl ⟨rfl, _, _, rfl, by omega⟩, B1.out⟩

end Go.Proofs.Ytdelcebkpdnnjaa
