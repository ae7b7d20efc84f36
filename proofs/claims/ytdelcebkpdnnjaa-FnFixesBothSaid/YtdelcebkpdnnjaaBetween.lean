/-
  between: the short corrections from one grid's field to another's. Conditions: two grids of as many rows and columns.
-/
import Derived.Test.YtdelcebkpdnnjaaAlike
import Derived.Test.YtdelcebkpdnnjaaGap
import Derived.Test.YtdelcebkpdnnjaaFixApp
namespace Go.Proofs.Ytdelcebkpdnnjaa
open Go.RowKit Go.Deep Go.Sort

def rowDiff (ga gb : Rows) (r c : Nat) : List Quad :=
  (List.range c).filterMap fun j : Nat => if (ga[r]?.getD [])[j]?.getD 0 = (gb[r]?.getD [])[j]?.getD 0 then none else some ((r : Int), (j : Int), (ga[r]?.getD [])[j]?.getD 0, (gb[r]?.getD [])[j]?.getD 0)
def diffs (ga gb : Rows) (r : Nat) : List Quad := (List.range r).flatMap fun i => rowDiff ga gb i (colsOf ga)
/-- the short corrections -/
def diffsOf (ga gb : Rows) : List Quad := diffs ga gb ga.length

theorem rowDiff_same {ga gb : Rows} {r c : Nat} (h : (ga[r]?.getD [])[c]?.getD 0 = (gb[r]?.getD [])[c]?.getD 0) : rowDiff ga gb r (c + 1) = rowDiff ga gb r c := by
  unfold rowDiff
  rw [List.range_succ, List.filterMap_append]
  simp [h]
theorem rowDiff_other {ga gb : Rows} {r c : Nat} {x y : Int} (hx : x = (ga[r]?.getD [])[c]?.getD 0) (hy : y = (gb[r]?.getD [])[c]?.getD 0) (h : x ≠ y) : rowDiff ga gb r (c + 1) = rowDiff ga gb r c ++ [((r : Int), (c : Int), x, y)] := by
  subst hx
  subst hy
  unfold rowDiff
  rw [List.range_succ, List.filterMap_append]
  simp [h]
theorem diffs_succ (ga gb : Rows) (r : Nat) : diffs ga gb (r + 1) = diffs ga gb r ++ rowDiff ga gb r (colsOf ga) := by
  unfold diffs
  rw [List.range_succ, List.flatMap_append]
  simp
theorem rowDiff_len (ga gb : Rows) (r c : Nat) : (rowDiff ga gb r c).length ≤ c := by
  have := List.length_filterMap_le (fun j : Nat => if (ga[r]?.getD [])[j]?.getD 0 = (gb[r]?.getD [])[j]?.getD 0 then none else some ((r : Int), (j : Int), (ga[r]?.getD [])[j]?.getD 0, (gb[r]?.getD [])[j]?.getD 0)) (List.range c)
  simpa [rowDiff] using this
theorem diffs_len (ga gb : Rows) (r : Nat) : (diffs ga gb r).length ≤ r * colsOf ga := by
  induction r with
  | zero => simp [diffs]
  | succ r ih =>
    rw [diffs_succ, List.length_append, Nat.add_mul, Nat.one_mul]
    have := rowDiff_len ga gb r (colsOf ga)
    omega

set_option maxHeartbeats 2000000 in
set_option maxRecDepth 100000 in
theorem between_any (ga gb : Rows) (a b : Nat) (w : World) (hs : Like ga gb) (ha : w.rowIs a 3 (ga.length * colsOf ga) (fun i => .int .i64 (cellOf ga i))) (hb : w.rowIs b 3 (gb.length * colsOf gb) (fun i => .int .i64 (cellOf gb i))) :
    Calls Try.prog 65 #[fv ga.length (colsOf ga) (.slice (some ⟨a, 0, none⟩) (ga.length * colsOf ga) (ga.length * colsOf ga)), fv gb.length (colsOf gb) (.slice (some ⟨b, 0, none⟩) (gb.length * colsOf gb) (gb.length * colsOf gb))] w fun e w' => ∃ v, e = .returned v ∧ w'.ownsRow (w.heap.size + 2) 41 4 v (diffsOf ga gb).length (flat (diffsOf ga gb)) ∧ Below w.heap.size w w' := by
  obtain ⟨⟨s1, s2, s3⟩, s4⟩ := hs
  have hn := s1.2.1
  have hca := s1.2.2.1
  have hca2 := s1.2.2.2.1
  have HA := Lib.hid ha
  have HB := Lib.hid hb
  have CA : Hid (∀ W k j, k < ga.length → j < colsOf ga → W.rowIs a 3 (ga.length * colsOf ga) (fun i => .int .i64 (cellOf ga i)) → Calls Try.prog 53 #[fv ga.length (colsOf ga) (.slice (some ⟨a, 0, none⟩) (ga.length * colsOf ga) (ga.length * colsOf ga)), .int .i64 (k : Int), .int .i64 (j : Int)] W fun e w' => e = .returned (.int .i64 ((ga[k]?.getD [])[j]?.getD 0)) ∧ Below W.heap.size W w') := fun W k j hk hj hr => at_grid ga ga.length a k j W s1 hr hk hj
  have CB : Hid (∀ W k j, k < ga.length → j < colsOf ga → W.rowIs b 3 (gb.length * colsOf gb) (fun i => .int .i64 (cellOf gb i)) → Calls Try.prog 53 #[fv gb.length (colsOf gb) (.slice (some ⟨b, 0, none⟩) (gb.length * colsOf gb) (gb.length * colsOf gb)), .int .i64 (k : Int), .int .i64 (j : Int)] W fun e w' => e = .returned (.int .i64 ((gb[k]?.getD [])[j]?.getD 0)) ∧ Below W.heap.size W w') := fun W k j hk hj hr => at_grid gb gb.length b k j W s2 hr (by omega) (by omega)
  have HDL := Lib.hid (diffs_len ga gb)
  have HRL := Lib.hid (rowDiff_len ga gb)
  have HDS := Lib.hid (diffs_succ ga gb)
  have HEnd : Hid (diffsOf ga gb = diffs ga gb ga.length) := rfl
  obtain ⟨na, hna⟩ : ∃ n, n = ga.length * colsOf ga := ⟨_, rfl⟩
  obtain ⟨nb, hnb⟩ : ∃ n, n = gb.length * colsOf gb := ⟨_, rfl⟩
  rw [← hna] at HA CA ⊢
  rw [← hnb] at HB CB ⊢
  clear ha hb s1 s2 hna hnb
  rw [← s3, ← s4] at CB ⊢
  clear s3 s4
  obtain ⟨n, hnn⟩ : ∃ n, n = ga.length := ⟨_, rfl⟩
  rw [← hnn] at CA CB hn HEnd ⊢
  clear hnn
  obtain ⟨c, hc⟩ : ∃ c, c = colsOf ga := ⟨_, rfl⟩
  rw [← hc] at CA CB hca hca2 HDL HDS ⊢
  clear hc
  go_enter Try.func65, Try.ntmps65
  go_wp2
  go_loopw [5, 6, 7, 11, 16] (fun v _ _ i _ wr => ∃ k : Nat, k ≤ n ∧ i = .int .i64 k ∧ wr.ownsRow (w.heap.size + 2) 41 4 v (diffs ga gb k).length (flat (diffs ga gb k)) ∧ Below w.heap.size w wr ∧
      wr.cell? ⟨w.heap.size, 0, none⟩ = some (.int .i64 n) ∧ wr.cell? ⟨w.heap.size, 1, none⟩ = some (.int .i64 c) ∧ wr.cell? ⟨w.heap.size, 2, none⟩ = some (.slice (some ⟨a, 0, none⟩) na na) ∧
      wr.cell? ⟨w.heap.size + 1, 0, none⟩ = some (.int .i64 n) ∧ wr.cell? ⟨w.heap.size + 1, 1, none⟩ = some (.int .i64 c) ∧ wr.cell? ⟨w.heap.size + 1, 2, none⟩ = some (.slice (some ⟨b, 0, none⟩) nb nb)) (fun _ _ _ i _ _ => n - (intOf i).toNat)
  case atStart =>
    have B0 := ((Below.refl w.heap.size w).alloc (Nat.le_refl _) (.cells #[.int .i64 n, .int .i64 c, .slice (some ⟨a, 0, none⟩) na na] 64)).alloc (by simp) (.cells #[.int .i64 n, .int .i64 c, .slice (some ⟨b, 0, none⟩) nb nb] 64)
    have r1 := ((field_row w (.int .i64 n) (.int .i64 c) (.slice (some ⟨a, 0, none⟩) na na)).alloc (.cells #[.int .i64 n, .int .i64 c, .slice (some ⟨b, 0, none⟩) nb nb] 64)).alloc (.cells #[] 41)
    have r2 := (field_row (w.alloc (.cells #[.int .i64 n, .int .i64 c, .slice (some ⟨a, 0, none⟩) na na] 64)) (.int .i64 n) (.int .i64 c) (.slice (some ⟨b, 0, none⟩) nb nb)).alloc (.cells #[] 41)
    rw [World.size_alloc] at r2
    have r3 := World.ownsRow_made (base := w.heap.size + 2) (e := 41) (size := 4) ((w.alloc (.cells #[.int .i64 n, .int .i64 c, .slice (some ⟨a, 0, none⟩) na na] 64)).alloc (.cells #[.int .i64 n, .int .i64 c, .slice (some ⟨b, 0, none⟩) nb nb] 64)) #[] 0 (by simp) (by decide) rfl
    simp only [World.size_alloc] at r3
    exact ⟨0, Nat.zero_le _, rfl, r3, B0.alloc (by simp; omega) _, r1.cell (i := 0) (by decide), r1.cell (i := 1) (by decide), r1.cell (i := 2) (by decide), r2.cell (i := 0) (by decide), r2.cell (i := 1) (by decide), r2.cell (i := 2) (by decide)⟩
  case round =>
    obtain ⟨k, hk, rfl, hown, hbel, k0, k1, k2, m0, m1, m2⟩ := hrel
    by_cases hlt : k < n
    · have HO := Lib.hid hown
      have HBE := Lib.hid hbel
      have K0 := Lib.hid k0
      have K1 := Lib.hid k1
      have K2 := Lib.hid k2
      have M := Lib.hid (And.intro m0 (And.intro m1 m2))
      clear hown hbel k0 k2 m0 m1 m2
      go_wp2
      clear k1
      obtain ⟨wo, rfl⟩ : ∃ wo : World, wo = wr := ⟨_, rfl⟩
      go_loopw [5, 7, 16] (fun v _ i wi => ∃ j : Nat, j ≤ c ∧ i = .int .i64 j ∧ wi.ownsRow (w.heap.size + 2) 41 4 v (diffs ga gb k ++ rowDiff ga gb k j).length (flat (diffs ga gb k ++ rowDiff ga gb k j)) ∧ Below w.heap.size w wi ∧
          wi.cell? ⟨w.heap.size, 0, none⟩ = some (.int .i64 n) ∧ wi.cell? ⟨w.heap.size, 1, none⟩ = some (.int .i64 c) ∧ wi.cell? ⟨w.heap.size, 2, none⟩ = some (.slice (some ⟨a, 0, none⟩) na na) ∧
          wi.cell? ⟨w.heap.size + 1, 0, none⟩ = some (.int .i64 n) ∧ wi.cell? ⟨w.heap.size + 1, 1, none⟩ = some (.int .i64 c) ∧ wi.cell? ⟨w.heap.size + 1, 2, none⟩ = some (.slice (some ⟨b, 0, none⟩) nb nb)) (fun _ _ i _ => c - (intOf i).toNat)
      case atStart => exact ⟨0, Nat.zero_le _, rfl, by simpa [rowDiff] using HO.out, HBE.out, K0.out, K1.out, K2.out, M.out.1, M.out.2.1, M.out.2.2⟩
      case round =>
        obtain ⟨wi, rfl⟩ : ∃ wi : World, wi = wr := ⟨_, rfl⟩
        obtain ⟨j, hj, rfl, hown, hbel, d0, d1, d2, d3, d4, d5⟩ := hrel
        have hw2 := Lib.hid (show w.heap.size + 2 ≤ wi.heap.size from World.block_lt_of_cell? wi _ d3)
        by_cases hjl : j < c
        · have HO2 := Lib.hid hown
          have HB2 := Lib.hid hbel
          have hsz := hbel.size
          obtain ⟨x, hx⟩ : ∃ x, x = (ga[k]?.getD [])[j]?.getD 0 := ⟨_, rfl⟩
          obtain ⟨y, hy⟩ : ∃ y, y = (gb[k]?.getD [])[j]?.getD 0 := ⟨_, rfl⟩
          have HX := Lib.hid hx
          have HY := Lib.hid hy
          have HI1 : Hid (∀ d os, (grow (redrawn wi d) os).rowIs a 3 na (fun i => .int .i64 (cellOf ga i))) := fun d os => row_regrown (HA.out.of_block (hbel.block _ HA.out.lt)) d os
          have HI2 : Hid (∀ d os, (grow (redrawn wi d) os).rowIs b 3 nb (fun i => .int .i64 (cellOf gb i))) := fun d os => row_regrown (HB.out.of_block (hbel.block _ HB.out.lt)) d os
          have cA : ∀ d os, Calls Try.prog 53 #[fv n c (.slice (some ⟨a, 0, none⟩) na na), .int .i64 k, .int .i64 j] (grow (redrawn wi d) os) fun e w'' => e = .returned (.int .i64 x) ∧ ∃ p : Regrown, w'' = grow (redrawn wi p.d) p.os := fun d os => by rw [HX.out]; exact Calls.regrown_of (CA.out _ k j hlt hjl (HI1.out d os))
          have cB : ∀ d os, Calls Try.prog 53 #[fv n c (.slice (some ⟨b, 0, none⟩) nb nb), .int .i64 k, .int .i64 j] (grow (redrawn wi d) os) fun e w'' => e = .returned (.int .i64 y) ∧ ∃ p : Regrown, w'' = grow (redrawn wi p.d) p.os := fun d os => by rw [HY.out]; exact Calls.regrown_of (CB.out _ k j hlt hjl (HI2.out d os))
          clear hown hbel hx hy
          go_wp2
          have q0 := cell_regrown (w := wi) d0
          have q1 := cell_regrown (w := wi) d1
          have q2 := cell_regrown (w := wi) d2
          have p0 := cell_regrown (w := wi) d3
          have p1 := cell_regrown (w := wi) d4
          have p2 := cell_regrown (w := wi) d5
          by_cases hxy : x = y
          · have hne : (x != y) = false := by simp [hxy]
            have HXY := Lib.hid hxy
            clear hxy
            refine wp_region_quiet_below (by kernel_rfl) (by kernel_rfl) ?_
            repeat (quiet_step (first | with_reducible exact cA _ _ | with_reducible exact cB _ _))
            refine wpQuiet_nil ?_
            intro _ hw'
            obtain ⟨⟨dq, osq⟩, hw''⟩ := hw'
            subst hw''
            have HBQ := Lib.hid (below_regrown wi dq osq)
            clear cA cB
            have o0 := q0 dq osq
            have o1 := q1 dq osq
            have o2 := q2 dq osq
            have o3 := p0 dq osq
            have o4 := p1 dq osq
            have o5 := p2 dq osq
            clear q0 q1 q2 p0 p1 p2 d0 d1 d2 d3 d4 d5
            go_wp2
            go_roundw
            case rel =>
              refine ⟨j + 1, by omega, by go_num, ?_, HB2.out.trans (HBQ.out.mono hsz), o0, o1, o2, o3, o4, o5⟩
              rw [rowDiff_same (by rw [← HX.out, ← HY.out]; exact HXY.out)]
              exact ownsRow_below HO2.out HBQ.out
            case measure => simp [intOf]; omega
          · have hne : (x != y) = true := by simp [hxy]
            have HXY := Lib.hid hxy
            clear hxy
            refine wp_region_quiet_below (by kernel_rfl) (by kernel_rfl) ?_
            repeat (quiet_step (first | with_reducible exact cA _ _ | with_reducible exact cB _ _))
            refine wpQuiet_nil ?_
            intro _ hw'
            obtain ⟨⟨dq, osq⟩, hw''⟩ := hw'
            have HBQ := Lib.hid (below_regrown wi dq osq)
            rw [← hw''] at HBQ
            subst hw''
            have o0 := q0 dq osq
            have o1 := q1 dq osq
            have o2 := q2 dq osq
            have o3 := p0 dq osq
            have o4 := p1 dq osq
            have o5 := p2 dq osq
            clear q0 q1 q2 p0 p1 p2 d0 d1 d2 d3 d4 d5 cA cB
            obtain ⟨wq, hwq⟩ : ∃ wq, wq = grow (redrawn wi dq) osq := ⟨_, rfl⟩
            rw [← hwq] at o0 o1 o2 o3 o4 o5 HBQ ⊢
            have HWQ := Lib.hid hwq
            clear hwq
            go_wp2
            have HB3 := Lib.hid (HB2.out.trans (HBQ.out.mono hsz))
            have hz3 := HB3.out.size
            have hw3 : w.heap.size + 2 ≤ wq.heap.size := by have h1 := hw2.out; have h2 := HBQ.out.size; omega
            have hzq := HBQ.out.size
            have HO3 := Lib.hid (ownsRow_below HO2.out HBQ.out)
            have hr1 := HA.out.of_block (HB3.out.block _ HA.out.lt)
            have hr2 := HB.out.of_block (HB3.out.block _ HB.out.lt)
            have HR1 := Lib.hid hr1
            have HR2 := Lib.hid hr2
            have CX : Hid (∀ W, W.rowIs a 3 na (fun i => .int .i64 (cellOf ga i)) → Calls Try.prog 53 #[fv n c (.slice (some ⟨a, 0, none⟩) na na), .int .i64 k, .int .i64 j] W fun e w' => e = .returned (.int .i64 x) ∧ Below W.heap.size W w') := fun W h => by rw [HX.out]; exact CA.out W k j hlt hjl h
            have CY : Hid (∀ W, W.rowIs b 3 nb (fun i => .int .i64 (cellOf gb i)) → Calls Try.prog 53 #[fv n c (.slice (some ⟨b, 0, none⟩) nb nb), .int .i64 k, .int .i64 j] W fun e w' => e = .returned (.int .i64 y) ∧ Below W.heap.size W w') := fun W h => by rw [HY.out]; exact CB.out W k j hlt hjl h
            obtain ⟨L, hL⟩ : ∃ L, L = diffs ga gb k ++ rowDiff ga gb k j := ⟨_, rfl⟩
            rw [← hL] at HO3
            have hLn : L.length ≤ 1000 := by
              rw [hL, List.length_append]
              have h1 := HDL.out k
              have h2 := HRL.out k j
              have h3 := Nat.mul_le_mul (show k ≤ 7 by omega) hca2
              omega
            have HLE := Lib.hid hL
            clear hL hr1 hr2
            go_region_held3 (fun w' => w'.cell? ⟨w.heap.size, 0, none⟩ = some (.int .i64 n) ∧ w'.cell? ⟨w.heap.size, 1, none⟩ = some (.int .i64 c) ∧ w'.cell? ⟨w.heap.size, 2, none⟩ = some (.slice (some ⟨a, 0, none⟩) na na) ∧ w'.cell? ⟨w.heap.size + 1, 0, none⟩ = some (.int .i64 n) ∧ w'.cell? ⟨w.heap.size + 1, 1, none⟩ = some (.int .i64 c) ∧ w'.cell? ⟨w.heap.size + 1, 2, none⟩ = some (.slice (some ⟨b, 0, none⟩) nb nb))
              (first | exact ⟨o0, o1, o2, o3, o4, o5⟩ | exact ⟨e0, e1, e2, e3, e4, e5⟩ | exact ⟨f0, f1, f2, f3, f4, f5⟩ | exact ⟨g0, g1, g2, g3, g4, g5⟩ | go_keep)
              (first | (go_at_call 53; (with_reducible refine (CX.out _ HR1.out.drew).mono ?_); rintro e w5 ⟨rfl, hb5⟩; have z5 : wq.heap.size ≤ w5.heap.size := hb5.size; have e0 := (hb5.cell (p := ⟨w.heap.size, 0, none⟩) (by show w.heap.size < wq.heap.size; omega)).trans o0; have e1 := (hb5.cell (p := ⟨w.heap.size, 1, none⟩) (by show w.heap.size < wq.heap.size; omega)).trans o1; have e2 := (hb5.cell (p := ⟨w.heap.size, 2, none⟩) (by show w.heap.size < wq.heap.size; omega)).trans o2; have e3 := (hb5.cell (p := ⟨w.heap.size + 1, 0, none⟩) (by show w.heap.size + 1 < wq.heap.size; omega)).trans o3; have e4 := (hb5.cell (p := ⟨w.heap.size + 1, 1, none⟩) (by show w.heap.size + 1 < wq.heap.size; omega)).trans o4; have e5 := (hb5.cell (p := ⟨w.heap.size + 1, 2, none⟩) (by show w.heap.size + 1 < wq.heap.size; omega)).trans o5) | (go_at_call 53; have hr5 := HR2.out.drew.of_block (hb5.block _ HR2.out.lt); (with_reducible refine (CY.out _ hr5).mono ?_); rintro e w6 ⟨rfl, hb6⟩; have f0 := (hb6.cell (p := ⟨w.heap.size, 0, none⟩) (by show w.heap.size < w5.heap.size; omega)).trans e0; have f1 := (hb6.cell (p := ⟨w.heap.size, 1, none⟩) (by show w.heap.size < w5.heap.size; omega)).trans e1; have f2 := (hb6.cell (p := ⟨w.heap.size, 2, none⟩) (by show w.heap.size < w5.heap.size; omega)).trans e2; have f3 := (hb6.cell (p := ⟨w.heap.size + 1, 0, none⟩) (by show w.heap.size + 1 < w5.heap.size; omega)).trans e3; have f4 := (hb6.cell (p := ⟨w.heap.size + 1, 1, none⟩) (by show w.heap.size + 1 < w5.heap.size; omega)).trans e4; have f5 := (hb6.cell (p := ⟨w.heap.size + 1, 2, none⟩) (by show w.heap.size + 1 < w5.heap.size; omega)).trans e5; have z6 : w5.heap.size ≤ w6.heap.size := hb6.size; have HO6 := Lib.hid (ownsRow_below (ownsRow_below (show wq.drew.ownsRow _ _ _ _ _ _ from HO3.out.drew) hb5) hb6); have HB6 := Lib.hid (((HB3.out.drew).trans (hb5.mono (by show w.heap.size ≤ wq.heap.size; omega))).trans (hb6.mono (by omega)))) | (refine step_app_quads w6 _ rfl _ _ rfl (w.heap.size + 2) _ L _ [((k : Int), (j : Int), x, y)] (HO6.out.alloc _) quads_one rfl rfl (by simp; omega) (by simp; omega) ((Below.refl (w.heap.size + 2) w6).alloc (by omega) _) ?_; intro v7 w7 hown7 hb7; have g0 := (hb7.cell (p := ⟨w.heap.size, 0, none⟩) (by show w.heap.size < w.heap.size + 2; omega)).trans f0; have g1 := (hb7.cell (p := ⟨w.heap.size, 1, none⟩) (by show w.heap.size < w.heap.size + 2; omega)).trans f1; have g2 := (hb7.cell (p := ⟨w.heap.size, 2, none⟩) (by show w.heap.size < w.heap.size + 2; omega)).trans f2; have g3 := (hb7.cell (p := ⟨w.heap.size + 1, 0, none⟩) (by show w.heap.size + 1 < w.heap.size + 2; omega)).trans f3; have g4 := (hb7.cell (p := ⟨w.heap.size + 1, 1, none⟩) (by show w.heap.size + 1 < w.heap.size + 2; omega)).trans f4; have g5 := (hb7.cell (p := ⟨w.heap.size + 1, 2, none⟩) (by show w.heap.size + 1 < w.heap.size + 2; omega)).trans f5; have HO7 := Lib.hid hown7; have HB7 := Lib.hid hb7) | fail)
            go_wp2
            go_roundw
            case rel =>
              refine ⟨j + 1, by omega, by go_num, ?_, HB6.out.trans (HB7.out.mono (by omega)), g0, g1, g2, g3, g4, g5⟩
              rw [rowDiff_other HX.out HY.out HXY.out, ← List.append_assoc, ← HLE.out]
              exact HO7.out
            case measure => simp [intOf]; omega
        · obtain rfl : j = c := by omega
          have HO2 := Lib.hid hown
          have HB2 := Lib.hid hbel
          clear hown hbel
          go_wp2
          go_roundw
          case rel => exact ⟨k + 1, by omega, by go_num, by rw [HDS.out]; exact HO2.out, HB2.out, d0, d1, d2, d3, d4, d5⟩
          case measure => simp [intOf]; omega
    · obtain rfl : k = n := by omega
      go_wp2
      go_ret
      exact ⟨_, rfl, by rw [HEnd.out]; exact hown, hbel⟩
end Go.Proofs.Ytdelcebkpdnnjaa
