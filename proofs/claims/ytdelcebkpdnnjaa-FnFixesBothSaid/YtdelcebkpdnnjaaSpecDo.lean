/-
  The reference's l1Cell, l9Can, FixesDo, FixesValid and FixesRise. No condition but that the slices read as the lists, and for the first two a grid.
-/
import Derived.Test.YtdelcebkpdnnjaaFixI
import Derived.Test.YtdelcebkpdnnjaaGap2
import Derived.Test.YtdelcebkpdnnjaaCopy
import Derived.StillTailTactics
namespace Go.Proofs.Ytdelcebkpdnnjaa
open Go.RowKit Go.Deep Go.Sort BigFrame

theorem OwnG.slice3 {lo hi : Nat} {w : World} {v : Value} {g : Rows} (h : OwnG lo hi w v g) : ∃ a n c, v = .slice a n c := by
  rcases h with ⟨_, a, c, rfl, _⟩ | ⟨b, off, cap, _, _, _, _, _, rfl, _⟩
  · exact ⟨_, _, _, rfl⟩
  · exact ⟨_, _, _, rfl⟩
set_option maxHeartbeats 1000000 in
theorem l1Cell_any (v : Value) (g : Rows) (R C : Int) (w : World) (hG : Grid w v g) (hg : GridOk g) :
    Calls Try.prog 92 #[v, .int .i64 R, .int .i64 C] w fun e w' => e = .returned (.bool (decide (HasCell g.length (colsOf g) R C))) ∧ Below w.heap.size w w' := by
  have CV := Lib.hid (specGridValid_any v g w hG)
  rw [decide_eq_true hg] at CV
  obtain ⟨a, cap, rfl, h1, h2, h3⟩ := hG
  obtain ⟨b, off, rfl, hb, hc⟩ := h3 hg.1
  obtain ⟨r, hr, a2, c2, rfl, _, _, _⟩ := hc 0 hg.1
  rw [show (g[0]?.getD []).length = colsOf g from rfl] at hr
  rw [Nat.add_zero] at hr
  have hgl := hg.1
  have hgl2 := hg.2.1
  have hca := hg.2.2.1
  have hca2 := hg.2.2.2.1
  obtain ⟨n, hn⟩ : ∃ n, n = g.length := ⟨_, rfl⟩
  obtain ⟨c, hc2⟩ : ∃ c, c = colsOf g := ⟨_, rfl⟩
  rw [← hn] at hgl hgl2 CV ⊢
  rw [← hc2] at hca hca2 hr ⊢
  have hn0 : (0 : Int) < (n : Int) := by omega
  have hn1 : 0 < n := by omega
  clear hn hc2 h1 h3 hc hg
  by_cases t1 : 0 ≤ R ∧ R ≤ (n : Int) - 1
  · by_cases t2 : 0 ≤ C ∧ C ≤ (c : Int) - 1
    · have HD := Lib.hid (show decide (HasCell n c R C) = true from decide_eq_true ⟨t1.1, by omega, t2.1, by omega⟩)
      have T1 := Lib.hid t1
      have T2 := Lib.hid t2
      clear t1 t2
      go_enter Try.func92, Try.ntmps92
      go_wp2_with fail
      refine CV.out.mono ?_
      rintro e w1 ⟨rfl, hb1⟩
      have HB := Lib.hid hb1
      have j1 := (hb1.cell (p := ⟨b, off, none⟩) hb).trans hr
      clear hb1 CV hr
      go_wp2_with fail
      refine (l6In_yes _ _ _ _ T1.out.1 T1.out.2).mono ?_
      rintro e w2 ⟨rfl, rfl⟩
      go_wp2_with fail
      refine (l6In_yes _ _ _ _ T2.out.1 T2.out.2).mono ?_
      rintro e w2 ⟨rfl, rfl⟩
      go_wp2
      go_ret
      exact ⟨ret_bool HD.out.symm, HB.out⟩
    · have HD := Lib.hid (show decide (HasCell n c R C) = false from decide_eq_false fun h => t2 ⟨h.2.2.1, by have := h.2.2.2; omega⟩)
      have T1 := Lib.hid t1
      have T2 := Lib.hid (show C < 0 ∨ (c : Int) - 1 < C by omega)
      clear t1 t2
      go_enter Try.func92, Try.ntmps92
      go_wp2_with fail
      refine CV.out.mono ?_
      rintro e w1 ⟨rfl, hb1⟩
      have HB := Lib.hid hb1
      have j1 := (hb1.cell (p := ⟨b, off, none⟩) hb).trans hr
      clear hb1 CV hr
      go_wp2_with fail
      refine (l6In_yes _ _ _ _ T1.out.1 T1.out.2).mono ?_
      rintro e w2 ⟨rfl, rfl⟩
      go_wp2_with fail
      refine (l6In_no _ _ _ _ T2.out).mono ?_
      rintro e w2 ⟨rfl, rfl⟩
      go_wp2
      go_ret
      exact ⟨ret_bool HD.out.symm, HB.out⟩
  · have HD := Lib.hid (show decide (HasCell n c R C) = false from decide_eq_false fun h => t1 ⟨h.1, by have := h.2.1; omega⟩)
    have T1 := Lib.hid (show R < 0 ∨ (n : Int) - 1 < R by omega)
    clear t1
    go_enter Try.func92, Try.ntmps92
    go_wp2_with fail
    refine CV.out.mono ?_
    rintro e w1 ⟨rfl, hb1⟩
    have HB := Lib.hid hb1
    clear hb1 CV hr
    go_wp2_with fail
    refine (l6In_no _ _ _ _ T1.out).mono ?_
    rintro e w2 ⟨rfl, rfl⟩
    go_wp2
    go_ret
    exact ⟨ret_bool HD.out.symm, HB.out⟩

set_option maxHeartbeats 4000000 in
set_option maxRecDepth 100000 in
theorem l9Can_any (v : Value) (g : Rows) (R C O N : Int) (w : World) (hG : Grid w v g) (hg : GridOk g) :
    Calls Try.prog 74 #[v, .agg #[.int .i64 R, .int .i64 C, .int .i64 O, .int .i64 N]] w fun e w' => e = .returned (.bool (decide (Can g (R, C, O, N)))) ∧ Below w.heap.size w w' := by
  have HG := Lib.hid hg
  obtain ⟨W, hW⟩ : ∃ W, W = w.alloc (.cells #[.int .i64 R, .int .i64 C, .int .i64 O, .int .i64 N] 41) := ⟨_, rfl⟩
  have HB : Hid (Below w.heap.size w W) := by rw [hW]; exact (Below.refl w.heap.size w).alloc (Nat.le_refl _) _
  have hz : w.heap.size ≤ W.heap.size := HB.out.size
  have hq : QAt W w.heap.size 0 (R, C, O, N) := by rw [hW]; exact QAt_new w (R, C, O, N) 41
  have HGW : Hid (GridB w.heap.size W v g) := GridB.below (show GridB w.heap.size w v g from hG) HB.out (Nat.le_refl _)
  obtain ⟨q0', q1, q2, q3⟩ := hq.zero
  have c0 := cell_regrown q0'
  have c1 := cell_regrown q1
  have c2 := cell_regrown q2
  have c3 := cell_regrown q3
  have hgl2 := hg.2.1
  have hca2 := hg.2.2.2.1
  have hw2 := hW.symm
  clear hW hG q0' q1 q2 q3 hq
  have HZW := Lib.hid (fun d os => (below_regrown W d os).size)
  have cL : ∀ d os, Calls Try.prog 92 #[v, .int .i64 R, .int .i64 C] (grow (redrawn W d) os) fun e w'' => e = .returned (.bool (decide (HasCell g.length (colsOf g) R C))) ∧ ∃ p : Regrown, w'' = grow (redrawn W p.d) p.os := fun d os => Calls.regrown_of (l1Cell_any v g R C _ ((gridB_regrown HGW.out hz d os).grid (by have := HZW.out d os; omega)) HG.out)
  obtain ⟨a, cap, rfl, h1', h2', h3'⟩ := HGW.out
  obtain ⟨b, off, rfl, hb, hcc⟩ := h3' hg.1
  by_cases h1 : HasCell g.length (colsOf g) R C
  · rw [decide_eq_true h1] at cL
    obtain ⟨i, rfl⟩ : ∃ i : Nat, R = (i : Int) := ⟨R.toNat, by have := h1.1; omega⟩
    obtain ⟨j, rfl⟩ : ∃ j : Nat, C = (j : Int) := ⟨C.toNat, by have := h1.2.2.1; omega⟩
    have hi : i < g.length := by have := h1.2.1; omega
    have hj : j < colsOf g := by have := h1.2.2.2; omega
    obtain ⟨r, hr, a2, c2', rfl, r1, r2, r3⟩ := hcc i hi
    have hl := (hg.2.2.2.2 i hi).1
    obtain ⟨b2, o2, rfl, _, hr4⟩ := r3 (by omega)
    have hr5 := hr4 j (by omega)
    rw [hl] at hr
    have m0 := cell_regrown hr
    obtain ⟨x, hx⟩ : ∃ x, x = (g[i]?.getD [])[j]?.getD 0 := ⟨_, rfl⟩
    rw [← hx] at hr5
    have m1 := cell_regrown hr5
    have i0 : (0 : Int) ≤ (i : Int) := by omega
    have i1 : (i : Int) < (g.length : Int) := by omega
    have i2 : (0 : Int) ≤ (j : Int) := by omega
    have i3 : (j : Int) < (colsOf g : Int) := by omega
    clear hr hr5 hr4 r3 hcc h3' hl
    by_cases h2 : x = O
    · have t2 : (x == O) = true := by simp [h2]
      by_cases h3 : 0 ≤ N ∧ N ≤ 99
      · have cI : ∀ d os, Calls Try.prog 91 #[.int .i64 N, .int .i64 0, .int .i64 99] (grow (redrawn W d) os) fun e w'' => e = .returned (.bool true) ∧ ∃ p : Regrown, w'' = grow (redrawn W p.d) p.os := fun d os => Calls.regrown_of ((l6In_yes N 0 99 _ h3.1 h3.2).mono fun e w' ⟨he, hw⟩ => ⟨he, by subst hw; exact Below.refl _ _⟩)
        by_cases h4 : N = O
        · have t4 : (N != O) = false := by simp [h4]
          have HD : Hid (decide (Can g ((i : Int), (j : Int), O, N)) = false) := decide_eq_false fun h => h.2.2.2.2.2.2.2 h4
          clear h1 h2 h3 h4 hx hg
          go_enter Try.func74, Try.ntmps74
          go_wp2
          try rw [hw2]
          clear hw2
          refine wp_region_quiet_below (by kernel_rfl) (by kernel_rfl) ?_
          repeat (go_big_quiet_step (first | with_reducible exact cL _ _ | with_reducible exact cI _ _))
          refine wpQuiet_nil ?_
          intro _ hw'
          obtain ⟨⟨dq, osq⟩, hw''⟩ := hw'
          subst hw''
          have HBQ := Lib.hid (below_regrown W dq osq)
          clear cL cI
          go_wp2
          go_ret
          exact ⟨ret_bool HD.out.symm, HB.out.trans (HBQ.out.mono hz)⟩
        · have t4 : (N != O) = true := by simp [h4]
          have HD : Hid (decide (Can g ((i : Int), (j : Int), O, N)) = true) := decide_eq_true ⟨h1.1, h1.2.1, h1.2.2.1, h1.2.2.2, by show (g[i]?.getD [])[j]?.getD 0 = O; rw [← hx]; exact h2, h3.1, h3.2, h4⟩
          clear h1 h2 h3 h4 hx hg
          go_enter Try.func74, Try.ntmps74
          go_wp2
          try rw [hw2]
          clear hw2
          refine wp_region_quiet_below (by kernel_rfl) (by kernel_rfl) ?_
          repeat (go_big_quiet_step (first | with_reducible exact cL _ _ | with_reducible exact cI _ _))
          refine wpQuiet_nil ?_
          intro _ hw'
          obtain ⟨⟨dq, osq⟩, hw''⟩ := hw'
          subst hw''
          have HBQ := Lib.hid (below_regrown W dq osq)
          clear cL cI
          go_wp2
          go_ret
          exact ⟨ret_bool HD.out.symm, HB.out.trans (HBQ.out.mono hz)⟩
      · have cI : ∀ d os, Calls Try.prog 91 #[.int .i64 N, .int .i64 0, .int .i64 99] (grow (redrawn W d) os) fun e w'' => e = .returned (.bool false) ∧ ∃ p : Regrown, w'' = grow (redrawn W p.d) p.os := fun d os => Calls.regrown_of ((l6In_no N 0 99 _ (by omega)).mono fun e w' ⟨he, hw⟩ => ⟨he, by subst hw; exact Below.refl _ _⟩)
        have HD : Hid (decide (Can g ((i : Int), (j : Int), O, N)) = false) := decide_eq_false fun h => h3 ⟨h.2.2.2.2.2.1, h.2.2.2.2.2.2.1⟩
        clear h1 h2 h3 hx hg
        go_enter Try.func74, Try.ntmps74
        go_wp2
        try rw [hw2]
        clear hw2
        refine wp_region_quiet_below (by kernel_rfl) (by kernel_rfl) ?_
        repeat (go_big_quiet_step (first | with_reducible exact cL _ _ | with_reducible exact cI _ _))
        refine wpQuiet_nil ?_
        intro _ hw'
        obtain ⟨⟨dq, osq⟩, hw''⟩ := hw'
        subst hw''
        have HBQ := Lib.hid (below_regrown W dq osq)
        clear cL cI
        go_wp2
        go_ret
        exact ⟨ret_bool HD.out.symm, HB.out.trans (HBQ.out.mono hz)⟩
    · have t2 : (x == O) = false := by simp [h2]
      have HD : Hid (decide (Can g ((i : Int), (j : Int), O, N)) = false) := decide_eq_false fun h => h2 (by rw [hx]; exact h.2.2.2.2.1)
      clear h1 h2 hx hg
      go_enter Try.func74, Try.ntmps74
      go_wp2
      try rw [hw2]
      clear hw2
      refine wp_region_quiet_below (by kernel_rfl) (by kernel_rfl) ?_
      repeat (go_big_quiet_step (first | with_reducible exact cL _ _))
      refine wpQuiet_nil ?_
      intro _ hw'
      obtain ⟨⟨dq, osq⟩, hw''⟩ := hw'
      subst hw''
      have HBQ := Lib.hid (below_regrown W dq osq)
      clear cL
      go_wp2
      go_ret
      exact ⟨ret_bool HD.out.symm, HB.out.trans (HBQ.out.mono hz)⟩
  · rw [decide_eq_false h1] at cL
    have HD : Hid (decide (Can g (R, C, O, N)) = false) := decide_eq_false fun h => h1 ⟨h.1, h.2.1, h.2.2.1, h.2.2.2.1⟩
    clear h1 hg hcc h3'
    go_enter Try.func74, Try.ntmps74
    go_wp2
    try rw [hw2]
    clear hw2
    refine wp_region_quiet_below (by kernel_rfl) (by kernel_rfl) ?_
    repeat (go_big_quiet_step (first | with_reducible exact cL _ _))
    refine wpQuiet_nil ?_
    intro _ hw'
    obtain ⟨⟨dq, osq⟩, hw''⟩ := hw'
    subst hw''
    have HBQ := Lib.hid (below_regrown W dq osq)
    clear cL
    go_wp2
    go_ret
    exact ⟨ret_bool HD.out.symm, HB.out.trans (HBQ.out.mono hz)⟩

set_option maxHeartbeats 4000000 in
set_option maxRecDepth 100000 in
theorem specFixesDo_any (vg vl : Value) (g : Rows) (l : List Quad) (w : World) (hG : Grid w vg g) (hL : Quads w vl l) :
    Calls Try.prog 38 #[vg, vl] w fun e w' => ∃ v, e = .returned (.tuple #[v, .bool (decide (EdOk g l))]) ∧ OwnG w.heap.size w'.heap.size w' v (edAll g l) ∧ Below w.heap.size w w' := by
  have HGR := Lib.hid (show GridB w.heap.size w vg g from hG)
  have HL := Lib.hid hL.quadsB
  have CV := Lib.hid (specGridValid_any vg g w hG)
  obtain ⟨la, lc, rfl, q1, q2, q3⟩ := hL
  by_cases hg : GridOk g
  · rw [decide_eq_true hg] at CV
    have HG := Lib.hid hg
    by_cases hl : l.length ≤ 60
    · have t1 : decide ((60 : Int) < (l.length : Int)) = false := decide_eq_false (by omega)
      have hgl := hg.1
      have hgl2 := hg.2.1
      have hca := hg.2.2.1
      have hca2 := hg.2.2.2.1
      have HRL : Hid (∀ k, k < g.length → (g[k]?.getD []).length ≤ 1000000) := fun k hk => by have := (hg.2.2.2.2 k hk).1; omega
      have HQ := Lib.hid q3
      clear hG hg q3
      go_enter Try.func38, Try.ntmps38
      go_wp2_with fail
      refine CV.out.mono ?_
      rintro e w1 ⟨rfl, b1'⟩
      have B1 := Lib.hid b1'
      have z1 := b1'.size
      clear b1' CV
      go_wp2_with fail
      refine (l1Copy_any _ g _ ((HGR.out.below B1.out (Nat.le_refl _)).grid z1) (by omega) HRL.out).mono ?_
      rintro e w2 ⟨x, rfl, hOx, b2'⟩
      have B2 := Lib.hid (B1.out.trans (b2'.mono z1))
      have z2 := b2'.size
      have HX := Lib.hid hOx
      clear b2' hOx
      obtain ⟨L0, hL0⟩ : ∃ L, L = w1.heap.size := ⟨_, rfl⟩
      obtain ⟨L1, hL1⟩ : ∃ L, L = w2.heap.size := ⟨_, rfl⟩
      rw [← hL0, ← hL1] at HX
      rw [← hL0] at z1 z2
      rw [← hL1] at z2
      have HL1 := Lib.hid hL1
      clear hL0 hL1
      go_wp2
      go_loopw [7] (fun i wr => ∃ k : Nat, k ≤ l.length ∧ i = .int .i64 k ∧ CanUp g l k ∧ OwnG L0 L1 wr x (doneUp g l k) ∧ L1 ≤ wr.heap.size ∧ Below w.heap.size w wr) (fun i _ => l.length - (intOf i).toNat)
      case atStart => exact ⟨0, Nat.zero_le _, rfl, (fun j hj => absurd hj (Nat.not_lt_zero _)), by rw [doneUp_zero]; exact HX.out, by rw [HL1.out]; exact Nat.le_refl _, B2.out⟩
      case round =>
        obtain ⟨k, hk, rfl, hcan, hO, hL1w, hbel⟩ := hrel
        have HCAN := Lib.hid hcan
        have HO := Lib.hid hO
        have HBE := Lib.hid hbel
        have hzw := hbel.size
        by_cases hlt : k < l.length
        · obtain ⟨b, off, hae, hbb, hq⟩ := HQ.out (by omega)
          subst hae
          obtain ⟨c0, c1, c2, c3⟩ := (hq k hlt).below hbel hbb
          obtain ⟨R, C, O, V, hx⟩ : ∃ R C O V, (R, C, O, V) = l[k]?.getD q0 := ⟨_, _, _, _, rfl⟩
          rw [← hx] at c0 c1 c2 c3
          dsimp only at c0 c1 c2 c3
          have HX' := Lib.hid hx
          have hgd := doneUp_grid HG.out k hk hcan
          have HGD := Lib.hid hgd
          have K := Lib.hid (And.intro c0 (And.intro c1 c3))
          have CC := Lib.hid (l9Can_any x (doneUp g l k) R C O V wr (HO.out.grid hL1w) hgd.1)
          have k1 : (0 : Int) ≤ (k : Int) := by omega
          have k2 : (k : Int) < (l.length : Int) := by omega
          clear hq hx hbel hO hcan hgd
          go_wp2_with fail
          refine CC.out.mono ?_
          rintro e w3 ⟨rfl, hb3⟩
          have c0' := (hb3.cell (p := ⟨b, off + k * 4, none⟩) (by show b < wr.heap.size; omega)).trans c0
          have c1' := (hb3.cell (p := ⟨b, off + k * 4 + 1, none⟩) (by show b < wr.heap.size; omega)).trans c1
          have c3' := (hb3.cell (p := ⟨b, off + k * 4 + 3, none⟩) (by show b < wr.heap.size; omega)).trans c3
          have z3 := hb3.size
          have HB3 := Lib.hid (HBE.out.trans (hb3.mono hzw))
          have HO3 := Lib.hid (HO.out.below hb3 hL1w)
          clear c0 c1 c2 c3 hb3 CC
          by_cases hc : Can (doneUp g l k) (R, C, O, V)
          · rw [decide_eq_true hc]
            have HC := Lib.hid hc
            have h1 : (0 : Int) ≤ R := hc.1
            have h2 : R < ((doneUp g l k).length : Int) := hc.2.1
            have h3 : (0 : Int) ≤ C := hc.2.2.1
            have h4 : C < (colsOf (doneUp g l k) : Int) := hc.2.2.2.1
            obtain ⟨i, rfl⟩ : ∃ i : Nat, R = (i : Int) := ⟨R.toNat, by omega⟩
            obtain ⟨j, rfl⟩ : ∃ j : Nat, C = (j : Int) := ⟨C.toNat, by omega⟩
            have hi : i < (doneUp g l k).length := by omega
            have hrl := (HGD.out.1.2.2.2.2 i hi).1
            obtain ⟨bx, ox, cx, bx2, ox2, cx2, hxv, s1, s2, s3, s4, s5, s6, s7, s8⟩ := HO3.out.cell (r := i) (c := j) hi (by omega)
            have S8 : Hid (OwnG L0 L1 (w3.setCell ⟨bx2, ox2 + j, none⟩ (.int .i64 V)) x (doneUp g l (k + 1))) := by
              have := s8 V
              rw [doneUp_succ hlt, ← HX'.out]
              exact this
            have HCAN8 : Hid (CanUp g l (k + 1)) := canUp_succ HCAN.out (by rw [← HX'.out]; exact HC.out)
            have j1 : (i : Int) < (g.length : Int) := by rw [← HGD.out.2.1]; omega
            have j2 : (0 : Int) ≤ (i : Int) := by omega
            have j3 : (j : Int) < (colsOf g : Int) := by rw [← HGD.out.2.2]; omega
            have j4 : (0 : Int) ≤ (j : Int) := by omega
            rw [hrl, HGD.out.2.2] at s1 s6
            rw [HGD.out.2.1] at hxv
            subst hxv
            obtain ⟨u, hu⟩ : ∃ u, u = ((doneUp g l k)[i]?.getD [])[j]?.getD 0 := ⟨_, rfl⟩
            rw [← hu] at s2
            have j5 : w.heap.size ≤ bx2 := by omega
            clear hc h1 h2 h3 h4 s8 hrl hu hi
            go_wp2_with fail
            go_still_tail 19, (by kernel_rfl)
            change wpList _ _ _ _ _ w3.drew
            have t2' : w3.drew.cell? ⟨bx2, ox2 + j, none⟩ = _ := s2
            have t3' : w3.drew.frozen? ⟨bx2, ox2 + j, none⟩ = _ := s3
            go_wp2
            go_roundw
            case rel =>
              have hTB : Touch L0 L1 w3 (w3.setCell ⟨bx2, ox2 + j, none⟩ (.int .i64 V)).drew := ((Touch.refl L0 L1 w3).setCell s4 s5 _).drew
              have hzB : w3.heap.size ≤ (w3.setCell ⟨bx2, ox2 + j, none⟩ (.int .i64 V)).drew.heap.size := hTB.size
              exact ⟨k + 1, by omega, by go_num, HCAN8.out, S8.out, by omega, (HB3.out.setCell (p := ⟨bx2, ox2 + j, none⟩) j5 _).drew⟩
            case measure => simp [intOf]; omega
          · rw [decide_eq_false hc]
            have HNO := Lib.hid (show ¬ EdOk g l from fun h => hc (by have := h.2.2 k hlt; rw [← HX'.out] at this; exact this))
            clear hc
            go_wp2
            go_ret2
            exact ⟨_, by rw [decide_eq_false HNO.out]; first | done | rfl, by rw [edAll_no HNO.out]; exact .inl ⟨rfl, _, _, rfl, by omega⟩, HB3.out.alloc (by omega) _⟩
        · obtain rfl : k = l.length := by omega
          have HYES := Lib.hid (show EdOk g l from ⟨HG.out, hl, HCAN.out⟩)
          clear hO hbel hcan
          go_wp2
          obtain ⟨b0, o0, cc0, hv0⟩ := HO.out.slice3
          subst hv0
          go_ret2
          exact ⟨_, by rw [decide_eq_true HYES.out]; first | done | rfl, by rw [edAll_yes HYES.out]; exact HO.out.mono z1 hL1w, HBE.out⟩
    · have t1 : decide ((60 : Int) < (l.length : Int)) = true := decide_eq_true (by omega)
      have HNO := Lib.hid (show ¬ EdOk g l from fun h => hl h.2.1)
      clear hG hg q3 hl
      go_enter Try.func38, Try.ntmps38
      go_wp2_with fail
      refine CV.out.mono ?_
      rintro e w1 ⟨rfl, b1'⟩
      have B1 := Lib.hid b1'
      clear b1' CV
      go_wp2
      go_ret2
      exact ⟨_, by rw [decide_eq_false HNO.out]; first | done | rfl, by rw [edAll_no HNO.out]; exact .inl ⟨rfl, _, _, rfl, by omega⟩, B1.out.alloc B1.out.size _⟩
  · rw [decide_eq_false hg] at CV
    have HNO := Lib.hid (show ¬ EdOk g l from fun h => hg h.1)
    clear hG hg q3
    go_enter Try.func38, Try.ntmps38
    go_wp2_with fail
    refine CV.out.mono ?_
    rintro e w1 ⟨rfl, b1'⟩
    have B1 := Lib.hid b1'
    clear b1' CV
    go_wp2
    go_ret2
    exact ⟨_, by rw [decide_eq_false HNO.out]; first | done | rfl, by rw [edAll_no HNO.out]; exact .inl ⟨rfl, _, _, rfl, by omega⟩, B1.out.alloc B1.out.size _⟩

set_option maxHeartbeats 400000 in
theorem specFixesValid_any (vg vl : Value) (g : Rows) (l : List Quad) (w : World) (hG : Grid w vg g) (hL : Quads w vl l) :
    Calls Try.prog 50 #[vg, vl] w fun e w' => e = .returned (.bool (decide (EdOk g l))) ∧ Below w.heap.size w w' := by
  have C := Lib.hid (specFixesDo_any vg vl g l w hG hL)
  obtain ⟨o, ho⟩ : ∃ o, o = decide (EdOk g l) := ⟨_, rfl⟩
  rw [← ho] at C ⊢
  clear hG hL ho
  go_enter Try.func50, Try.ntmps50
  go_wp2_with fail
  refine C.out.mono ?_
  rintro e w1 ⟨v, rfl, hO, hb⟩
  go_wp2
  go_ret
  exact ⟨rfl, hb⟩

end Go.Proofs.Ytdelcebkpdnnjaa
