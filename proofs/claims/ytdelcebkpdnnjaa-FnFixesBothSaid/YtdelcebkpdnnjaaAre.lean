/-
  FixesAre, the program's and the reference's. No condition but that the slices read as the lists.
-/
import Derived.Test.YtdelcebkpdnnjaaCmp
import Derived.Test.YtdelcebkpdnnjaaSpecDo
namespace Go.Proofs.Ytdelcebkpdnnjaa
open Go.RowKit Go.Deep Go.Sort BigFrame

/-- the first k corrections ascend -/
def AscUp (l : List Quad) (k : Nat) : Prop := ∀ j, j + 1 < k → CellLt (l[j]?.getD q0) (l[j + 1]?.getD q0)
instance (l : List Quad) (k : Nat) : Decidable (AscUp l k) := decidable_of_iff (∀ j, j < k → j + 1 < k → CellLt (l[j]?.getD q0) (l[j + 1]?.getD q0)) ⟨fun h j hj => h j (by omega) hj, fun h j _ hj => h j hj⟩
def AreOk (g : Rows) (l : List Quad) : Prop := EdOk g l ∧ AscUp l l.length
instance (g : Rows) (l : List Quad) : Decidable (AreOk g l) := by unfold AreOk; infer_instance
theorem ascUp_one (l : List Quad) {k : Nat} (h : k ≤ 1) : AscUp l k := fun j hj => by omega
theorem ascUp_succ {l : List Quad} {k : Nat} (h : AscUp l (k + 1)) (h2 : CellLt (l[k]?.getD q0) (l[k + 1]?.getD q0)) : AscUp l (k + 2) := fun j hj => by
  by_cases e : j = k
  · subst e; exact h2
  · exact h j (by omega)

set_option maxHeartbeats 2000000 in
set_option maxRecDepth 100000 in
theorem FixesAre_any (vg vl : Value) (g : Rows) (l : List Quad) (w : World) (hG : Grid w vg g) (hL : Quads w vl l) :
    Calls Try.prog 35 #[vg, vl] w fun e w' => e = .returned (.bool (decide (AreOk g l))) ∧ Below w.heap.size w w' := by
  have C := Lib.hid (FixesValid_any vg vl g l w hG hL)
  have HL := Lib.hid hL.quadsB
  obtain ⟨la, lc, rfl, q1, q2, q3⟩ := hL
  by_cases h : EdOk g l
  · rw [decide_eq_true h] at C
    have hl60 := h.2.1
    have HE := Lib.hid h
    have HQ := Lib.hid q3
    clear hG h q3
    go_enter Try.func35, Try.ntmps35
    go_wp2_with fail
    refine C.out.mono ?_
    rintro e w1 ⟨rfl, hb⟩
    have HB := Lib.hid hb
    clear hb C
    go_wp2_with fail
    go_loopw [5] (fun s wr => ∃ k : Nat, (k = 0 ∨ k < l.length) ∧ s = .int .i64 ((k : Int) + 1) ∧ AscUp l (k + 1) ∧ Below w.heap.size w wr) (fun s _ => l.length - (intOf s).toNat)
    case atStart => exact ⟨0, .inl rfl, rfl, ascUp_one l (Nat.le_refl _), HB.out⟩
    case round =>
      obtain ⟨k, hk, rfl, hasc, hbel⟩ := hrel
      have HBE := Lib.hid hbel
      have HA := Lib.hid hasc
      have hzw := hbel.size
      by_cases hlt : k + 1 < l.length
      · obtain ⟨b, off, hae, hbb, hq⟩ := HQ.out (by omega)
        subst hae
        obtain ⟨c0, c1, c2, c3⟩ := (hq k (by omega)).below hbel hbb
        obtain ⟨d0, d1, d2, d3⟩ := (hq (k + 1) hlt).below hbel hbb
        obtain ⟨p, hp⟩ : ∃ p, p = l[k]?.getD q0 := ⟨_, rfl⟩
        obtain ⟨q, hq'⟩ : ∃ p, p = l[k + 1]?.getD q0 := ⟨_, rfl⟩
        rw [← hp] at c0 c1 c2 c3
        rw [← hq'] at d0 d1 d2 d3
        have HP := Lib.hid hp
        have HQ' := Lib.hid hq'
        have x0 := cell_regrown c0
        have x1 := cell_regrown c1
        have x2 := cell_regrown c2
        have x3 := cell_regrown c3
        have y0 := cell_regrown d0
        have y1 := cell_regrown d1
        have y2 := cell_regrown d2
        have y3 := cell_regrown d3
        have w1' : IntKind.i64.wrap ((k : Int) + 1 - 1) = (k : Int) := by rw [Int.add_sub_cancel]; exact wrap_small (by omega) (by omega)
        have w2' : IntKind.i64.wrap (k : Int) = (k : Int) := wrap_small (by omega) (by omega)
        have k1 : (0 : Int) ≤ (k : Int) := by omega
        have k2 : (k : Int) < (l.length : Int) := by omega
        have k3 : (0 : Int) ≤ (k : Int) + 1 := by omega
        have k4 : (k : Int) + 1 < (l.length : Int) := by omega
        have k5 : ((k : Int) + 1).toNat = k + 1 := by omega
        have cB : ∀ d os, Calls Try.prog 58 #[qv p, qv q] (grow (redrawn wr d) os) fun e w'' => e = .returned (.int .i64 (cellCmp p q)) ∧ ∃ p : Regrown, w'' = grow (redrawn wr p.d) p.os := fun d os => Calls.regrown_of (byCell_any p q _)
        by_cases hc : CellLt p q
        · have hneg := (cellCmp_lt p q).2 hc
          obtain ⟨z, hz⟩ : ∃ z, z = cellCmp p q := ⟨_, rfl⟩
          rw [← hz] at hneg cB
          have tz : decide (0 ≤ z) = false := decide_eq_false (by omega)
          have HC := Lib.hid hc
          clear hq hp hq' hbel hasc c0 c1 c2 c3 d0 d1 d2 d3 hc hz
          go_wp2_with fail
          refine wp_region_quiet_below (by kernel_rfl) (by kernel_rfl) ?_
          repeat (go_big_quiet_step (first | with_reducible exact cB _ _))
          refine wpQuiet_nil ?_
          intro _ hw'
          obtain ⟨⟨dq, osq⟩, hw''⟩ := hw'
          subst hw''
          have HBQ := Lib.hid (below_regrown wr dq osq)
          clear cB x0 x1 x2 x3 y0 y1 y2 y3
          go_wp2
          go_roundw
          case rel => exact ⟨k + 1, .inr hlt, by go_num, ascUp_succ HA.out (by rw [← HP.out, ← HQ'.out]; exact HC.out), HBE.out.trans (HBQ.out.mono hzw)⟩
          case measure => simp [intOf]; omega
        · have hpos : 0 ≤ cellCmp p q := Int.not_lt.1 fun h => hc ((cellCmp_lt p q).1 h)
          obtain ⟨z, hz⟩ : ∃ z, z = cellCmp p q := ⟨_, rfl⟩
          rw [← hz] at hpos cB
          have tz : decide (0 ≤ z) = true := decide_eq_true hpos
          have HNO := Lib.hid (show ¬ AreOk g l from fun hh => hc (by rw [HP.out, HQ'.out]; exact hh.2 k hlt))
          clear hq hp hq' hbel hasc c0 c1 c2 c3 d0 d1 d2 d3 hc hz
          go_wp2_with fail
          refine wp_region_quiet_below (by kernel_rfl) (by kernel_rfl) ?_
          repeat (go_big_quiet_step (first | with_reducible exact cB _ _))
          refine wpQuiet_nil ?_
          intro _ hw'
          obtain ⟨⟨dq, osq⟩, hw''⟩ := hw'
          subst hw''
          have HBQ := Lib.hid (below_regrown wr dq osq)
          clear cB x0 x1 x2 x3 y0 y1 y2 y3
          go_wp2
          go_ret
          exact ⟨ret_bool (decide_eq_false HNO.out).symm, HBE.out.trans (HBQ.out.mono hzw)⟩
      · have HYES := Lib.hid (show AreOk g l from ⟨HE.out, fun j hj => hasc j (by omega)⟩)
        have hnl : (l.length : Int) ≤ (k : Int) + 1 := by omega
        clear hbel hasc
        go_wp2
        go_ret
        exact ⟨ret_bool (decide_eq_true HYES.out).symm, HBE.out⟩
  · rw [decide_eq_false h] at C
    have HNO := Lib.hid (show ¬ AreOk g l from fun hh => h hh.1)
    clear hG h q3
    go_enter Try.func35, Try.ntmps35
    go_wp2_with fail
    refine C.out.mono ?_
    rintro e w1 ⟨rfl, hb⟩
    go_wp2
    go_ret
    exact ⟨ret_bool (decide_eq_false HNO.out).symm, hb⟩

set_option maxHeartbeats 2000000 in
set_option maxRecDepth 100000 in
theorem specFixesAre_any (vg vl : Value) (g : Rows) (l : List Quad) (w : World) (hG : Grid w vg g) (hL : Quads w vl l) :
    Calls Try.prog 36 #[vg, vl] w fun e w' => e = .returned (.bool (decide (AreOk g l))) ∧ Below w.heap.size w w' := by
  have HG := Lib.hid (show GridB w.heap.size w vg g from hG)
  have HL := Lib.hid hL.quadsB
  have hmax := hL.quadsB.len
  have CV : Hid (∀ W, Below w.heap.size w W → Calls Try.prog 50 #[vg, vl] W fun e w' => e = .returned (.bool (decide (EdOk g l))) ∧ Below W.heap.size W w') := fun W hb => specFixesValid_any vg vl g l W ((HG.out.below hb (Nat.le_refl _)).grid hb.size) ((HL.out.below hb (Nat.le_refl _)).quads hb.size)
  obtain ⟨la, lc, rfl, q1, q2, q3⟩ := hL
  have HQ := Lib.hid q3
  clear hG q3
  go_enter Try.func36, Try.ntmps36
  go_wp2_with fail
  go_loopw [5, 6, 7] (fun s _ _ wr => ∃ k : Nat, (k = 0 ∨ k < l.length) ∧ s = .int .i64 ((k : Int) + 1) ∧ AscUp l (k + 1) ∧ Below w.heap.size w wr) (fun s _ _ _ => l.length - (intOf s).toNat)
  case atStart => exact ⟨0, .inl rfl, rfl, ascUp_one l (Nat.le_refl _), Below.refl _ _⟩
  case round =>
    obtain ⟨k, hk, rfl, hasc, hbel⟩ := hrel
    have HBE := Lib.hid hbel
    have HA := Lib.hid hasc
    have hzw := hbel.size
    by_cases hlt : k + 1 < l.length
    · obtain ⟨b, off, hae, hbb, hq⟩ := HQ.out (by omega)
      subst hae
      obtain ⟨c0, c1, c2, c3⟩ := (hq k (by omega)).below hbel hbb
      obtain ⟨d0, d1, d2, d3⟩ := (hq (k + 1) hlt).below hbel hbb
      obtain ⟨p0, p1, p2, p3, hp⟩ : ∃ p0 p1 p2 p3, (p0, p1, p2, p3) = l[k]?.getD q0 := ⟨_, _, _, _, rfl⟩
      obtain ⟨r0, r1, r2, r3, hq'⟩ : ∃ r0 r1 r2 r3, (r0, r1, r2, r3) = l[k + 1]?.getD q0 := ⟨_, _, _, _, rfl⟩
      rw [← hp] at c0 c1 c2 c3
      rw [← hq'] at d0 d1 d2 d3
      dsimp only at c0 c1 c2 c3 d0 d1 d2 d3
      have HP := Lib.hid hp
      have HQ' := Lib.hid hq'
      have w1' : IntKind.i64.wrap ((k : Int) + 1 - 1) = (k : Int) := by rw [Int.add_sub_cancel]; exact IntWalk.i64_in _ (by omega)
      have w2' : IntKind.i64.wrap (k : Int) = (k : Int) := IntWalk.i64_in _ (by omega)
      have k1 : (0 : Int) ≤ (k : Int) := by omega
      have k2 : (k : Int) < (l.length : Int) := by omega
      have k3 : (0 : Int) ≤ (k : Int) + 1 := by omega
      have k4 : (k : Int) + 1 < (l.length : Int) := by omega
      have k5 : ((k : Int) + 1).toNat = k + 1 := by omega
      have hbw : b ≠ wr.heap.size := by omega
      have d0 := (World.cell?_alloc_old wr (.cells #[.int .i64 p0, .int .i64 p1, .int .i64 p2, .int .i64 p3] 41) ⟨b, off + (k + 1) * 4, none⟩ hbw).trans d0
      have d1 := (World.cell?_alloc_old wr (.cells #[.int .i64 p0, .int .i64 p1, .int .i64 p2, .int .i64 p3] 41) ⟨b, off + (k + 1) * 4 + 1, none⟩ hbw).trans d1
      have d2 := (World.cell?_alloc_old wr (.cells #[.int .i64 p0, .int .i64 p1, .int .i64 p2, .int .i64 p3] 41) ⟨b, off + (k + 1) * 4 + 2, none⟩ hbw).trans d2
      have d3 := (World.cell?_alloc_old wr (.cells #[.int .i64 p0, .int .i64 p1, .int .i64 p2, .int .i64 p3] 41) ⟨b, off + (k + 1) * 4 + 3, none⟩ hbw).trans d3
      by_cases e1 : r0 < p0
      · have t1 : decide (r0 < p0) = true := decide_eq_true e1
        have HNO := Lib.hid (show ¬ AreOk g l from fun hh => by have := hh.2 k hlt; rw [← HP.out, ← HQ'.out] at this; unfold CellLt at this; dsimp only at this; omega)
        clear hq hp hq' hbel hasc e1
        go_wp2_with fail
        go_ret
        exact ⟨ret_bool (decide_eq_false HNO.out).symm, (HBE.out.alloc hzw _).alloc (by simp; omega) _⟩
      · have t1 : decide (r0 < p0) = false := decide_eq_false e1
        by_cases e2 : p0 = r0
        · have t2 : (p0 == r0) = true := by simp [e2]
          by_cases e3 : r1 ≤ p1
          · have t3 : decide (r1 ≤ p1) = true := decide_eq_true e3
            have HNO := Lib.hid (show ¬ AreOk g l from fun hh => by have := hh.2 k hlt; rw [← HP.out, ← HQ'.out] at this; unfold CellLt at this; dsimp only at this; omega)
            clear hq hp hq' hbel hasc e1 e2 e3
            go_wp2_with fail
            go_ret
            exact ⟨ret_bool (decide_eq_false HNO.out).symm, (HBE.out.alloc hzw _).alloc (by simp; omega) _⟩
          · have t3 : decide (r1 ≤ p1) = false := decide_eq_false e3
            have HC := Lib.hid (show CellLt (p0, p1, p2, p3) (r0, r1, r2, r3) from .inr ⟨e2, by show p1 < r1; omega⟩)
            clear hq hp hq' hbel hasc e1 e2 e3
            go_wp2_with fail
            go_roundw
            case rel => exact ⟨k + 1, .inr hlt, by go_num, ascUp_succ HA.out (by rw [← HP.out, ← HQ'.out]; exact HC.out), (HBE.out.alloc hzw _).alloc (by simp; omega) _⟩
            case measure => simp [intOf]; omega
        · have t2 : (p0 == r0) = false := by simp [e2]
          have HC := Lib.hid (show CellLt (p0, p1, p2, p3) (r0, r1, r2, r3) from .inl (by show p0 < r0; omega))
          clear hq hp hq' hbel hasc e1 e2
          go_wp2_with fail
          go_roundw
          case rel => exact ⟨k + 1, .inr hlt, by go_num, ascUp_succ HA.out (by rw [← HP.out, ← HQ'.out]; exact HC.out), (HBE.out.alloc hzw _).alloc (by simp; omega) _⟩
          case measure => simp [intOf]; omega
    · have HYES := Lib.hid (show AscUp l l.length from fun j hj => hasc j (by omega))
      have hnl : (l.length : Int) ≤ (k : Int) + 1 := by omega
      clear hbel hasc
      go_wp2_with fail
      refine (CV.out _ HBE.out).mono ?_
      rintro e w9 ⟨rfl, hb9⟩
      go_wp2
      go_ret
      refine ⟨ret_bool ?_, HBE.out.trans (hb9.mono hzw)⟩
      by_cases h : EdOk g l
      · rw [decide_eq_true h, decide_eq_true (show AreOk g l from ⟨h, HYES.out⟩)]
      · rw [decide_eq_false h, decide_eq_false (show ¬ AreOk g l from fun hh => h hh.1)]
end Go.Proofs.Ytdelcebkpdnnjaa
