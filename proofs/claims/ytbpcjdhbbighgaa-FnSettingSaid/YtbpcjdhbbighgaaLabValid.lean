/-
  Contracts of LabelsValid, the program's and the reference's: both return whether the list are labels. Conditions: none but that the slice reads as the list.
-/
import Derived.Test.YtbpcjdhbbighgaaLabEq
import Derived.Lib.QuietBelow
namespace Go.Proofs.Ytbpcjdhbbighgaa
open Go.RowKit Go.Deep Go.Sort

def LabOk (q : Quad) : Prop := 0 ≤ q.1 ∧ q.1 ≤ 9 ∧ 0 ≤ q.2.1 ∧ q.2.1 ≤ 9 ∧ 1 ≤ q.2.2.1 ∧ q.2.2.1 ≤ 5 ∧ 1 ≤ q.2.2.2 ∧ q.2.2.2 ≤ 9
def SamePoint (p q : Quad) : Prop := p.1 = q.1 ∧ p.2.1 = q.2.1
def GoodUpTo (l : List Quad) (k : Nat) : Prop := ∀ i, i < k → LabOk (l[i]?.getD q0) ∧ ∀ j, j < i → ¬ SamePoint (l[j]?.getD q0) (l[i]?.getD q0)
def ValidL (l : List Quad) : Prop := l.length ≤ 6 ∧ GoodUpTo l l.length
instance (q : Quad) : Decidable (LabOk q) := by unfold LabOk; infer_instance
instance (p q : Quad) : Decidable (SamePoint p q) := by unfold SamePoint; infer_instance
instance (l : List Quad) (k : Nat) : Decidable (GoodUpTo l k) := by unfold GoodUpTo; infer_instance
instance (l : List Quad) : Decidable (ValidL l) := by unfold ValidL; infer_instance

theorem good_step {l : List Quad} {k : Nat} (h : GoodUpTo l k) (h1 : LabOk (l[k]?.getD q0)) (h2 : ∀ j, j < k → ¬ SamePoint (l[j]?.getD q0) (l[k]?.getD q0)) : GoodUpTo l (k + 1) := by
  intro i hi
  by_cases e : i = k
  · subst e; exact ⟨h1, h2⟩
  · exact h i (by omega)

set_option maxHeartbeats 400000 in
set_option maxRecDepth 100000 in
theorem pointOf_any (q : Quad) (w : World) (h1 : 0 ≤ q.1) (h2 : q.1 ≤ 9) (h3 : 0 ≤ q.2.1) (h4 : q.2.1 ≤ 9) :
    Calls Try.prog 56 #[qv q] w fun e w' => e = .returned (.int .i64 (10 * q.2.1 + q.1)) ∧ Below w.heap.size w w' := by
  go_enter Try.func56, Try.ntmps56
  go_wp2
  go_ret
  exact ⟨rfl, al (Below.refl _ _) _⟩

set_option maxHeartbeats 400000 in
theorem isCo_yes (n : Int) (w : World) (h1 : 0 ≤ n) (h2 : n ≤ 9) :
    Calls Try.prog 55 #[.int .i64 n] w fun e w' => e = .returned (.bool true) ∧ w = w' := by
  have t1 : decide (n < 10) = true := decide_eq_true (by omega)
  go_enter Try.func55, Try.ntmps55
  go_wp2
  go_ret
  exact ⟨rfl, rfl⟩

theorem bad_lab {q : Quad} (h : ¬ LabOk q) : q.1 < 0 ∨ (0 ≤ q.1 ∧ 9 < q.1) ∨ (0 ≤ q.1 ∧ q.1 ≤ 9 ∧ q.2.1 < 0) ∨ (0 ≤ q.1 ∧ q.1 ≤ 9 ∧ 0 ≤ q.2.1 ∧ 9 < q.2.1) ∨
    (0 ≤ q.1 ∧ q.1 ≤ 9 ∧ 0 ≤ q.2.1 ∧ q.2.1 ≤ 9 ∧ q.2.2.1 < 1) ∨ (0 ≤ q.1 ∧ q.1 ≤ 9 ∧ 0 ≤ q.2.1 ∧ q.2.1 ≤ 9 ∧ 1 ≤ q.2.2.1 ∧ 5 < q.2.2.1) ∨
    (0 ≤ q.1 ∧ q.1 ≤ 9 ∧ 0 ≤ q.2.1 ∧ q.2.1 ≤ 9 ∧ 1 ≤ q.2.2.1 ∧ q.2.2.1 ≤ 5 ∧ q.2.2.2 < 1) ∨ (0 ≤ q.1 ∧ q.1 ≤ 9 ∧ 0 ≤ q.2.1 ∧ q.2.1 ≤ 9 ∧ 1 ≤ q.2.2.1 ∧ q.2.2.1 ≤ 5 ∧ 1 ≤ q.2.2.2 ∧ 9 < q.2.2.2) := by
  unfold LabOk at h; omega

set_option maxHeartbeats 1000000 in
set_option maxRecDepth 100000 in
theorem LabelsValid_any (v : Value) (l : List Quad) (w : World) (h : Quads w v l) :
    Calls Try.prog 19 #[v] w fun e w' => e = .returned (.bool (decide (ValidL l))) ∧ Below w.heap.size w w' := by
  obtain ⟨a, cap, rfl, hc1, hc2, hc3⟩ := h
  by_cases hbig : 6 < l.length
  · have hv := Lib.hid (decide_eq_false (p := ValidL l) (fun h => by have := h.1; omega))
    have hbig' : (6 : Int) < (l.length : Int) := by omega
    clear hc3
    go_enter Try.func19, Try.ntmps19
    go_wp2
    go_ret
    exact ⟨ret_bool hv.out.symm, Below.refl _ _⟩
  have hbig' : ¬ (6 : Int) < (l.length : Int) := by omega
  go_enter Try.func19, Try.ntmps19
  go_wp2
  go_loopw [12] (fun i wr => ∃ k : Nat, k ≤ l.length ∧ i = .int .i64 k ∧ GoodUpTo l k ∧ Below w.heap.size w wr) (fun i _ => l.length - (intOf i).toNat)
  case atStart => exact ⟨0, Nat.zero_le _, rfl, fun i hi => by omega, Below.refl _ _⟩
  case round =>
    obtain ⟨k, hk, rfl, hgood, hbel⟩ := hrel
    by_cases hlt : k < l.length
    · obtain ⟨b, off, rfl, hb, hcell⟩ := hc3 (by omega)
      obtain ⟨c0, c1, c2, c3⟩ := (hcell k hlt).below hbel hb
      rw [getQ_eq hlt] at c0 c1 c2 c3
      have hs := hbel.size
      have HG := Lib.hid hgood
      have HC := Lib.hid hcell
      have HB := Lib.hid hbel
      have HQ := Lib.hid (getQ_eq hlt)
      obtain ⟨q, hq⟩ : ∃ q, q = l[k] := ⟨_, rfl⟩
      rw [← hq] at c0 c1 c2 c3 HQ
      clear hgood hc3 hcell hq hbel
      by_cases hok : LabOk q
      · obtain ⟨o1, o2, o3, o4, o5, o6, o7, o8⟩ := hok
        have t1 : decide (q.1 < 10) = true := decide_eq_true (by omega)
        have t2 : decide (q.2.1 < 10) = true := decide_eq_true (by omega)
        have t3 : decide (5 < q.2.2.1) = false := decide_eq_false (by omega)
        have t4 : decide (q.2.2.2 < 1) = false := decide_eq_false (by omega)
        have t5 : decide (9 < q.2.2.2) = false := decide_eq_false (by omega)
        have t6 : decide (q.2.2.1 < 1) = false := decide_eq_false (by omega)
        go_wp2_with (go_at_call 55; refine (isCo_yes _ _ (by omega) (by omega)).mono ?_; rintro e w' ⟨rfl, rfl⟩)
        obtain ⟨wo, rfl⟩ : ∃ wo : World, wo = wr := ⟨_, rfl⟩
        go_loopw [6, 49] (fun _ i wi => ∃ j : Nat, j ≤ k ∧ i = .int .i64 j ∧ (∀ j', j' < j → ¬ SamePoint (l[j']?.getD q0) q) ∧ Below (wo.heap.size + 1) (wo.alloc (.cells #[.int .i64 q.1, .int .i64 q.2.1, .int .i64 q.2.2.1, .int .i64 q.2.2.2] 24)) wi) (fun _ i _ => k - (intOf i).toNat)
        case atStart => exact ⟨0, Nat.zero_le _, rfl, fun j hj => by omega, Below.refl _ _⟩
        case round =>
          obtain ⟨j, hj, rfl, hno, hbi⟩ := hrel
          have HN := Lib.hid hno
          have hsi := hbi.size
          simp at hsi
          by_cases hlj : j < k
          · obtain ⟨d0, d1, d2, d3⟩ := ((HC.out j (by omega)).below (HB.out.alloc hs _) hb).below hbi (by omega)
            have hjl : j < l.length := by omega
            rw [getQ_eq hjl] at d0 d1 d2 d3
            have hokp := (HG.out j hlj).1
            rw [getQ_eq hjl] at hokp
            have HP := Lib.hid (getQ_eq hjl)
            obtain ⟨p, hp⟩ : ∃ p, p = l[j] := ⟨_, rfl⟩
            rw [← hp] at d0 d1 d2 d3 HP hokp
            obtain ⟨p1, p2, p3, p4, _, _, _, _⟩ := hokp
            obtain ⟨s0, s1, s2, s3⟩ := ((QAt_new wo q 24).below hbi (by omega)).zero
            have HBI := Lib.hid hbi
            clear hno hbi hp
            go_wp2
            obtain ⟨W, hW⟩ : ∃ W, W = wr.alloc (.cells #[.int .i64 p.1, .int .i64 p.2.1, .int .i64 p.2.2.1, .int .i64 p.2.2.2] 24) := ⟨_, rfl⟩
            have hbW : Below wr.heap.size wr W := by rw [hW]; exact (Below.refl _ _).alloc (Nat.le_refl _) _
            have hlo : wo.heap.size < wr.heap.size := by omega
            obtain ⟨e0, e1, e2, e3⟩ : QAt W wr.heap.size 0 p := by rw [hW]; exact QAt_new _ _ _
            have k0 := cell_regrown e0
            have k1 := cell_regrown e1
            have k2 := cell_regrown e2
            have k3 := cell_regrown e3
            have m0 := cell_regrown ((hbW.cell (p := ⟨wo.heap.size, 0, none⟩) hlo).trans s0)
            have m1 := cell_regrown ((hbW.cell (p := ⟨wo.heap.size, 1, none⟩) hlo).trans s1)
            have m2 := cell_regrown ((hbW.cell (p := ⟨wo.heap.size, 2, none⟩) hlo).trans s2)
            have m3 := cell_regrown ((hbW.cell (p := ⟨wo.heap.size, 3, none⟩) hlo).trans s3)
            rw [← hW]
            have cA : ∀ d os, Calls Try.prog 56 #[qv p] (grow (redrawn W d) os) fun e w'' => e = .returned (.int .i64 (10 * p.2.1 + p.1)) ∧ ∃ p : Regrown, w'' = grow (redrawn W p.d) p.os := fun d os => Calls.regrown_of (pointOf_any p _ p1 p2 p3 p4)
            have cB : ∀ d os, Calls Try.prog 56 #[qv q] (grow (redrawn W d) os) fun e w'' => e = .returned (.int .i64 (10 * q.2.1 + q.1)) ∧ ∃ p : Regrown, w'' = grow (redrawn W p.d) p.os := fun d os => Calls.regrown_of (pointOf_any q _ o1 o2 o3 o4)
            clear hW e0 e1 e2 e3 s0 s1 s2 s3 d0 d1 d2 d3
            refine wp_region_quiet_below (by kernel_rfl) (by kernel_rfl) ?_
            repeat (quiet_step (first | exact cA _ _ | exact cB _ _))
            refine wpQuiet_nil ?_
            intro _ hw'
            obtain ⟨⟨dq, osq⟩, hw''⟩ := hw'
            subst hw''
            have hbq := below_regrown W dq osq
            obtain ⟨W2, hW2⟩ : ∃ W2, W2 = grow (redrawn W dq) osq := ⟨_, rfl⟩
            have HB2 : Hid (Below (wo.heap.size + 1) (wo.alloc (.cells #[.int .i64 q.1, .int .i64 q.2.1, .int .i64 q.2.2.1, .int .i64 q.2.2.2] 24)) W2) := by
              rw [hW2]; exact (HBI.out.trans (hbW.mono (by omega))).trans (hbq.mono (by have := hbW.size; omega))
            show Exit.then _ _ _ _ (grow (redrawn W dq) osq)
            rw [← hW2]
            clear hW2 hbq hbW k0 k1 k2 k3 m0 m1 m2 m3 cA cB
            by_cases hsame : SamePoint p q
            · have he : (10 * p.2.1 + p.1 == 10 * q.2.1 + q.1) = true := by obtain ⟨a1, a2⟩ := hsame; simp [a1, a2]
              have hv := Lib.hid (decide_eq_false (p := ValidL l) (fun h => by have := (h.2 k hlt).2 j hlj; rw [HP.out, HQ.out] at this; exact this hsame))
              clear hsame
              go_wp2
              go_ret
              exact ⟨ret_bool hv.out.symm, (HB.out.alloc hs _).trans (HB2.out.mono (by omega))⟩
            · have he : (10 * p.2.1 + p.1 == 10 * q.2.1 + q.1) = false := by
                rw [beq_eq_false_iff_ne]; intro e; exact hsame ⟨by omega, by omega⟩
              have HS := Lib.hid hsame
              clear hsame
              go_wp2
              go_roundw
              case rel =>
                refine ⟨j + 1, by omega, by go_num, fun j' hj' => ?_, HB2.out⟩
                by_cases e : j' = j
                · subst e; rw [HP.out]; exact HS.out
                · exact HN.out j' (by omega)
              case measure => simp [intOf]; omega
          · obtain rfl : j = k := by omega
            have HBI := Lib.hid hbi
            clear hno hbi
            go_wp2
            go_roundw
            case rel => exact ⟨j + 1, by omega, by go_num, good_step HG.out (by rw [HQ.out]; exact ⟨o1, o2, o3, o4, o5, o6, o7, o8⟩) (by rw [HQ.out]; exact HN.out), (HB.out.alloc hs _).trans (HBI.out.mono (by omega))⟩
            case measure => simp [intOf]; omega
      · have hv := Lib.hid (decide_eq_false (p := ValidL l) (fun h => hok (by have := (h.2 k hlt).1; rwa [HQ.out] at this)))
        rcases bad_lab hok with o | o | o | o | o | o | o | o
        · clear hok
          have t0 : decide (0 ≤ q.1) = false := (decide_eq_false (p := 0 ≤ q.1) (by omega))
          go_wp2
          go_ret
          exact ⟨ret_bool hv.out.symm, HB.out.alloc hs _⟩
        · clear hok
          have t0 : decide (0 ≤ q.1) = true := (decide_eq_true (p := 0 ≤ q.1) (by omega))
          have t1 : decide (q.1 < 10) = false := (decide_eq_false (p := q.1 < 10) (by omega))
          go_wp2
          go_ret
          exact ⟨ret_bool hv.out.symm, HB.out.alloc hs _⟩
        · clear hok
          have t0 : decide (0 ≤ q.1) = true := (decide_eq_true (p := 0 ≤ q.1) (by omega))
          have t1 : decide (q.1 < 10) = true := (decide_eq_true (p := q.1 < 10) (by omega))
          have t2 : decide (0 ≤ q.2.1) = false := (decide_eq_false (p := 0 ≤ q.2.1) (by omega))
          go_wp2
          go_ret
          exact ⟨ret_bool hv.out.symm, HB.out.alloc hs _⟩
        · clear hok
          have t0 : decide (0 ≤ q.1) = true := (decide_eq_true (p := 0 ≤ q.1) (by omega))
          have t1 : decide (q.1 < 10) = true := (decide_eq_true (p := q.1 < 10) (by omega))
          have t2 : decide (0 ≤ q.2.1) = true := (decide_eq_true (p := 0 ≤ q.2.1) (by omega))
          have t3 : decide (q.2.1 < 10) = false := (decide_eq_false (p := q.2.1 < 10) (by omega))
          go_wp2
          go_ret
          exact ⟨ret_bool hv.out.symm, HB.out.alloc hs _⟩
        · clear hok
          have t0 : decide (0 ≤ q.1) = true := (decide_eq_true (p := 0 ≤ q.1) (by omega))
          have t1 : decide (q.1 < 10) = true := (decide_eq_true (p := q.1 < 10) (by omega))
          have t2 : decide (0 ≤ q.2.1) = true := (decide_eq_true (p := 0 ≤ q.2.1) (by omega))
          have t3 : decide (q.2.1 < 10) = true := (decide_eq_true (p := q.2.1 < 10) (by omega))
          have t4 : decide (q.2.2.1 < 1) = true := (decide_eq_true (p := q.2.2.1 < 1) (by omega))
          go_wp2
          go_ret
          exact ⟨ret_bool hv.out.symm, HB.out.alloc hs _⟩
        · clear hok
          have t0 : decide (0 ≤ q.1) = true := (decide_eq_true (p := 0 ≤ q.1) (by omega))
          have t1 : decide (q.1 < 10) = true := (decide_eq_true (p := q.1 < 10) (by omega))
          have t2 : decide (0 ≤ q.2.1) = true := (decide_eq_true (p := 0 ≤ q.2.1) (by omega))
          have t3 : decide (q.2.1 < 10) = true := (decide_eq_true (p := q.2.1 < 10) (by omega))
          have t4 : decide (q.2.2.1 < 1) = false := (decide_eq_false (p := q.2.2.1 < 1) (by omega))
          have t5 : decide (5 < q.2.2.1) = true := (decide_eq_true (p := 5 < q.2.2.1) (by omega))
          go_wp2
          go_ret
          exact ⟨ret_bool hv.out.symm, HB.out.alloc hs _⟩
        · clear hok
          have t0 : decide (0 ≤ q.1) = true := (decide_eq_true (p := 0 ≤ q.1) (by omega))
          have t1 : decide (q.1 < 10) = true := (decide_eq_true (p := q.1 < 10) (by omega))
          have t2 : decide (0 ≤ q.2.1) = true := (decide_eq_true (p := 0 ≤ q.2.1) (by omega))
          have t3 : decide (q.2.1 < 10) = true := (decide_eq_true (p := q.2.1 < 10) (by omega))
          have t4 : decide (q.2.2.1 < 1) = false := (decide_eq_false (p := q.2.2.1 < 1) (by omega))
          have t5 : decide (5 < q.2.2.1) = false := (decide_eq_false (p := 5 < q.2.2.1) (by omega))
          have t6 : decide (q.2.2.2 < 1) = true := (decide_eq_true (p := q.2.2.2 < 1) (by omega))
          go_wp2
          go_ret
          exact ⟨ret_bool hv.out.symm, HB.out.alloc hs _⟩
        · clear hok
          have t0 : decide (0 ≤ q.1) = true := (decide_eq_true (p := 0 ≤ q.1) (by omega))
          have t1 : decide (q.1 < 10) = true := (decide_eq_true (p := q.1 < 10) (by omega))
          have t2 : decide (0 ≤ q.2.1) = true := (decide_eq_true (p := 0 ≤ q.2.1) (by omega))
          have t3 : decide (q.2.1 < 10) = true := (decide_eq_true (p := q.2.1 < 10) (by omega))
          have t4 : decide (q.2.2.1 < 1) = false := (decide_eq_false (p := q.2.2.1 < 1) (by omega))
          have t5 : decide (5 < q.2.2.1) = false := (decide_eq_false (p := 5 < q.2.2.1) (by omega))
          have t6 : decide (q.2.2.2 < 1) = false := (decide_eq_false (p := q.2.2.2 < 1) (by omega))
          have t7 : decide (9 < q.2.2.2) = true := (decide_eq_true (p := 9 < q.2.2.2) (by omega))
          go_wp2
          go_ret
          exact ⟨ret_bool hv.out.symm, HB.out.alloc hs _⟩
    · go_wp2
      go_ret
      obtain rfl : k = l.length := by omega
      exact ⟨ret_bool (decide_eq_true ⟨by omega, hgood⟩).symm, hbel⟩
end Go.Proofs.Ytbpcjdhbbighgaa
