/-
  Contract of the reference's LabelsValid: it returns whether the list are labels. Conditions: none but that the slice reads as the list.
-/
import Derived.Test.YtbpcjdhbbighgaaLabValid
namespace Go.Proofs.Ytbpcjdhbbighgaa
open Go.RowKit Go.Deep Go.Sort

set_option maxHeartbeats 400000 in
theorem l6In_yes (n low high : Int) (w : World) (h1 : low ≤ n) (h2 : n ≤ high) :
    Calls Try.prog 51 #[.int .i64 n, .int .i64 low, .int .i64 high] w fun e w' => e = .returned (.bool true) ∧ w = w' := by
  have t1 : decide (low ≤ n) = true := decide_eq_true h1
  have t2 : decide (n ≤ high) = true := decide_eq_true h2
  go_enter Try.func51, Try.ntmps51
  go_wp2
  go_ret
  exact ⟨rfl, rfl⟩
set_option maxHeartbeats 400000 in
theorem l6In_no (n low high : Int) (w : World) (h : n < low ∨ high < n) :
    Calls Try.prog 51 #[.int .i64 n, .int .i64 low, .int .i64 high] w fun e w' => e = .returned (.bool false) ∧ w = w' := by
  by_cases h1 : n < low
  · have t1 : decide (low ≤ n) = false := decide_eq_false (by omega)
    clear h
    go_enter Try.func51, Try.ntmps51
    go_wp2
    go_ret
    exact ⟨rfl, rfl⟩
  · have t1 : decide (low ≤ n) = true := decide_eq_true (by omega)
    have t2 : decide (n ≤ high) = false := decide_eq_false (by omega)
    clear h
    go_enter Try.func51, Try.ntmps51
    go_wp2
    go_ret
    exact ⟨rfl, rfl⟩

theorem bad_lab2 {q : Quad} (h : ¬ LabOk q) : (q.1 < 0 ∨ 9 < q.1) ∨ ((0 ≤ q.1 ∧ q.1 ≤ 9) ∧ (q.2.1 < 0 ∨ 9 < q.2.1)) ∨ ((0 ≤ q.1 ∧ q.1 ≤ 9 ∧ 0 ≤ q.2.1 ∧ q.2.1 ≤ 9) ∧ (q.2.2.1 < 1 ∨ 5 < q.2.2.1)) ∨
    ((0 ≤ q.1 ∧ q.1 ≤ 9 ∧ 0 ≤ q.2.1 ∧ q.2.1 ≤ 9 ∧ 1 ≤ q.2.2.1 ∧ q.2.2.1 ≤ 5) ∧ (q.2.2.2 < 1 ∨ 9 < q.2.2.2)) := by
  unfold LabOk at h; omega

set_option maxHeartbeats 1000000 in
set_option maxRecDepth 100000 in
theorem specLabelsValid_any (v : Value) (l : List Quad) (w : World) (h : Quads w v l) :
    Calls Try.prog 20 #[v] w fun e w' => e = .returned (.bool (decide (ValidL l))) ∧ Below w.heap.size w w' := by
  obtain ⟨a, cap, rfl, hc1, hc2, hc3⟩ := h
  go_enter Try.func20, Try.ntmps20
  go_wp2
  go_loopw [3, 4, 5] (fun i _ _ wr => ∃ k : Nat, k ≤ l.length ∧ i = .int .i64 k ∧ GoodUpTo l k ∧ Below w.heap.size w wr) (fun i _ _ _ => l.length - (intOf i).toNat)
  case atStart => exact ⟨0, Nat.zero_le _, rfl, fun i hi => by omega, Below.refl _ _⟩
  case round =>
    obtain ⟨k, hk, rfl, hgood, hbel⟩ := hrel
    by_cases hlt : k < l.length
    · obtain ⟨b, off, rfl, hb, hcell⟩ := hc3 (by omega)
      obtain ⟨c0, c1, c2, c3⟩ := (hcell k hlt).below hbel hb
      rw [getQ_eq hlt] at c0 c1 c2 c3
      have hs := hbel.size
      have HG := Lib.hid hgood
      have HC := Lib.hid hcell
      have HB := Lib.hid hbel
      have HQ := Lib.hid (getQ_eq hlt)
      obtain ⟨q, hq⟩ : ∃ q, q = l[k] := ⟨_, rfl⟩
      rw [← hq] at c0 c1 c2 c3 HQ
      clear hgood hc3 hcell hq hbel
      by_cases hok : LabOk q
      · obtain ⟨o1, o2, o3, o4, o5, o6, o7, o8⟩ := hok
        go_wp2_with (go_at_call 51; refine (l6In_yes _ _ _ _ (by omega) (by omega)).mono ?_; rintro e w' ⟨rfl, rfl⟩)
        obtain ⟨wo, rfl⟩ : ∃ wo : World, wo = wr := ⟨_, rfl⟩
        go_loopw [5] (fun i wi => ∃ j : Nat, j ≤ k ∧ i = .int .i64 j ∧ (∀ j', j' < j → ¬ SamePoint (l[j']?.getD q0) q) ∧ Below (wo.heap.size + 1) (wo.alloc (.cells #[.int .i64 q.1, .int .i64 q.2.1, .int .i64 q.2.2.1, .int .i64 q.2.2.2] 24)) wi) (fun i _ => k - (intOf i).toNat)
        case atStart => exact ⟨0, Nat.zero_le _, rfl, fun j hj => by omega, Below.refl _ _⟩
        case round =>
          obtain ⟨j, hj, rfl, hno, hbi⟩ := hrel
          have HN := Lib.hid hno
          have hsi := hbi.size
          simp at hsi
          by_cases hlj : j < k
          · obtain ⟨d0, d1, d2, d3⟩ := ((HC.out j (by omega)).below (HB.out.alloc hs _) hb).below hbi (by omega)
            have hjl : j < l.length := by omega
            rw [getQ_eq hjl] at d0 d1 d2 d3
            have HP := Lib.hid (getQ_eq hjl)
            obtain ⟨p, hp⟩ : ∃ p, p = l[j] := ⟨_, rfl⟩
            rw [← hp] at d0 d1 d2 d3 HP
            obtain ⟨s0, s1, s2, s3⟩ := ((QAt_new wo q 24).below hbi (by omega)).zero
            have HBI := Lib.hid hbi
            clear hno hbi hp
            by_cases hx : p.1 = q.1
            · have hx' : (p.1 == q.1) = true := by simp [hx]
              by_cases hy : p.2.1 = q.2.1
              · have hy' : (p.2.1 == q.2.1) = true := by simp [hy]
                have hv := Lib.hid (decide_eq_false (p := ValidL l) (fun h => by have := (h.2 k hlt).2 j hlj; rw [HP.out, HQ.out] at this; exact this ⟨hx, hy⟩))
                clear hx hy
                go_wp2
                go_quiet (fail)
                go_wp2
                go_ret
                exact ⟨ret_bool hv.out.symm, (HB.out.alloc hs _).trans (below_drewN (HBI.out.mono (by omega)) _)⟩
              · have hy' : (p.2.1 == q.2.1) = false := by simp [hy]
                have HS := Lib.hid (show ¬ SamePoint p q from fun h => hy h.2)
                clear hx hy
                go_wp2
                go_quiet (fail)
                go_wp2
                go_roundw
                case rel =>
                  refine ⟨j + 1, by omega, by go_num, fun j' hj' => ?_, below_drewN HBI.out _⟩
                  by_cases e : j' = j
                  · subst e; rw [HP.out]; exact HS.out
                  · exact HN.out j' (by omega)
                case measure => simp [intOf]; omega
            · have hx' : (p.1 == q.1) = false := by simp [hx]
              have HS := Lib.hid (show ¬ SamePoint p q from fun h => hx h.1)
              clear hx
              go_wp2
              go_quiet (fail)
              go_wp2
              go_roundw
              case rel =>
                refine ⟨j + 1, by omega, by go_num, fun j' hj' => ?_, below_drewN HBI.out _⟩
                by_cases e : j' = j
                · subst e; rw [HP.out]; exact HS.out
                · exact HN.out j' (by omega)
              case measure => simp [intOf]; omega
          · obtain rfl : j = k := by omega
            have HBI := Lib.hid hbi
            clear hno hbi
            go_wp2
            go_roundw
            case rel => exact ⟨j + 1, by omega, by go_num, good_step HG.out (by rw [HQ.out]; exact ⟨o1, o2, o3, o4, o5, o6, o7, o8⟩) (by rw [HQ.out]; exact HN.out), (HB.out.alloc hs _).trans (HBI.out.mono (by omega))⟩
            case measure => simp [intOf]; omega
      · have hv := Lib.hid (decide_eq_false (p := ValidL l) (fun h => hok (by have := (h.2 k hlt).1; rwa [HQ.out] at this)))
        rcases bad_lab2 hok with o | ⟨⟨a1, a2⟩, o⟩ | ⟨⟨a1, a2, a3, a4⟩, o⟩ | ⟨⟨a1, a2, a3, a4, a5, a6⟩, o⟩
        all_goals
          have O := Lib.hid o
          clear hok o
          go_wp2_with (go_at_call 51; first | (refine (l6In_yes _ _ _ _ (by omega) (by omega)).mono ?_; rintro e w' ⟨rfl, rfl⟩) | (refine (l6In_no _ _ _ _ O.out).mono ?_; rintro e w' ⟨rfl, rfl⟩))
          go_ret
          exact ⟨ret_bool hv.out.symm, HB.out.alloc hs _⟩
    · obtain rfl : k = l.length := by omega
      by_cases h6 : l.length ≤ 6
      · have hd : decide ((l.length : Int) ≤ 6) = true := decide_eq_true (by omega)
        have hv := Lib.hid (decide_eq_true (p := ValidL l) ⟨h6, hgood⟩)
        clear hgood hc3
        go_wp2
        go_ret
        exact ⟨ret_bool hv.out.symm, hbel⟩
      · have hd : decide ((l.length : Int) ≤ 6) = false := decide_eq_false (by omega)
        have hv := Lib.hid (decide_eq_false (p := ValidL l) (fun h => h6 h.1))
        clear hgood hc3
        go_wp2
        go_ret
        exact ⟨ret_bool hv.out.symm, hbel⟩
end Go.Proofs.Ytbpcjdhbbighgaa
