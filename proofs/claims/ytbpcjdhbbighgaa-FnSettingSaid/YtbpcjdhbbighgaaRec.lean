/-
  Contracts of the reference's l8Many, l8Best, SettingMany, SettingMost. Conditions: for the recursions the labels are valid; else none.
-/
import Derived.Test.YtbpcjdhbbighgaaL8
namespace Go.Proofs.Ytbpcjdhbbighgaa
open Go.RowKit Go.Deep Go.Sort
set_option linter.unusedVariables false

def upM (l : List Quad) (n k : Nat) (M : Plan) : Nat → Nat
  | 0 => many l n (k + 1) M
  | j + 1 => upM l n k M j + if CanSet M (l[k]?.getD q0) (j : Int) then many l n (k + 1) (setOn M (l[k]?.getD q0) (j : Int) ((k : Int) + 1)) else 0
theorem upM_all (l : List Quad) (n k : Nat) (M : Plan) : many l (n + 1) k M = upM l n k M 4 := by
  simp only [many, upM, List.map_cons, List.map_nil, List.sum_cons, List.sum_nil]
  have e0 : ((0 : Nat) : Int) = 0 := rfl
  have e1 : ((1 : Nat) : Int) = 1 := rfl
  have e2 : ((2 : Nat) : Int) = 2 := rfl
  have e3 : ((3 : Nat) : Int) = 3 := rfl
  simp only [e0, e1, e2, e3]
  omega
theorem upM_bound (l : List Quad) (n k : Nat) (M : Plan) : ∀ j, upM l n k M j ≤ (j + 1) * 5 ^ n := by
  intro j
  induction j with
  | zero => rw [upM, Nat.zero_add, Nat.one_mul]; exact (many_bounds l n (k + 1) M).2
  | succ j ih =>
    rw [upM, Nat.succ_mul]
    have hm := (many_bounds l n (k + 1) (setOn M (l[k]?.getD q0) (j : Int) ((k : Int) + 1))).2
    split
    · exact Nat.add_le_add ih hm
    · exact Nat.le_trans ih (Nat.le_add_right _ _)
theorem pow_small {n : Nat} (h : n ≤ 6) : 5 ^ n ≤ 15625 := by
  have := Nat.pow_le_pow_right (show 0 < 5 by omega) h
  omega
theorem max_if (a b : Int) : (if a < b then b else a) = max a b := by rw [Int.max_def]; split <;> split <;> omega
def wtB (wb : Bool) (q : Quad) : Int := if wb then q.2.2.2 else 1
def upB (wb : Bool) (l : List Quad) (n k : Nat) (M : Plan) : Nat → Int
  | 0 => bst (wtB wb) l n (k + 1) M
  | j + 1 => if CanSet M (l[k]?.getD q0) (j : Int) then max (upB wb l n k M j) (wtB wb (l[k]?.getD q0) + bst (wtB wb) l n (k + 1) (setOn M (l[k]?.getD q0) (j : Int) ((k : Int) + 1))) else upB wb l n k M j
theorem upB_all (wb : Bool) (l : List Quad) (n k : Nat) (M : Plan) : bst (wtB wb) l (n + 1) k M = upB wb l n k M 4 := rfl
theorem bst_bound (wb : Bool) {l : List Quad} (hl : ValidL l) : ∀ n k M, k + n = l.length → 0 ≤ bst (wtB wb) l n k M ∧ bst (wtB wb) l n k M ≤ 9 * (n : Int) := by
  intro n
  induction n with
  | zero => intro k M _; simp [bst]
  | succ n ih =>
    intro k M hk
    obtain ⟨h1, z, hz, hzc, hzv⟩ := bst_max (wtB wb) l n k M
    have h2 := h1 (-1) (by simp [sides5]) (.inl rfl)
    rw [valOf] at h2 hzv
    have h3 := ih (k + 1) (next M (l[k]?.getD q0) z ((k : Int) + 1)) (by omega)
    have h4 := ih (k + 1) (next M (l[k]?.getD q0) (-1) ((k : Int) + 1)) (by omega)
    have hw : 0 ≤ wtB wb (l[k]?.getD q0) ∧ wtB wb (l[k]?.getD q0) ≤ 9 := by
      have := (hl.2 k (by omega)).1
      unfold LabOk at this
      unfold wtB
      split <;> omega
    rw [if_pos rfl] at h2
    split at hzv <;> omega
theorem upB_bound (wb : Bool) {l : List Quad} (hl : ValidL l) {n k : Nat} (hk : k + (n + 1) = l.length) (M : Plan) : ∀ j, 0 ≤ upB wb l n k M j ∧ upB wb l n k M j ≤ 9 * ((n : Int) + 1) := by
  intro j
  induction j with
  | zero => have := bst_bound wb hl n (k + 1) M (by omega); rw [upB]; omega
  | succ j ih =>
    have h1 := bst_bound wb hl n (k + 1) (setOn M (l[k]?.getD q0) (j : Int) ((k : Int) + 1)) (by omega)
    have hw : 0 ≤ wtB wb (l[k]?.getD q0) ∧ wtB wb (l[k]?.getD q0) ≤ 9 := by
      have := (hl.2 k (by omega)).1
      unfold LabOk at this
      unfold wtB
      split <;> omega
    rw [upB]
    split <;> omega

/-- what SettingMany hands back -/
def manyOut (l : List Quad) : Int := if ValidL l then ((manyAll l : Nat) : Int) else -1
set_option maxHeartbeats 2000000 in
set_option maxRecDepth 100000 in
theorem l8Best_any (wb : Bool) (l : List Quad) (la : Option Addr) (lc B : Nat) (hv : ValidL l) : ∀ n k M mv w, k + n = l.length → QuadsB B w (.slice la l.length lc) l → B ≤ w.heap.size → MapB w.heap.size w mv M →
    Calls Try.prog 76 #[.slice la l.length lc, mv, .int .i64 (k : Int), .bool wb] w fun e w' => e = .returned (.int .i64 (bst (wtB wb) l n k M)) ∧ Below w.heap.size w w' := by
  have HV := Lib.hid hv
  have hl6 := hv.1
  clear hv
  intro n
  induction n with
  | zero =>
    intro k M mv w hk hq hB hM
    obtain rfl : k = l.length := by omega
    clear hq hM hk
    go_enter Try.func76, Try.ntmps76
    go_wp2_with fail
    go_ret
    exact ⟨rfl, Below.refl _ _⟩
  | succ n ih =>
    intro k M mv w hk hq hB hM
    have hkl : k < l.length := by omega
    have IH : Hid (∀ M mv w, QuadsB B w (.slice la l.length lc) l → B ≤ w.heap.size → MapB w.heap.size w mv M → Calls Try.prog 76 #[.slice la l.length lc, mv, .int .i64 ((k : Int) + 1), .bool wb] w fun e w' => e = .returned (.int .i64 (bst (wtB wb) l n (k + 1) M)) ∧ Below w.heap.size w w') := by
      intro M mv w h1 h2 h3
      exact ih (k + 1) M mv w (by omega) h1 h2 h3
    have BB : Hid (∀ M, 0 ≤ bst (wtB wb) l n (k + 1) M ∧ bst (wtB wb) l n (k + 1) M ≤ 9 * (n : Int)) := fun M => bst_bound wb HV.out n (k + 1) M (by omega)
    have UB : Hid (∀ j, 0 ≤ upB wb l n k M j ∧ upB wb l n k M j ≤ 9 * ((n : Int) + 1)) := fun j => upB_bound wb HV.out hk M j
    have hn6 : n ≤ 6 := by omega
    have HQ0 := Lib.hid hq
    have HM := Lib.hid hM
    obtain ⟨mb, mo, mc, rfl, _⟩ := hM
    obtain ⟨_, _, he, _, _, h3⟩ := hq
    simp only [Value.slice.injEq] at he
    obtain ⟨rfl, _, rfl⟩ := he
    obtain ⟨b, off, rfl, hb, hcell⟩ := h3 (by omega)
    have HC := Lib.hid (hcell k hkl)
    have hq1 := (HV.out.2 k hkl).1
    obtain ⟨q, hqe⟩ : ∃ q, q = l[k]?.getD q0 := ⟨_, rfl⟩
    rw [← hqe] at hq1 HC
    have HQ := Lib.hid hq1
    have HQE := Lib.hid hqe
    have HALL := Lib.hid (upB_all wb l n k M)
    have x1 : (k : Int) < (l.length : Int) := by omega
    have x3 : (0 : Int) ≤ (k : Int) := by omega
    have tk : ((k : Int) == (l.length : Int)) = false := by simp only [beq_eq_false_iff_ne, ne_eq]; omega
    clear hcell h3 hq1 hqe ih hk
    go_enter Try.func76, Try.ntmps76
    go_wp2_with fail
    refine (IH.out M _ _ HQ0.out hB HM.out).mono ?_
    rintro e w1 ⟨rfl, hb1⟩
    have HB1 := Lib.hid hb1
    clear hb1
    have e0 : bst (wtB wb) l n (k + 1) M = upB wb l n k M 0 := rfl
    rw [e0]
    clear e0
    go_wp2_with fail
    go_loopw [9, 10, 11, 12, 13] (fun x i _ _ _ wr => ∃ j : Nat, j ≤ 4 ∧ i = .int .i64 j ∧ x = .int .i64 (upB wb l n k M j) ∧ Below w.heap.size w wr) (fun _ i _ _ _ _ => 4 - (intOf i).toNat)
    case atStart => exact ⟨0, by omega, rfl, rfl, HB1.out⟩
    case round =>
      clear HB1
      obtain ⟨j, hj, rfl, rfl, hbel⟩ := hrel
      have HB := Lib.hid hbel
      have hs := hbel.size
      have hu := UB.out j
      obtain ⟨U, hU⟩ : ∃ U, U = upB wb l n k M j := ⟨_, rfl⟩
      rw [← hU] at hu ⊢
      have hu1 := hu.1
      have hu2 : U ≤ 63 := by omega
      have UE := Lib.hid hU
      clear hu hU
      by_cases hlt : j < 4
      · obtain ⟨c0, c1, c2, c3⟩ := HC.out.below hbel (by omega)
        have hj4 : (j : Int) < 4 := by omega
        clear hbel
        go_wp2_with fail
        refine (l8Set_any _ M q (j : Int) ((k : Int) + 1) _ ((HM.out.below HB.out (Nat.le_refl _)).mono hs) HQ.out (by omega) (by omega) (by omega)).mono ?_
        rintro e w2 ⟨na, nn, nc, rfl, hown2, hb2⟩
        have hs2 := hb2.size
        have c3' := (hb2.cell (p := ⟨b, off + k * 4 + 3, none⟩) (by show b < _; omega)).trans c3
        have HB2 := Lib.hid (HB.out.trans (hb2.mono hs))
        have HO2 := Lib.hid hown2
        clear hb2 hown2 c0 c1 c2 c3
        by_cases hc : CanSet M q (j : Int)
        · rw [decide_eq_true hc]
          have UP : Hid (upB wb l n k M (j + 1) = max U (wtB wb q + bst (wtB wb) l n (k + 1) (setOn M q (j : Int) ((k : Int) + 1)))) := by
            show _ = _
            rw [upB, ← HQE.out, if_pos hc, ← UE.out]
          have hmb := BB.out (setOn M q (j : Int) ((k : Int) + 1))
          have HOM := Lib.hid (HO2.out hc)
          have CB : Hid (∀ w, QuadsB B w (.slice (some ⟨b, off, none⟩) l.length lc) l → B ≤ w.heap.size → MapB w.heap.size w (.slice na nn nc) (setOn M q (j : Int) ((k : Int) + 1)) → Calls Try.prog 76 #[.slice (some ⟨b, off, none⟩) l.length lc, .slice na nn nc, .int .i64 ((k : Int) + 1), .bool wb] w fun e w' => e = .returned (.int .i64 (bst (wtB wb) l n (k + 1) (setOn M q (j : Int) ((k : Int) + 1)))) ∧ Below w.heap.size w w') := fun w => IH.out _ _ w
          obtain ⟨V, hV⟩ : ∃ V, V = bst (wtB wb) l n (k + 1) (setOn M q (j : Int) ((k : Int) + 1)) := ⟨_, rfl⟩
          rw [← hV] at hmb UP CB
          have hw9 := HQ.out.2.2.2.2.2.2
          have hv1 := hmb.1
          have hV2 : V ≤ 54 := by omega
          clear hc HO2 hV hmb
          cases wb
          · have UP2 : Hid (max U (1 + V) = upB false l n k M (j + 1)) := UP.out.symm
            clear UP
            go_wp2_with fail
            refine (CB.out _ (HQ0.out.below (HB2.out.mono hB) (Nat.le_refl _)) (by omega) HOM.out.mapB).mono ?_
            rintro e w3 ⟨rfl, hb3⟩
            have HB3 := Lib.hid (HB2.out.trans (hb3.mono (by omega)))
            clear hb3
            go_wp2_with fail
            go_roundw
            case rel => exact ⟨j + 1, by omega, by go_num, by rw [← UP2.out]; exact congrArg _ (max_if _ _), HB3.out⟩
            case measure => simp [intOf]; omega
          · have UP2 : Hid (max U (q.2.2.2 + V) = upB true l n k M (j + 1)) := UP.out.symm
            clear UP
            go_wp2_with fail
            refine (CB.out _ (HQ0.out.below (HB2.out.mono hB) (Nat.le_refl _)) (by omega) HOM.out.mapB).mono ?_
            rintro e w3 ⟨rfl, hb3⟩
            have HB3 := Lib.hid (HB2.out.trans (hb3.mono (by omega)))
            clear hb3
            go_wp2_with fail
            go_roundw
            case rel => exact ⟨j + 1, by omega, by go_num, by rw [← UP2.out]; exact congrArg _ (max_if _ _), HB3.out⟩
            case measure => simp [intOf]; omega
        · rw [decide_eq_false hc]
          have UP : Hid (upB wb l n k M (j + 1) = U) := by
            show _ = _
            rw [upB, ← HQE.out, if_neg hc, ← UE.out]
          clear hc HO2
          go_wp2_with fail
          go_roundw
          case rel => exact ⟨j + 1, by omega, by go_num, by rw [UP.out], HB2.out⟩
          case measure => simp [intOf]; omega
      · obtain rfl : j = 4 := by omega
        clear hbel
        go_wp2_with fail
        go_ret
        exact ⟨ret_int (by rw [HALL.out, UE.out]), HB.out⟩

/-- what SettingMost hands back -/
def mostOut (l : List Quad) : Int := if ValidL l then bstAll (wtB false) l else -1
set_option maxHeartbeats 1000000 in
theorem specSettingMost_any (v : Value) (l : List Quad) (w : World) (h : Quads w v l) :
    Calls Try.prog 45 #[v] w fun e w' => e = .returned (.int .i64 (mostOut l)) ∧ Below w.heap.size w w' := by
  obtain ⟨a, cap, rfl, h1, h2, h3⟩ := id h
  have H := Lib.hid h.quadsB
  clear h h3
  by_cases hs : ValidL l
  · have HS := Lib.hid hs
    have HW : Hid (mostOut l = bstAll (wtB false) l) := if_pos hs
    clear hs
    go_enter Try.func45, Try.ntmps45
    go_wp2_with fail
    refine (specLabelsValid_any _ l _ (H.out.quads (Nat.le_refl _))).mono ?_
    rintro e w1 ⟨rfl, hb⟩
    have hs1 := hb.size
    have HB := Lib.hid hb
    clear hb
    rw [decide_eq_true HS.out]
    go_wp2_with fail
    refine (l8Map_any _ l _ ((H.out.below HB.out (Nat.le_refl _)).quads hs1) HS.out.2).mono ?_
    rintro e w2 ⟨v2, rfl, hO2, hb2⟩
    have hs2 := hb2.size
    have HB2 := Lib.hid (HB.out.trans (hb2.mono hs1))
    have HO := Lib.hid hO2.mapB
    clear hb2 hO2
    go_wp2_with fail
    refine (l8Best_any false l a cap w.heap.size HS.out l.length 0 (mPts l) v2 w2 (by omega) (H.out.below HB2.out (Nat.le_refl _)) (by omega) HO.out).mono ?_
    rintro e w3 ⟨rfl, hb3⟩
    have HB3 := Lib.hid (HB2.out.trans (hb3.mono (by omega)))
    clear hb3
    go_wp2_with fail
    go_ret
    exact ⟨ret_int HW.out.symm, HB3.out⟩
  · have HS := Lib.hid hs
    have HW : Hid (mostOut l = -1) := if_neg hs
    clear hs
    go_enter Try.func45, Try.ntmps45
    go_wp2_with fail
    refine (specLabelsValid_any _ l _ (H.out.quads (Nat.le_refl _))).mono ?_
    rintro e w1 ⟨rfl, hb⟩
    have HB := Lib.hid hb
    clear hb
    rw [decide_eq_false HS.out]
    go_wp2_with fail
    go_ret
    exact ⟨ret_int HW.out.symm, HB.out⟩
end Go.Proofs.Ytbpcjdhbbighgaa
