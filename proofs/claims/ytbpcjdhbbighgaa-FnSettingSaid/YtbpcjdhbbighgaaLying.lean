/-
  Contracts of lying, the program's, and l8Places, the reference's: the places of a label at a side. Conditions: the label is valid; for l8Places the side is one of the four.
-/
import Derived.Test.YtbpcjdhbbighgaaLabValid2
import Derived.Test.YtbpcjdhbbighgaaFlip
namespace Go.Proofs.Ytbpcjdhbbighgaa
open Go.RowKit Go.Deep Go.Sort

def sx (side : Int) (q : Quad) : Int := if side = 0 then q.1 + 1 else if side = 1 then q.1 - q.2.2.1 else q.1
def sy (side : Int) (q : Quad) : Int := if side = 2 then q.2.1 - 1 else if side = 3 then q.2.1 + 1 else q.2.1
def Fits (q : Quad) (side : Int) : Prop := 0 ≤ side ∧ side ≤ 3 ∧ 0 ≤ sx side q ∧ sx side q + q.2.2.1 - 1 ≤ 9 ∧ 0 ≤ sy side q ∧ sy side q ≤ 9
instance (q : Quad) (side : Int) : Decidable (Fits q side) := by unfold Fits; infer_instance
def rowOf (x y : Int) (n : Nat) : List Int := (List.range n).map (fun i : Nat => 10 * y + x + (i : Int))
def placesOf (q : Quad) (side : Int) : List Int := if Fits q side then rowOf (sx side q) (sy side q) q.2.2.1.toNat else []
theorem rowOf_length (x y : Int) (n : Nat) : (rowOf x y n).length = n := by simp [rowOf]
theorem rowOf_get (x y : Int) (n j : Nat) (h : j < n) : (rowOf x y n)[j]?.getD 0 = 10 * y + x + (j : Int) := by simp [rowOf, h]
theorem rowOf_snoc (x y : Int) (n : Nat) : rowOf x y n ++ [10 * y + x + (n : Int)] = rowOf x y (n + 1) := by simp [rowOf, List.range_succ]

set_option maxHeartbeats 400000 in
theorem isCo_no (n : Int) (w : World) (h : n < 0 ∨ 9 < n) :
    Calls Try.prog 55 #[.int .i64 n] w fun e w' => e = .returned (.bool false) ∧ w = w' := by
  by_cases h1 : n < 0
  · have t1 : decide (0 ≤ n) = false := decide_eq_false (by omega)
    clear h
    go_enter Try.func55, Try.ntmps55
    go_wp2
    go_ret
    exact ⟨rfl, rfl⟩
  · have t1 : decide (0 ≤ n) = true := decide_eq_true (by omega)
    have t2 : decide (n < 10) = false := decide_eq_false (by omega)
    clear h
    go_enter Try.func55, Try.ntmps55
    go_wp2
    go_ret
    exact ⟨rfl, rfl⟩

set_option maxHeartbeats 1000000 in
set_option maxRecDepth 100000 in
theorem lying_yes0 (X Y G : Int) (n : Nat) (w : World) (h1 : 0 ≤ X) (h2 : X ≤ 9) (h3 : 0 ≤ Y) (h4 : Y ≤ 9) (h5 : 1 ≤ n) (h6 : n ≤ 5) (f1 : 0 ≤ X + 1) (f2 : X + 1 + (n : Int) - 1 ≤ 9) (f3 : 0 ≤ Y) (f4 : Y ≤ 9) :
    Calls Try.prog 50 #[.agg #[.int .i64 X, .int .i64 Y, .int .i64 (n : Int), .int .i64 G], .int .i64 0] w fun e w' => ∃ v, e = .returned (.tuple #[v, .bool true]) ∧ Own w.heap.size w'.heap.size w' v (rowOf (X + 1) (Y) n) ∧ Below w.heap.size w w' := by
  have hmk := run_make_row' (P := Try.prog) 27 3 (.int .i64 0) 8 Try.underlying27 info_int rfl .i64 .i64 n (by omega) (by omega)
  go_enter Try.func50, Try.ntmps50
  go_wp2
  go_quiet (fail)
  go_wp2_with (go_at_call 55; refine (isCo_yes _ _ (by omega) (by omega)).mono ?_; rintro e w' ⟨rfl, rfl⟩)
  go_loopw [9, 55] (fun _ i wr => ∃ k : Nat, k ≤ n ∧ i = .int .i64 k ∧ wr.rowIs (w.heap.size + 1) 3 n (fun j => if j < k then .int .i64 (10 * (Y) + (X + 1) + (j : Int)) else .int .i64 0) ∧ Below w.heap.size w wr) (fun _ i _ => n - (intOf i).toNat)
  case atStart => exact ⟨0, Nat.zero_le _, rfl, (by simpa using (World.rowIs_made (World.drewN (w.alloc (.cells #[.int .i64 X, .int .i64 Y, .int .i64 (n : Int), .int .i64 G] 24)) nq) (.int .i64 0) n 3)), below_drewN (al (al (Below.refl _ _) _) _) _⟩
  case round =>
    obtain ⟨k, hk, rfl, hrow, hbel⟩ := hrel
    by_cases hlt : k < n
    · have hd := hrow.cell hlt
      have hf := hrow.frozen k
      have HR := Lib.hid (hrow.set k (.int .i64 (10 * (Y) + (X + 1) + (k : Int))))
      have HB := Lib.hid hbel
      clear hrow hbel hmk
      go_wp2
      go_roundw
      case rel =>
        refine ⟨k + 1, by omega, by go_num, HR.out.congr fun j hj => ?_, HB.out.setCell (by simp) _⟩
        by_cases e : j = k
        · subst e; simp
        · by_cases e2 : j < k
          · rw [if_neg e, if_pos e2, if_pos (by omega)]
          · rw [if_neg e, if_neg e2, if_neg (by omega)]
      case measure => simp [intOf]; omega
    · have HR := Lib.hid hrow
      have HB := Lib.hid hbel
      clear hrow hbel hmk
      go_wp2
      go_ret2
      obtain rfl : n = k := by omega
      have hl := rowOf_length (X + 1) (Y) n
      have R : Own w.heap.size wr.heap.size wr (.slice (some ⟨w.heap.size + 1, 0, none⟩) (rowOf (X + 1) (Y) n).length n) (rowOf (X + 1) (Y) n) :=
        own_of_row (f := fun j => if j < n then .int .i64 (10 * (Y) + (X + 1) + (j : Int)) else .int .i64 0) (by rw [hl]; exact HR.out) (fun j hj => by rw [hl] at hj; simp only [hj, if_true]; rw [rowOf_get _ _ _ _ hj]) (by omega) HR.out.lt (by omega) (by omega)
      rw [hl] at R
      exact ⟨_, rfl, R, HB.out⟩
set_option maxHeartbeats 1000000 in
set_option maxRecDepth 100000 in
theorem lying_no0 (X Y G : Int) (n : Nat) (w : World) (h1 : 0 ≤ X) (h2 : X ≤ 9) (h3 : 0 ≤ Y) (h4 : Y ≤ 9) (h5 : 1 ≤ n) (h6 : n ≤ 5) (hf : ¬ (0 ≤ X + 1 ∧ X + 1 + (n : Int) - 1 ≤ 9 ∧ 0 ≤ Y ∧ Y ≤ 9)) :
    Calls Try.prog 50 #[.agg #[.int .i64 X, .int .i64 Y, .int .i64 (n : Int), .int .i64 G], .int .i64 0] w fun e w' => ∃ v, e = .returned (.tuple #[v, .bool false]) ∧ Own w.heap.size w'.heap.size w' v [] ∧ Below w.heap.size w w' := by
  rcases (show (X + 1 < 0 ∨ 9 < X + 1) ∨ ((0 ≤ X + 1 ∧ X + 1 ≤ 9) ∧ 9 < X + 1 + (n : Int) - 1) ∨ ((0 ≤ X + 1 ∧ X + 1 ≤ 9 ∧ X + 1 + (n : Int) - 1 ≤ 9) ∧ (Y < 0 ∨ 9 < Y)) by omega) with o | ⟨⟨a1, a2⟩, o⟩ | ⟨⟨a1, a2, a3⟩, o⟩
  all_goals try (exfalso; omega)
  all_goals
    clear hf
    go_enter Try.func50, Try.ntmps50
    go_wp2
    go_quiet (fail)
    go_wp2_with (go_at_call 55; first | (refine (isCo_yes _ _ (by omega) (by omega)).mono ?_; rintro e w' ⟨rfl, rfl⟩) | (refine (isCo_no _ _ (by omega)).mono ?_; rintro e w' ⟨rfl, rfl⟩))
    go_ret2
    exact ⟨_, rfl, .inl ⟨rfl, none, 0, rfl, by omega⟩, below_drewN (al (Below.refl _ _) _) _⟩

set_option maxHeartbeats 1000000 in
set_option maxRecDepth 100000 in
theorem lying_yes1 (X Y G : Int) (n : Nat) (w : World) (h1 : 0 ≤ X) (h2 : X ≤ 9) (h3 : 0 ≤ Y) (h4 : Y ≤ 9) (h5 : 1 ≤ n) (h6 : n ≤ 5) (f1 : 0 ≤ X - (n : Int)) (f2 : X - (n : Int) + (n : Int) - 1 ≤ 9) (f3 : 0 ≤ Y) (f4 : Y ≤ 9) :
    Calls Try.prog 50 #[.agg #[.int .i64 X, .int .i64 Y, .int .i64 (n : Int), .int .i64 G], .int .i64 1] w fun e w' => ∃ v, e = .returned (.tuple #[v, .bool true]) ∧ Own w.heap.size w'.heap.size w' v (rowOf (X - (n : Int)) (Y) n) ∧ Below w.heap.size w w' := by
  have hmk := run_make_row' (P := Try.prog) 27 3 (.int .i64 0) 8 Try.underlying27 info_int rfl .i64 .i64 n (by omega) (by omega)
  go_enter Try.func50, Try.ntmps50
  go_wp2
  go_quiet (fail)
  go_wp2_with (go_at_call 55; refine (isCo_yes _ _ (by omega) (by omega)).mono ?_; rintro e w' ⟨rfl, rfl⟩)
  go_loopw [9, 55] (fun _ i wr => ∃ k : Nat, k ≤ n ∧ i = .int .i64 k ∧ wr.rowIs (w.heap.size + 1) 3 n (fun j => if j < k then .int .i64 (10 * (Y) + (X - (n : Int)) + (j : Int)) else .int .i64 0) ∧ Below w.heap.size w wr) (fun _ i _ => n - (intOf i).toNat)
  case atStart => exact ⟨0, Nat.zero_le _, rfl, (by simpa using (World.rowIs_made (World.drewN (w.alloc (.cells #[.int .i64 X, .int .i64 Y, .int .i64 (n : Int), .int .i64 G] 24)) nq) (.int .i64 0) n 3)), below_drewN (al (al (Below.refl _ _) _) _) _⟩
  case round =>
    obtain ⟨k, hk, rfl, hrow, hbel⟩ := hrel
    by_cases hlt : k < n
    · have hd := hrow.cell hlt
      have hf := hrow.frozen k
      have HR := Lib.hid (hrow.set k (.int .i64 (10 * (Y) + (X - (n : Int)) + (k : Int))))
      have HB := Lib.hid hbel
      clear hrow hbel hmk
      go_wp2
      go_roundw
      case rel =>
        refine ⟨k + 1, by omega, by go_num, HR.out.congr fun j hj => ?_, HB.out.setCell (by simp) _⟩
        by_cases e : j = k
        · subst e; simp
        · by_cases e2 : j < k
          · rw [if_neg e, if_pos e2, if_pos (by omega)]
          · rw [if_neg e, if_neg e2, if_neg (by omega)]
      case measure => simp [intOf]; omega
    · have HR := Lib.hid hrow
      have HB := Lib.hid hbel
      clear hrow hbel hmk
      go_wp2
      go_ret2
      obtain rfl : n = k := by omega
      have hl := rowOf_length (X - (n : Int)) (Y) n
      have R : Own w.heap.size wr.heap.size wr (.slice (some ⟨w.heap.size + 1, 0, none⟩) (rowOf (X - (n : Int)) (Y) n).length n) (rowOf (X - (n : Int)) (Y) n) :=
        own_of_row (f := fun j => if j < n then .int .i64 (10 * (Y) + (X - (n : Int)) + (j : Int)) else .int .i64 0) (by rw [hl]; exact HR.out) (fun j hj => by rw [hl] at hj; simp only [hj, if_true]; rw [rowOf_get _ _ _ _ hj]) (by omega) HR.out.lt (by omega) (by omega)
      rw [hl] at R
      exact ⟨_, rfl, R, HB.out⟩
set_option maxHeartbeats 1000000 in
set_option maxRecDepth 100000 in
theorem lying_no1 (X Y G : Int) (n : Nat) (w : World) (h1 : 0 ≤ X) (h2 : X ≤ 9) (h3 : 0 ≤ Y) (h4 : Y ≤ 9) (h5 : 1 ≤ n) (h6 : n ≤ 5) (hf : ¬ (0 ≤ X - (n : Int) ∧ X - (n : Int) + (n : Int) - 1 ≤ 9 ∧ 0 ≤ Y ∧ Y ≤ 9)) :
    Calls Try.prog 50 #[.agg #[.int .i64 X, .int .i64 Y, .int .i64 (n : Int), .int .i64 G], .int .i64 1] w fun e w' => ∃ v, e = .returned (.tuple #[v, .bool false]) ∧ Own w.heap.size w'.heap.size w' v [] ∧ Below w.heap.size w w' := by
  rcases (show (X - (n : Int) < 0 ∨ 9 < X - (n : Int)) ∨ ((0 ≤ X - (n : Int) ∧ X - (n : Int) ≤ 9) ∧ 9 < X - (n : Int) + (n : Int) - 1) ∨ ((0 ≤ X - (n : Int) ∧ X - (n : Int) ≤ 9 ∧ X - (n : Int) + (n : Int) - 1 ≤ 9) ∧ (Y < 0 ∨ 9 < Y)) by omega) with o | ⟨⟨a1, a2⟩, o⟩ | ⟨⟨a1, a2, a3⟩, o⟩
  all_goals try (exfalso; omega)
  all_goals
    clear hf
    go_enter Try.func50, Try.ntmps50
    go_wp2
    go_quiet (fail)
    go_wp2_with (go_at_call 55; first | (refine (isCo_yes _ _ (by omega) (by omega)).mono ?_; rintro e w' ⟨rfl, rfl⟩) | (refine (isCo_no _ _ (by omega)).mono ?_; rintro e w' ⟨rfl, rfl⟩))
    go_ret2
    exact ⟨_, rfl, .inl ⟨rfl, none, 0, rfl, by omega⟩, below_drewN (al (Below.refl _ _) _) _⟩

set_option maxHeartbeats 1000000 in
set_option maxRecDepth 100000 in
theorem lying_yes2 (X Y G : Int) (n : Nat) (w : World) (h1 : 0 ≤ X) (h2 : X ≤ 9) (h3 : 0 ≤ Y) (h4 : Y ≤ 9) (h5 : 1 ≤ n) (h6 : n ≤ 5) (f1 : 0 ≤ X) (f2 : X + (n : Int) - 1 ≤ 9) (f3 : 0 ≤ Y - 1) (f4 : Y - 1 ≤ 9) :
    Calls Try.prog 50 #[.agg #[.int .i64 X, .int .i64 Y, .int .i64 (n : Int), .int .i64 G], .int .i64 2] w fun e w' => ∃ v, e = .returned (.tuple #[v, .bool true]) ∧ Own w.heap.size w'.heap.size w' v (rowOf (X) (Y - 1) n) ∧ Below w.heap.size w w' := by
  have hmk := run_make_row' (P := Try.prog) 27 3 (.int .i64 0) 8 Try.underlying27 info_int rfl .i64 .i64 n (by omega) (by omega)
  go_enter Try.func50, Try.ntmps50
  go_wp2
  go_quiet (fail)
  go_wp2_with (go_at_call 55; refine (isCo_yes _ _ (by omega) (by omega)).mono ?_; rintro e w' ⟨rfl, rfl⟩)
  go_loopw [9, 55] (fun _ i wr => ∃ k : Nat, k ≤ n ∧ i = .int .i64 k ∧ wr.rowIs (w.heap.size + 1) 3 n (fun j => if j < k then .int .i64 (10 * (Y - 1) + (X) + (j : Int)) else .int .i64 0) ∧ Below w.heap.size w wr) (fun _ i _ => n - (intOf i).toNat)
  case atStart => exact ⟨0, Nat.zero_le _, rfl, (by simpa using (World.rowIs_made (World.drewN (w.alloc (.cells #[.int .i64 X, .int .i64 Y, .int .i64 (n : Int), .int .i64 G] 24)) nq) (.int .i64 0) n 3)), below_drewN (al (al (Below.refl _ _) _) _) _⟩
  case round =>
    obtain ⟨k, hk, rfl, hrow, hbel⟩ := hrel
    by_cases hlt : k < n
    · have hd := hrow.cell hlt
      have hf := hrow.frozen k
      have HR := Lib.hid (hrow.set k (.int .i64 (10 * (Y - 1) + (X) + (k : Int))))
      have HB := Lib.hid hbel
      clear hrow hbel hmk
      go_wp2
      go_roundw
      case rel =>
        refine ⟨k + 1, by omega, by go_num, HR.out.congr fun j hj => ?_, HB.out.setCell (by simp) _⟩
        by_cases e : j = k
        · subst e; simp
        · by_cases e2 : j < k
          · rw [if_neg e, if_pos e2, if_pos (by omega)]
          · rw [if_neg e, if_neg e2, if_neg (by omega)]
      case measure => simp [intOf]; omega
    · have HR := Lib.hid hrow
      have HB := Lib.hid hbel
      clear hrow hbel hmk
      go_wp2
      go_ret2
      obtain rfl : n = k := by omega
      have hl := rowOf_length (X) (Y - 1) n
      have R : Own w.heap.size wr.heap.size wr (.slice (some ⟨w.heap.size + 1, 0, none⟩) (rowOf (X) (Y - 1) n).length n) (rowOf (X) (Y - 1) n) :=
        own_of_row (f := fun j => if j < n then .int .i64 (10 * (Y - 1) + (X) + (j : Int)) else .int .i64 0) (by rw [hl]; exact HR.out) (fun j hj => by rw [hl] at hj; simp only [hj, if_true]; rw [rowOf_get _ _ _ _ hj]) (by omega) HR.out.lt (by omega) (by omega)
      rw [hl] at R
      exact ⟨_, rfl, R, HB.out⟩
set_option maxHeartbeats 1000000 in
set_option maxRecDepth 100000 in
theorem lying_no2 (X Y G : Int) (n : Nat) (w : World) (h1 : 0 ≤ X) (h2 : X ≤ 9) (h3 : 0 ≤ Y) (h4 : Y ≤ 9) (h5 : 1 ≤ n) (h6 : n ≤ 5) (hf : ¬ (0 ≤ X ∧ X + (n : Int) - 1 ≤ 9 ∧ 0 ≤ Y - 1 ∧ Y - 1 ≤ 9)) :
    Calls Try.prog 50 #[.agg #[.int .i64 X, .int .i64 Y, .int .i64 (n : Int), .int .i64 G], .int .i64 2] w fun e w' => ∃ v, e = .returned (.tuple #[v, .bool false]) ∧ Own w.heap.size w'.heap.size w' v [] ∧ Below w.heap.size w w' := by
  rcases (show (X < 0 ∨ 9 < X) ∨ ((0 ≤ X ∧ X ≤ 9) ∧ 9 < X + (n : Int) - 1) ∨ ((0 ≤ X ∧ X ≤ 9 ∧ X + (n : Int) - 1 ≤ 9) ∧ (Y - 1 < 0 ∨ 9 < Y - 1)) by omega) with o | ⟨⟨a1, a2⟩, o⟩ | ⟨⟨a1, a2, a3⟩, o⟩
  all_goals try (exfalso; omega)
  all_goals
    clear hf
    go_enter Try.func50, Try.ntmps50
    go_wp2
    go_quiet (fail)
    go_wp2_with (go_at_call 55; first | (refine (isCo_yes _ _ (by omega) (by omega)).mono ?_; rintro e w' ⟨rfl, rfl⟩) | (refine (isCo_no _ _ (by omega)).mono ?_; rintro e w' ⟨rfl, rfl⟩))
    go_ret2
    exact ⟨_, rfl, .inl ⟨rfl, none, 0, rfl, by omega⟩, below_drewN (al (Below.refl _ _) _) _⟩

set_option maxHeartbeats 1000000 in
set_option maxRecDepth 100000 in
theorem lying_yes3 (X Y G : Int) (n : Nat) (w : World) (h1 : 0 ≤ X) (h2 : X ≤ 9) (h3 : 0 ≤ Y) (h4 : Y ≤ 9) (h5 : 1 ≤ n) (h6 : n ≤ 5) (f1 : 0 ≤ X) (f2 : X + (n : Int) - 1 ≤ 9) (f3 : 0 ≤ Y + 1) (f4 : Y + 1 ≤ 9) :
    Calls Try.prog 50 #[.agg #[.int .i64 X, .int .i64 Y, .int .i64 (n : Int), .int .i64 G], .int .i64 3] w fun e w' => ∃ v, e = .returned (.tuple #[v, .bool true]) ∧ Own w.heap.size w'.heap.size w' v (rowOf (X) (Y + 1) n) ∧ Below w.heap.size w w' := by
  have hmk := run_make_row' (P := Try.prog) 27 3 (.int .i64 0) 8 Try.underlying27 info_int rfl .i64 .i64 n (by omega) (by omega)
  go_enter Try.func50, Try.ntmps50
  go_wp2
  go_quiet (fail)
  go_wp2_with (go_at_call 55; refine (isCo_yes _ _ (by omega) (by omega)).mono ?_; rintro e w' ⟨rfl, rfl⟩)
  go_loopw [9, 55] (fun _ i wr => ∃ k : Nat, k ≤ n ∧ i = .int .i64 k ∧ wr.rowIs (w.heap.size + 1) 3 n (fun j => if j < k then .int .i64 (10 * (Y + 1) + (X) + (j : Int)) else .int .i64 0) ∧ Below w.heap.size w wr) (fun _ i _ => n - (intOf i).toNat)
  case atStart => exact ⟨0, Nat.zero_le _, rfl, (by simpa using (World.rowIs_made (World.drewN (w.alloc (.cells #[.int .i64 X, .int .i64 Y, .int .i64 (n : Int), .int .i64 G] 24)) nq) (.int .i64 0) n 3)), below_drewN (al (al (Below.refl _ _) _) _) _⟩
  case round =>
    obtain ⟨k, hk, rfl, hrow, hbel⟩ := hrel
    by_cases hlt : k < n
    · have hd := hrow.cell hlt
      have hf := hrow.frozen k
      have HR := Lib.hid (hrow.set k (.int .i64 (10 * (Y + 1) + (X) + (k : Int))))
      have HB := Lib.hid hbel
      clear hrow hbel hmk
      go_wp2
      go_roundw
      case rel =>
        refine ⟨k + 1, by omega, by go_num, HR.out.congr fun j hj => ?_, HB.out.setCell (by simp) _⟩
        by_cases e : j = k
        · subst e; simp
        · by_cases e2 : j < k
          · rw [if_neg e, if_pos e2, if_pos (by omega)]
          · rw [if_neg e, if_neg e2, if_neg (by omega)]
      case measure => simp [intOf]; omega
    · have HR := Lib.hid hrow
      have HB := Lib.hid hbel
      clear hrow hbel hmk
      go_wp2
      go_ret2
      obtain rfl : n = k := by omega
      have hl := rowOf_length (X) (Y + 1) n
      have R : Own w.heap.size wr.heap.size wr (.slice (some ⟨w.heap.size + 1, 0, none⟩) (rowOf (X) (Y + 1) n).length n) (rowOf (X) (Y + 1) n) :=
        own_of_row (f := fun j => if j < n then .int .i64 (10 * (Y + 1) + (X) + (j : Int)) else .int .i64 0) (by rw [hl]; exact HR.out) (fun j hj => by rw [hl] at hj; simp only [hj, if_true]; rw [rowOf_get _ _ _ _ hj]) (by omega) HR.out.lt (by omega) (by omega)
      rw [hl] at R
      exact ⟨_, rfl, R, HB.out⟩
set_option maxHeartbeats 1000000 in
set_option maxRecDepth 100000 in
theorem lying_no3 (X Y G : Int) (n : Nat) (w : World) (h1 : 0 ≤ X) (h2 : X ≤ 9) (h3 : 0 ≤ Y) (h4 : Y ≤ 9) (h5 : 1 ≤ n) (h6 : n ≤ 5) (hf : ¬ (0 ≤ X ∧ X + (n : Int) - 1 ≤ 9 ∧ 0 ≤ Y + 1 ∧ Y + 1 ≤ 9)) :
    Calls Try.prog 50 #[.agg #[.int .i64 X, .int .i64 Y, .int .i64 (n : Int), .int .i64 G], .int .i64 3] w fun e w' => ∃ v, e = .returned (.tuple #[v, .bool false]) ∧ Own w.heap.size w'.heap.size w' v [] ∧ Below w.heap.size w w' := by
  rcases (show (X < 0 ∨ 9 < X) ∨ ((0 ≤ X ∧ X ≤ 9) ∧ 9 < X + (n : Int) - 1) ∨ ((0 ≤ X ∧ X ≤ 9 ∧ X + (n : Int) - 1 ≤ 9) ∧ (Y + 1 < 0 ∨ 9 < Y + 1)) by omega) with o | ⟨⟨a1, a2⟩, o⟩ | ⟨⟨a1, a2, a3⟩, o⟩
  all_goals try (exfalso; omega)
  all_goals
    clear hf
    go_enter Try.func50, Try.ntmps50
    go_wp2
    go_quiet (fail)
    go_wp2_with (go_at_call 55; first | (refine (isCo_yes _ _ (by omega) (by omega)).mono ?_; rintro e w' ⟨rfl, rfl⟩) | (refine (isCo_no _ _ (by omega)).mono ?_; rintro e w' ⟨rfl, rfl⟩))
    go_ret2
    exact ⟨_, rfl, .inl ⟨rfl, none, 0, rfl, by omega⟩, below_drewN (al (Below.refl _ _) _) _⟩

set_option maxHeartbeats 1000000 in
set_option maxRecDepth 100000 in
theorem lying_out (q : Quad) (side : Int) (w : World) (h : side < 0 ∨ 3 < side) :
    Calls Try.prog 50 #[qv q, .int .i64 side] w fun e w' => ∃ v, e = .returned (.tuple #[v, .bool false]) ∧ Own w.heap.size w'.heap.size w' v [] ∧ Below w.heap.size w w' := by
  have e0 : (side == 0) = false := by simp; omega
  have e1 : (side == 1) = false := by simp; omega
  have e2 : (side == 2) = false := by simp; omega
  have e3 : (side == 3) = false := by simp; omega
  clear h
  go_enter Try.func50, Try.ntmps50
  go_wp2
  go_quiet (fail)
  go_wp2
  go_ret2
  exact ⟨_, rfl, .inl ⟨rfl, none, 0, rfl, by omega⟩, below_drewN (al (Below.refl _ _) _) _⟩

theorem fits_iff {q : Quad} {side : Int} {x y : Int} (h0 : 0 ≤ side) (h3 : side ≤ 3) (hx : sx side q = x) (hy : sy side q = y) : Fits q side ↔ (0 ≤ x ∧ x + q.2.2.1 - 1 ≤ 9 ∧ 0 ≤ y ∧ y ≤ 9) := by
  unfold Fits; rw [hx, hy]
  exact ⟨fun h => ⟨h.2.2.1, h.2.2.2.1, h.2.2.2.2.1, h.2.2.2.2.2⟩, fun h => ⟨h0, h3, h.1, h.2.1, h.2.2.1, h.2.2.2⟩⟩
theorem places_yes {q : Quad} {side : Int} (h : Fits q side) : placesOf q side = rowOf (sx side q) (sy side q) q.2.2.1.toNat := if_pos h
theorem places_no {q : Quad} {side : Int} (h : ¬ Fits q side) : placesOf q side = [] := if_neg h

/-- lying, whatever the side: the places, and whether it lies on the map -/
theorem lying_any (q : Quad) (side : Int) (w : World) (hq : LabOk q) :
    Calls Try.prog 50 #[qv q, .int .i64 side] w fun e w' => ∃ v, e = .returned (.tuple #[v, .bool (decide (Fits q side))]) ∧ Own w.heap.size w'.heap.size w' v (placesOf q side) ∧ Below w.heap.size w w' := by
  obtain ⟨X, Y, W, G⟩ := q
  obtain ⟨h1, h2, h3, h4, h5, h6, _, _⟩ := hq
  simp only at h1 h2 h3 h4 h5 h6
  obtain ⟨n, rfl⟩ : ∃ n : Nat, W = (n : Int) := ⟨W.toNat, by omega⟩
  by_cases ho : side < 0 ∨ 3 < side
  · have hf : ¬ Fits (X, Y, (n : Int), G) side := fun h => by have := h.1; have := h.2.1; omega
    rw [decide_eq_false hf, places_no hf]
    exact lying_out _ side w ho
  rcases (show side = 0 ∨ side = 1 ∨ side = 2 ∨ side = 3 by omega) with rfl | rfl | rfl | rfl
  · have hi := fits_iff (q := (X, Y, (n : Int), G)) (side := 0) (x := X + 1) (y := Y) (by decide) (by decide) rfl rfl
    by_cases hf : Fits (X, Y, (n : Int), G) 0
    · rw [decide_eq_true hf, places_yes hf]
      obtain ⟨g1, g2, g3, g4⟩ := hi.1 hf
      exact lying_yes0 X Y G n w h1 h2 h3 h4 (by omega) (by omega) g1 g2 g3 g4
    · rw [decide_eq_false hf, places_no hf]
      exact lying_no0 X Y G n w h1 h2 h3 h4 (by omega) (by omega) (fun h => hf (hi.2 h))
  · have hi := fits_iff (q := (X, Y, (n : Int), G)) (side := 1) (x := X - (n : Int)) (y := Y) (by decide) (by decide) rfl rfl
    by_cases hf : Fits (X, Y, (n : Int), G) 1
    · rw [decide_eq_true hf, places_yes hf]
      obtain ⟨g1, g2, g3, g4⟩ := hi.1 hf
      exact lying_yes1 X Y G n w h1 h2 h3 h4 (by omega) (by omega) g1 g2 g3 g4
    · rw [decide_eq_false hf, places_no hf]
      exact lying_no1 X Y G n w h1 h2 h3 h4 (by omega) (by omega) (fun h => hf (hi.2 h))
  · have hi := fits_iff (q := (X, Y, (n : Int), G)) (side := 2) (x := X) (y := Y - 1) (by decide) (by decide) rfl rfl
    by_cases hf : Fits (X, Y, (n : Int), G) 2
    · rw [decide_eq_true hf, places_yes hf]
      obtain ⟨g1, g2, g3, g4⟩ := hi.1 hf
      exact lying_yes2 X Y G n w h1 h2 h3 h4 (by omega) (by omega) g1 g2 g3 g4
    · rw [decide_eq_false hf, places_no hf]
      exact lying_no2 X Y G n w h1 h2 h3 h4 (by omega) (by omega) (fun h => hf (hi.2 h))
  · have hi := fits_iff (q := (X, Y, (n : Int), G)) (side := 3) (x := X) (y := Y + 1) (by decide) (by decide) rfl rfl
    by_cases hf : Fits (X, Y, (n : Int), G) 3
    · rw [decide_eq_true hf, places_yes hf]
      obtain ⟨g1, g2, g3, g4⟩ := hi.1 hf
      exact lying_yes3 X Y G n w h1 h2 h3 h4 (by omega) (by omega) g1 g2 g3 g4
    · rw [decide_eq_false hf, places_no hf]
      exact lying_no3 X Y G n w h1 h2 h3 h4 (by omega) (by omega) (fun h => hf (hi.2 h))
end Go.Proofs.Ytbpcjdhbbighgaa
