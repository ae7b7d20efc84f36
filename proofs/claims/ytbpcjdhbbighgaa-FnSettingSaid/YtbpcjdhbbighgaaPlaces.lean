/-
  Contracts of l8Places, the reference's, and of LabelPlaces, the program's and the reference's. Conditions: for l8Places the label is valid and the side is one of the four; else none.
-/
import Derived.Test.YtbpcjdhbbighgaaLying
namespace Go.Proofs.Ytbpcjdhbbighgaa
open Go.RowKit Go.Deep Go.Sort
set_option linter.unusedVariables false

set_option maxHeartbeats 1000000 in
set_option maxRecDepth 100000 in
theorem l8_yes0 (X Y G : Int) (n : Nat) (w : World) (h1 : 0 ≤ X) (h2 : X ≤ 9) (h3 : 0 ≤ Y) (h4 : Y ≤ 9) (h5 : 1 ≤ n) (h6 : n ≤ 5) (f1 : 0 ≤ X + 1) (f2 : X + 1 + (n : Int) - 1 ≤ 9) (f3 : 0 ≤ Y) (f4 : Y ≤ 9) :
    Calls Try.prog 52 #[.agg #[.int .i64 X, .int .i64 Y, .int .i64 (n : Int), .int .i64 G], .int .i64 0] w fun e w' => ∃ v, e = .returned v ∧ Own w.heap.size w'.heap.size w' v (rowOf (X + 1) (Y) n) ∧ Below w.heap.size w w' := by
  go_enter Try.func52, Try.ntmps52
  go_wp2_with (go_at_call 51; refine (l6In_yes _ _ _ _ (by omega) (by omega)).mono ?_; rintro e w' ⟨rfl, rfl⟩)
  go_loopw [7, 8] (fun v i wr => ∃ k : Nat, k ≤ n ∧ i = .int .i64 k ∧ wr.ownsRow (w.heap.size + 1) 3 1 v (rowOf (X + 1) (Y) k).length ((rowOf (X + 1) (Y) k).map (Value.int .i64)) ∧ Below (w.heap.size + 1) (w.alloc (.cells #[.int .i64 X, .int .i64 Y, .int .i64 (n : Int), .int .i64 G] 24)) wr) (fun _ i _ => n - (intOf i).toNat)
  case atStart => exact ⟨0, Nat.zero_le _, rfl, by simpa [rowOf] using (World.ownsRow_made (base := w.heap.size + 1) (e := 3) (size := 1) (w.alloc (.cells #[.int .i64 X, .int .i64 Y, .int .i64 (n : Int), .int .i64 G] 24)) #[] 0 (by simp) (by decide) rfl), (Below.refl _ _).alloc (by simp) _⟩
  case round =>
    obtain ⟨k, hk, rfl, hown, hbel⟩ := hrel
    obtain ⟨c0, c1, c2, c3⟩ := ((QAt_new w (X, Y, (n : Int), G) 24).below hbel (by omega)).zero
    have hs := hbel.size
    simp at hs
    by_cases hlt : k < n
    · have hfl : (rowOf (X + 1) (Y) k).length ≤ 1099511627776 := by rw [rowOf_length]; omega
      have E := Lib.hid (rowOf_snoc (X + 1) (Y) k)
      obtain ⟨q, hq⟩ : ∃ q, q = rowOf (X + 1) (Y) k := ⟨_, rfl⟩
      rw [← hq] at hown E hfl
      clear hq
      go_wp2_with (at_builtin; refine app_int (w.alloc (.cells #[.int .i64 X, .int .i64 Y, .int .i64 (n : Int), .int .i64 G] 24)) wr rfl _ _ rfl (w.heap.size + 1) _ q _ hown rfl rfl hfl hs hbel ?_; intro v' w1 hown1 hbel1)
      go_roundw
      case rel => exact ⟨k + 1, by omega, by go_num, by rw [← E.out]; exact hown1, hbel1⟩
      case measure => simp [intOf]; omega
    · have HO := Lib.hid hown
      have HB := Lib.hid hbel
      clear hown hbel
      go_wp2
      go_ret
      obtain rfl : n = k := by omega
      exact ⟨_, rfl, (own_of_ownsRow HO.out (Nat.le_refl _)).mono (by omega) (Nat.le_refl _), ((Below.refl _ _).alloc (Nat.le_refl _) _).trans (HB.out.mono (by omega))⟩
set_option maxHeartbeats 1000000 in
set_option maxRecDepth 100000 in
theorem l8_no0 (X Y G : Int) (n : Nat) (w : World) (h1 : 0 ≤ X) (h2 : X ≤ 9) (h3 : 0 ≤ Y) (h4 : Y ≤ 9) (h5 : 1 ≤ n) (h6 : n ≤ 5) (hf : ¬ (0 ≤ X + 1 ∧ X + 1 + (n : Int) - 1 ≤ 9 ∧ 0 ≤ Y ∧ Y ≤ 9)) :
    Calls Try.prog 52 #[.agg #[.int .i64 X, .int .i64 Y, .int .i64 (n : Int), .int .i64 G], .int .i64 0] w fun e w' => ∃ v, e = .returned v ∧ Own w.heap.size w'.heap.size w' v [] ∧ Below w.heap.size w w' := by
  rcases (show (Y < 0 ∨ 9 < Y) ∨ ((0 ≤ Y ∧ Y ≤ 9) ∧ (X + 1 < 0 ∨ 10 - (n : Int) < X + 1)) by omega) with o | ⟨⟨a1, a2⟩, o⟩
  all_goals try (exfalso; omega)
  all_goals
    clear hf
    go_enter Try.func52, Try.ntmps52
    go_wp2_with (go_at_call 51; first | (refine (l6In_yes _ _ _ _ (by omega) (by omega)).mono ?_; rintro e w' ⟨rfl, rfl⟩) | (refine (l6In_no _ _ _ _ (by omega)).mono ?_; rintro e w' ⟨rfl, rfl⟩))
    go_ret
    exact ⟨_, rfl, .inl ⟨rfl, _, _, rfl, by omega⟩, al (al (Below.refl _ _) _) _⟩

set_option maxHeartbeats 1000000 in
set_option maxRecDepth 100000 in
theorem l8_yes1 (X Y G : Int) (n : Nat) (w : World) (h1 : 0 ≤ X) (h2 : X ≤ 9) (h3 : 0 ≤ Y) (h4 : Y ≤ 9) (h5 : 1 ≤ n) (h6 : n ≤ 5) (f1 : 0 ≤ X - (n : Int)) (f2 : X - (n : Int) + (n : Int) - 1 ≤ 9) (f3 : 0 ≤ Y) (f4 : Y ≤ 9) :
    Calls Try.prog 52 #[.agg #[.int .i64 X, .int .i64 Y, .int .i64 (n : Int), .int .i64 G], .int .i64 1] w fun e w' => ∃ v, e = .returned v ∧ Own w.heap.size w'.heap.size w' v (rowOf (X - (n : Int)) (Y) n) ∧ Below w.heap.size w w' := by
  go_enter Try.func52, Try.ntmps52
  go_wp2_with (go_at_call 51; refine (l6In_yes _ _ _ _ (by omega) (by omega)).mono ?_; rintro e w' ⟨rfl, rfl⟩)
  go_loopw [7, 8] (fun v i wr => ∃ k : Nat, k ≤ n ∧ i = .int .i64 k ∧ wr.ownsRow (w.heap.size + 1) 3 1 v (rowOf (X - (n : Int)) (Y) k).length ((rowOf (X - (n : Int)) (Y) k).map (Value.int .i64)) ∧ Below (w.heap.size + 1) (w.alloc (.cells #[.int .i64 X, .int .i64 Y, .int .i64 (n : Int), .int .i64 G] 24)) wr) (fun _ i _ => n - (intOf i).toNat)
  case atStart => exact ⟨0, Nat.zero_le _, rfl, by simpa [rowOf] using (World.ownsRow_made (base := w.heap.size + 1) (e := 3) (size := 1) (w.alloc (.cells #[.int .i64 X, .int .i64 Y, .int .i64 (n : Int), .int .i64 G] 24)) #[] 0 (by simp) (by decide) rfl), (Below.refl _ _).alloc (by simp) _⟩
  case round =>
    obtain ⟨k, hk, rfl, hown, hbel⟩ := hrel
    obtain ⟨c0, c1, c2, c3⟩ := ((QAt_new w (X, Y, (n : Int), G) 24).below hbel (by omega)).zero
    have hs := hbel.size
    simp at hs
    by_cases hlt : k < n
    · have hfl : (rowOf (X - (n : Int)) (Y) k).length ≤ 1099511627776 := by rw [rowOf_length]; omega
      have E := Lib.hid (rowOf_snoc (X - (n : Int)) (Y) k)
      obtain ⟨q, hq⟩ : ∃ q, q = rowOf (X - (n : Int)) (Y) k := ⟨_, rfl⟩
      rw [← hq] at hown E hfl
      clear hq
      go_wp2_with (at_builtin; refine app_int (w.alloc (.cells #[.int .i64 X, .int .i64 Y, .int .i64 (n : Int), .int .i64 G] 24)) wr rfl _ _ rfl (w.heap.size + 1) _ q _ hown rfl rfl hfl hs hbel ?_; intro v' w1 hown1 hbel1)
      go_roundw
      case rel => exact ⟨k + 1, by omega, by go_num, by rw [← E.out]; exact hown1, hbel1⟩
      case measure => simp [intOf]; omega
    · have HO := Lib.hid hown
      have HB := Lib.hid hbel
      clear hown hbel
      go_wp2
      go_ret
      obtain rfl : n = k := by omega
      exact ⟨_, rfl, (own_of_ownsRow HO.out (Nat.le_refl _)).mono (by omega) (Nat.le_refl _), ((Below.refl _ _).alloc (Nat.le_refl _) _).trans (HB.out.mono (by omega))⟩
set_option maxHeartbeats 1000000 in
set_option maxRecDepth 100000 in
theorem l8_no1 (X Y G : Int) (n : Nat) (w : World) (h1 : 0 ≤ X) (h2 : X ≤ 9) (h3 : 0 ≤ Y) (h4 : Y ≤ 9) (h5 : 1 ≤ n) (h6 : n ≤ 5) (hf : ¬ (0 ≤ X - (n : Int) ∧ X - (n : Int) + (n : Int) - 1 ≤ 9 ∧ 0 ≤ Y ∧ Y ≤ 9)) :
    Calls Try.prog 52 #[.agg #[.int .i64 X, .int .i64 Y, .int .i64 (n : Int), .int .i64 G], .int .i64 1] w fun e w' => ∃ v, e = .returned v ∧ Own w.heap.size w'.heap.size w' v [] ∧ Below w.heap.size w w' := by
  rcases (show (Y < 0 ∨ 9 < Y) ∨ ((0 ≤ Y ∧ Y ≤ 9) ∧ (X - (n : Int) < 0 ∨ 10 - (n : Int) < X - (n : Int))) by omega) with o | ⟨⟨a1, a2⟩, o⟩
  all_goals try (exfalso; omega)
  all_goals
    clear hf
    go_enter Try.func52, Try.ntmps52
    go_wp2_with (go_at_call 51; first | (refine (l6In_yes _ _ _ _ (by omega) (by omega)).mono ?_; rintro e w' ⟨rfl, rfl⟩) | (refine (l6In_no _ _ _ _ (by omega)).mono ?_; rintro e w' ⟨rfl, rfl⟩))
    go_ret
    exact ⟨_, rfl, .inl ⟨rfl, _, _, rfl, by omega⟩, al (al (Below.refl _ _) _) _⟩

set_option maxHeartbeats 1000000 in
set_option maxRecDepth 100000 in
theorem l8_yes2 (X Y G : Int) (n : Nat) (w : World) (h1 : 0 ≤ X) (h2 : X ≤ 9) (h3 : 0 ≤ Y) (h4 : Y ≤ 9) (h5 : 1 ≤ n) (h6 : n ≤ 5) (f1 : 0 ≤ X) (f2 : X + (n : Int) - 1 ≤ 9) (f3 : 0 ≤ Y - 1) (f4 : Y - 1 ≤ 9) :
    Calls Try.prog 52 #[.agg #[.int .i64 X, .int .i64 Y, .int .i64 (n : Int), .int .i64 G], .int .i64 2] w fun e w' => ∃ v, e = .returned v ∧ Own w.heap.size w'.heap.size w' v (rowOf (X) (Y - 1) n) ∧ Below w.heap.size w w' := by
  go_enter Try.func52, Try.ntmps52
  go_wp2_with (go_at_call 51; refine (l6In_yes _ _ _ _ (by omega) (by omega)).mono ?_; rintro e w' ⟨rfl, rfl⟩)
  go_loopw [7, 8] (fun v i wr => ∃ k : Nat, k ≤ n ∧ i = .int .i64 k ∧ wr.ownsRow (w.heap.size + 1) 3 1 v (rowOf (X) (Y - 1) k).length ((rowOf (X) (Y - 1) k).map (Value.int .i64)) ∧ Below (w.heap.size + 1) (w.alloc (.cells #[.int .i64 X, .int .i64 Y, .int .i64 (n : Int), .int .i64 G] 24)) wr) (fun _ i _ => n - (intOf i).toNat)
  case atStart => exact ⟨0, Nat.zero_le _, rfl, by simpa [rowOf] using (World.ownsRow_made (base := w.heap.size + 1) (e := 3) (size := 1) (w.alloc (.cells #[.int .i64 X, .int .i64 Y, .int .i64 (n : Int), .int .i64 G] 24)) #[] 0 (by simp) (by decide) rfl), (Below.refl _ _).alloc (by simp) _⟩
  case round =>
    obtain ⟨k, hk, rfl, hown, hbel⟩ := hrel
    obtain ⟨c0, c1, c2, c3⟩ := ((QAt_new w (X, Y, (n : Int), G) 24).below hbel (by omega)).zero
    have hs := hbel.size
    simp at hs
    by_cases hlt : k < n
    · have hfl : (rowOf (X) (Y - 1) k).length ≤ 1099511627776 := by rw [rowOf_length]; omega
      have E := Lib.hid (rowOf_snoc (X) (Y - 1) k)
      obtain ⟨q, hq⟩ : ∃ q, q = rowOf (X) (Y - 1) k := ⟨_, rfl⟩
      rw [← hq] at hown E hfl
      clear hq
      go_wp2_with (at_builtin; refine app_int (w.alloc (.cells #[.int .i64 X, .int .i64 Y, .int .i64 (n : Int), .int .i64 G] 24)) wr rfl _ _ rfl (w.heap.size + 1) _ q _ hown rfl rfl hfl hs hbel ?_; intro v' w1 hown1 hbel1)
      go_roundw
      case rel => exact ⟨k + 1, by omega, by go_num, by rw [← E.out]; exact hown1, hbel1⟩
      case measure => simp [intOf]; omega
    · have HO := Lib.hid hown
      have HB := Lib.hid hbel
      clear hown hbel
      go_wp2
      go_ret
      obtain rfl : n = k := by omega
      exact ⟨_, rfl, (own_of_ownsRow HO.out (Nat.le_refl _)).mono (by omega) (Nat.le_refl _), ((Below.refl _ _).alloc (Nat.le_refl _) _).trans (HB.out.mono (by omega))⟩
set_option maxHeartbeats 1000000 in
set_option maxRecDepth 100000 in
theorem l8_no2 (X Y G : Int) (n : Nat) (w : World) (h1 : 0 ≤ X) (h2 : X ≤ 9) (h3 : 0 ≤ Y) (h4 : Y ≤ 9) (h5 : 1 ≤ n) (h6 : n ≤ 5) (hf : ¬ (0 ≤ X ∧ X + (n : Int) - 1 ≤ 9 ∧ 0 ≤ Y - 1 ∧ Y - 1 ≤ 9)) :
    Calls Try.prog 52 #[.agg #[.int .i64 X, .int .i64 Y, .int .i64 (n : Int), .int .i64 G], .int .i64 2] w fun e w' => ∃ v, e = .returned v ∧ Own w.heap.size w'.heap.size w' v [] ∧ Below w.heap.size w w' := by
  rcases (show (Y - 1 < 0 ∨ 9 < Y - 1) ∨ ((0 ≤ Y - 1 ∧ Y - 1 ≤ 9) ∧ (X < 0 ∨ 10 - (n : Int) < X)) by omega) with o | ⟨⟨a1, a2⟩, o⟩
  all_goals try (exfalso; omega)
  all_goals
    clear hf
    go_enter Try.func52, Try.ntmps52
    go_wp2_with (go_at_call 51; first | (refine (l6In_yes _ _ _ _ (by omega) (by omega)).mono ?_; rintro e w' ⟨rfl, rfl⟩) | (refine (l6In_no _ _ _ _ (by omega)).mono ?_; rintro e w' ⟨rfl, rfl⟩))
    go_ret
    exact ⟨_, rfl, .inl ⟨rfl, _, _, rfl, by omega⟩, al (al (Below.refl _ _) _) _⟩

set_option maxHeartbeats 1000000 in
set_option maxRecDepth 100000 in
theorem l8_yes3 (X Y G : Int) (n : Nat) (w : World) (h1 : 0 ≤ X) (h2 : X ≤ 9) (h3 : 0 ≤ Y) (h4 : Y ≤ 9) (h5 : 1 ≤ n) (h6 : n ≤ 5) (f1 : 0 ≤ X) (f2 : X + (n : Int) - 1 ≤ 9) (f3 : 0 ≤ Y + 1) (f4 : Y + 1 ≤ 9) :
    Calls Try.prog 52 #[.agg #[.int .i64 X, .int .i64 Y, .int .i64 (n : Int), .int .i64 G], .int .i64 3] w fun e w' => ∃ v, e = .returned v ∧ Own w.heap.size w'.heap.size w' v (rowOf (X) (Y + 1) n) ∧ Below w.heap.size w w' := by
  go_enter Try.func52, Try.ntmps52
  go_wp2_with (go_at_call 51; refine (l6In_yes _ _ _ _ (by omega) (by omega)).mono ?_; rintro e w' ⟨rfl, rfl⟩)
  go_loopw [7, 8] (fun v i wr => ∃ k : Nat, k ≤ n ∧ i = .int .i64 k ∧ wr.ownsRow (w.heap.size + 1) 3 1 v (rowOf (X) (Y + 1) k).length ((rowOf (X) (Y + 1) k).map (Value.int .i64)) ∧ Below (w.heap.size + 1) (w.alloc (.cells #[.int .i64 X, .int .i64 Y, .int .i64 (n : Int), .int .i64 G] 24)) wr) (fun _ i _ => n - (intOf i).toNat)
  case atStart => exact ⟨0, Nat.zero_le _, rfl, by simpa [rowOf] using (World.ownsRow_made (base := w.heap.size + 1) (e := 3) (size := 1) (w.alloc (.cells #[.int .i64 X, .int .i64 Y, .int .i64 (n : Int), .int .i64 G] 24)) #[] 0 (by simp) (by decide) rfl), (Below.refl _ _).alloc (by simp) _⟩
  case round =>
    obtain ⟨k, hk, rfl, hown, hbel⟩ := hrel
    obtain ⟨c0, c1, c2, c3⟩ := ((QAt_new w (X, Y, (n : Int), G) 24).below hbel (by omega)).zero
    have hs := hbel.size
    simp at hs
    by_cases hlt : k < n
    · have hfl : (rowOf (X) (Y + 1) k).length ≤ 1099511627776 := by rw [rowOf_length]; omega
      have E := Lib.hid (rowOf_snoc (X) (Y + 1) k)
      obtain ⟨q, hq⟩ : ∃ q, q = rowOf (X) (Y + 1) k := ⟨_, rfl⟩
      rw [← hq] at hown E hfl
      clear hq
      go_wp2_with (at_builtin; refine app_int (w.alloc (.cells #[.int .i64 X, .int .i64 Y, .int .i64 (n : Int), .int .i64 G] 24)) wr rfl _ _ rfl (w.heap.size + 1) _ q _ hown rfl rfl hfl hs hbel ?_; intro v' w1 hown1 hbel1)
      go_roundw
      case rel => exact ⟨k + 1, by omega, by go_num, by rw [← E.out]; exact hown1, hbel1⟩
      case measure => simp [intOf]; omega
    · have HO := Lib.hid hown
      have HB := Lib.hid hbel
      clear hown hbel
      go_wp2
      go_ret
      obtain rfl : n = k := by omega
      exact ⟨_, rfl, (own_of_ownsRow HO.out (Nat.le_refl _)).mono (by omega) (Nat.le_refl _), ((Below.refl _ _).alloc (Nat.le_refl _) _).trans (HB.out.mono (by omega))⟩
set_option maxHeartbeats 1000000 in
set_option maxRecDepth 100000 in
theorem l8_no3 (X Y G : Int) (n : Nat) (w : World) (h1 : 0 ≤ X) (h2 : X ≤ 9) (h3 : 0 ≤ Y) (h4 : Y ≤ 9) (h5 : 1 ≤ n) (h6 : n ≤ 5) (hf : ¬ (0 ≤ X ∧ X + (n : Int) - 1 ≤ 9 ∧ 0 ≤ Y + 1 ∧ Y + 1 ≤ 9)) :
    Calls Try.prog 52 #[.agg #[.int .i64 X, .int .i64 Y, .int .i64 (n : Int), .int .i64 G], .int .i64 3] w fun e w' => ∃ v, e = .returned v ∧ Own w.heap.size w'.heap.size w' v [] ∧ Below w.heap.size w w' := by
  rcases (show (Y + 1 < 0 ∨ 9 < Y + 1) ∨ ((0 ≤ Y + 1 ∧ Y + 1 ≤ 9) ∧ (X < 0 ∨ 10 - (n : Int) < X)) by omega) with o | ⟨⟨a1, a2⟩, o⟩
  all_goals try (exfalso; omega)
  all_goals
    clear hf
    go_enter Try.func52, Try.ntmps52
    go_wp2_with (go_at_call 51; first | (refine (l6In_yes _ _ _ _ (by omega) (by omega)).mono ?_; rintro e w' ⟨rfl, rfl⟩) | (refine (l6In_no _ _ _ _ (by omega)).mono ?_; rintro e w' ⟨rfl, rfl⟩))
    go_ret
    exact ⟨_, rfl, .inl ⟨rfl, _, _, rfl, by omega⟩, al (al (Below.refl _ _) _) _⟩

/-- l8Places at one of the four sides: the places -/
theorem l8Places_any (q : Quad) (side : Int) (w : World) (hq : LabOk q) (hs0 : 0 ≤ side) (hs3 : side ≤ 3) :
    Calls Try.prog 52 #[qv q, .int .i64 side] w fun e w' => ∃ v, e = .returned v ∧ Own w.heap.size w'.heap.size w' v (placesOf q side) ∧ Below w.heap.size w w' := by
  obtain ⟨X, Y, W, G⟩ := q
  obtain ⟨h1, h2, h3, h4, h5, h6, _, _⟩ := hq
  simp only at h1 h2 h3 h4 h5 h6
  obtain ⟨n, rfl⟩ : ∃ n : Nat, W = (n : Int) := ⟨W.toNat, by omega⟩
  rcases (show side = 0 ∨ side = 1 ∨ side = 2 ∨ side = 3 by omega) with rfl | rfl | rfl | rfl
  · have hi := fits_iff (q := (X, Y, (n : Int), G)) (side := 0) (x := X + 1) (y := Y) (by decide) (by decide) rfl rfl
    by_cases hf : Fits (X, Y, (n : Int), G) 0
    · rw [places_yes hf]
      obtain ⟨g1, g2, g3, g4⟩ := hi.1 hf
      exact l8_yes0 X Y G n w h1 h2 h3 h4 (by omega) (by omega) g1 g2 g3 g4
    · rw [places_no hf]
      exact l8_no0 X Y G n w h1 h2 h3 h4 (by omega) (by omega) (fun h => hf (hi.2 h))
  · have hi := fits_iff (q := (X, Y, (n : Int), G)) (side := 1) (x := X - (n : Int)) (y := Y) (by decide) (by decide) rfl rfl
    by_cases hf : Fits (X, Y, (n : Int), G) 1
    · rw [places_yes hf]
      obtain ⟨g1, g2, g3, g4⟩ := hi.1 hf
      exact l8_yes1 X Y G n w h1 h2 h3 h4 (by omega) (by omega) g1 g2 g3 g4
    · rw [places_no hf]
      exact l8_no1 X Y G n w h1 h2 h3 h4 (by omega) (by omega) (fun h => hf (hi.2 h))
  · have hi := fits_iff (q := (X, Y, (n : Int), G)) (side := 2) (x := X) (y := Y - 1) (by decide) (by decide) rfl rfl
    by_cases hf : Fits (X, Y, (n : Int), G) 2
    · rw [places_yes hf]
      obtain ⟨g1, g2, g3, g4⟩ := hi.1 hf
      exact l8_yes2 X Y G n w h1 h2 h3 h4 (by omega) (by omega) g1 g2 g3 g4
    · rw [places_no hf]
      exact l8_no2 X Y G n w h1 h2 h3 h4 (by omega) (by omega) (fun h => hf (hi.2 h))
  · have hi := fits_iff (q := (X, Y, (n : Int), G)) (side := 3) (x := X) (y := Y + 1) (by decide) (by decide) rfl rfl
    by_cases hf : Fits (X, Y, (n : Int), G) 3
    · rw [places_yes hf]
      obtain ⟨g1, g2, g3, g4⟩ := hi.1 hf
      exact l8_yes3 X Y G n w h1 h2 h3 h4 (by omega) (by omega) g1 g2 g3 g4
    · rw [places_no hf]
      exact l8_no3 X Y G n w h1 h2 h3 h4 (by omega) (by omega) (fun h => hf (hi.2 h))

theorem valid_one (q : Quad) : ValidL [q] ↔ LabOk q := by
  constructor
  · intro h; exact (h.2 0 (by simp)).1
  · intro h
    refine ⟨by simp, fun i hi => ?_⟩
    have : i = 0 := by simp at hi; omega
    subst this
    exact ⟨h, fun j hj => by omega⟩
/-- a slice of one struct that was just laid -/
theorem quads_one {w : World} {q : Quad} {t : TypeId} : Quads (w.alloc (.cells #[.int .i64 q.1, .int .i64 q.2.1, .int .i64 q.2.2.1, .int .i64 q.2.2.2] t)) (.slice (some ⟨w.heap.size, 0, none⟩) 1 1) [q] := by
  refine ⟨_, 1, rfl, Nat.le_refl _, by omega, fun _ => ⟨w.heap.size, 0, rfl, by simp, fun j hj => ?_⟩⟩
  have : j = 0 := by simp at hj; omega
  subst this
  exact QAt_new w q t
theorem quads_box (w : World) (q : Quad) (t1 t2 : TypeId) : Quads ((w.alloc (.cells #[.int .i64 q.1, .int .i64 q.2.1, .int .i64 q.2.2.1, .int .i64 q.2.2.2] t1)).alloc (.cells #[.int .i64 q.1, .int .i64 q.2.1, .int .i64 q.2.2.1, .int .i64 q.2.2.2] t2)) (.slice (some ⟨w.heap.size + 1, 0, none⟩) 1 1) [q] := by
  have h := quads_one (w := w.alloc (.cells #[.int .i64 q.1, .int .i64 q.2.1, .int .i64 q.2.2.1, .int .i64 q.2.2.2] t1)) (q := q) (t := t2)
  rwa [show (w.alloc (.cells #[.int .i64 q.1, .int .i64 q.2.1, .int .i64 q.2.2.1, .int .i64 q.2.2.2] t1)).heap.size = w.heap.size + 1 by simp] at h
theorem placesOf_pos {q : Quad} {side : Int} (hq : LabOk q) (hf : Fits q side) : (placesOf q side).length = q.2.2.1.toNat ∧ 1 ≤ q.2.2.1.toNat := by
  rw [places_yes hf, rowOf_length]
  obtain ⟨h1, h2, h3, h4, h5, h6, _, _⟩ := hq
  exact ⟨rfl, by omega⟩
theorem tup_bool {v : Value} {a b : Bool} (h : a = b) : Ending.returned (.tuple #[v, .bool a]) = .returned (.tuple #[v, .bool b]) := by rw [h]
/-- what LabelPlaces hands back -/
def placesAll (q : Quad) (side : Int) : List Int := if LabOk q then placesOf q side else []

set_option maxHeartbeats 1000000 in
set_option maxRecDepth 100000 in
theorem LabelPlaces_any (q : Quad) (side : Int) (w : World) :
    Calls Try.prog 14 #[qv q, .int .i64 side] w fun e w' => ∃ v, e = .returned (.tuple #[v, .bool (decide (LabOk q ∧ Fits q side))]) ∧ Own w.heap.size w'.heap.size w' v (placesAll q side) ∧ Below w.heap.size w w' := by
  by_cases hq : LabOk q
  · have hv : decide (ValidL [q]) = true := decide_eq_true ((valid_one q).2 hq)
    have HQ := Lib.hid hq
    have HV := Lib.hid hv
    have HP := Lib.hid (show placesAll q side = placesOf q side from if_pos hq)
    have HD := Lib.hid (show decide (LabOk q ∧ Fits q side) = decide (Fits q side) by simp [hq])
    clear hq hv
    go_enter Try.func14, Try.ntmps14
    go_wp2_with fail
    refine (LabelsValid_any _ [q] _ (quads_box w q _ _)).mono ?_
    rintro e w1 ⟨rfl, hb1⟩
    obtain ⟨c0, c1, c2, c3⟩ := (((QAt_new w q 24).below ((Below.refl _ _).alloc (Nat.le_refl _) _) (by simp)).below hb1 (by simp; omega)).zero
    have hs := hb1.size
    simp at hs
    have HB := Lib.hid ((al (al (Below.refl w.heap.size w) _) _).trans (hb1.mono (by simp; omega)))
    clear hb1
    rw [HV.out]
    go_wp2_with fail
    refine (lying_any q side _ HQ.out).mono ?_
    rintro e w2 ⟨v, rfl, hO, hb2⟩
    have HO := Lib.hid hO
    have HB2 := Lib.hid (HB.out.trans (hb2.mono (by omega)))
    clear hO hb2
    go_wp2
    go_ret2
    exact ⟨_, tup_bool HD.out.symm, by rw [HP.out]; exact HO.out.mono (by omega) (Nat.le_refl _), HB2.out⟩
  · have hv : decide (ValidL [q]) = false := decide_eq_false (fun h => hq ((valid_one q).1 h))
    have HV := Lib.hid hv
    have HP := Lib.hid (show placesAll q side = [] from if_neg hq)
    have HD := Lib.hid (show decide (LabOk q ∧ Fits q side) = false from decide_eq_false (fun h => hq h.1))
    clear hq hv
    go_enter Try.func14, Try.ntmps14
    go_wp2_with fail
    refine (LabelsValid_any _ [q] _ (quads_box w q _ _)).mono ?_
    rintro e w1 ⟨rfl, hb1⟩
    have HB := Lib.hid ((al (al (Below.refl w.heap.size w) _) _).trans (hb1.mono (by simp; omega)))
    clear hb1
    rw [HV.out]
    go_wp2
    go_ret2
    exact ⟨_, tup_bool HD.out.symm, by rw [HP.out]; exact .inl ⟨rfl, none, 0, rfl, by omega⟩, HB.out⟩

set_option maxHeartbeats 1000000 in
set_option maxRecDepth 100000 in
theorem specLabelPlaces_any (q : Quad) (side : Int) (w : World) :
    Calls Try.prog 15 #[qv q, .int .i64 side] w fun e w' => ∃ v, e = .returned (.tuple #[v, .bool (decide (LabOk q ∧ Fits q side))]) ∧ Own w.heap.size w'.heap.size w' v (placesAll q side) ∧ Below w.heap.size w w' := by
  by_cases hq : LabOk q
  · have hv : decide (ValidL [q]) = true := decide_eq_true ((valid_one q).2 hq)
    have HQ := Lib.hid hq
    have HV := Lib.hid hv
    by_cases hs3 : 0 ≤ side ∧ side ≤ 3
    · obtain ⟨g0, g3⟩ := hs3
      have HP := Lib.hid (show placesAll q side = placesOf q side from if_pos hq)
      have HD := Lib.hid (show decide (LabOk q ∧ Fits q side) = decide (0 < (placesOf q side).length) by
        by_cases hf : Fits q side
        · have := placesOf_pos hq hf
          rw [decide_eq_true ⟨hq, hf⟩, decide_eq_true (by omega)]
        · rw [decide_eq_false (fun h => hf h.2), places_no hf]; rfl)
      clear hq hv
      go_enter Try.func15, Try.ntmps15
      go_wp2_with fail
      refine (specLabelsValid_any _ [q] _ (quads_box w q _ _)).mono ?_
      rintro e w1 ⟨rfl, hb1⟩
      obtain ⟨c0, c1, c2, c3⟩ := (((QAt_new w q 24).below ((Below.refl _ _).alloc (Nat.le_refl _) _) (by simp)).below hb1 (by simp; omega)).zero
      have hs := hb1.size
      simp at hs
      have HB := Lib.hid ((al (al (Below.refl w.heap.size w) _) _).trans (hb1.mono (by simp; omega)))
      clear hb1
      rw [HV.out]
      go_wp2_with (go_at_call 51; refine (l6In_yes _ _ _ _ (by omega) (by omega)).mono ?_; rintro e w' ⟨rfl, rfl⟩)
      refine (l8Places_any q side _ HQ.out g0 g3).mono ?_
      rintro e w2 ⟨v, rfl, hO, hb2⟩
      obtain ⟨a, cap, hv, _⟩ := hO.ints
      have HO := Lib.hid hO
      have HB2 := Lib.hid (HB.out.trans (hb2.mono (by omega)))
      clear hO hb2
      subst hv
      go_wp2
      go_ret2
      exact ⟨_, tup_bool HD.out.symm, by rw [HP.out]; exact HO.out.mono (by omega) (Nat.le_refl _), HB2.out⟩
    · have hs3' : side < 0 ∨ 3 < side := by omega
      have HF := Lib.hid (show ¬ Fits q side from fun h => hs3 ⟨h.1, h.2.1⟩)
      have HP := Lib.hid (show placesAll q side = [] by rw [placesAll, if_pos hq, places_no HF.out])
      have HD := Lib.hid (show decide (LabOk q ∧ Fits q side) = false from decide_eq_false (fun h => HF.out h.2))
      have HS := Lib.hid hs3'
      clear hq hv hs3 hs3'
      go_enter Try.func15, Try.ntmps15
      go_wp2_with fail
      refine (specLabelsValid_any _ [q] _ (quads_box w q _ _)).mono ?_
      rintro e w1 ⟨rfl, hb1⟩
      have HB := Lib.hid ((al (al (Below.refl w.heap.size w) _) _).trans (hb1.mono (by simp; omega)))
      clear hb1
      rw [HV.out]
      go_wp2_with (go_at_call 51; refine (l6In_no _ _ _ _ HS.out).mono ?_; rintro e w' ⟨rfl, rfl⟩)
      go_ret2
      exact ⟨_, tup_bool HD.out.symm, by rw [HP.out]; exact .inl ⟨rfl, _, _, rfl, by omega⟩, al HB.out _⟩
  · have hv : decide (ValidL [q]) = false := decide_eq_false (fun h => hq ((valid_one q).1 h))
    have HV := Lib.hid hv
    have HP := Lib.hid (show placesAll q side = [] from if_neg hq)
    have HD := Lib.hid (show decide (LabOk q ∧ Fits q side) = false from decide_eq_false (fun h => hq h.1))
    clear hq hv
    go_enter Try.func15, Try.ntmps15
    go_wp2_with fail
    refine (specLabelsValid_any _ [q] _ (quads_box w q _ _)).mono ?_
    rintro e w1 ⟨rfl, hb1⟩
    have HB := Lib.hid ((al (al (Below.refl w.heap.size w) _) _).trans (hb1.mono (by simp; omega)))
    clear hb1
    rw [HV.out]
    go_wp2
    go_ret2
    exact ⟨_, tup_bool HD.out.symm, by rw [HP.out]; exact .inl ⟨rfl, _, _, rfl, by omega⟩, al HB.out _⟩
end Go.Proofs.Ytbpcjdhbbighgaa
