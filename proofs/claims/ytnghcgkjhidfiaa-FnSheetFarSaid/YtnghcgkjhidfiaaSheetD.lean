/-
  The draws of sheets' names: of, l92Sheet, SheetBeside, DrawSheetFar. Conditions: the reader has picked fewer than a thousand times.
-/
import Derived.Test.YtnghcgkjhidfiaaSheetG
import Derived.Test.YtnghcgkjhidfiaaRd
import Derived.Test.YtnghcgkjhidfiaaBytes
namespace Go.Proofs.Ytnghcgkjhidfiaa
open Go.RowKit Go.Deep
set_option linter.unusedSimpArgs false
set_option linter.unusedVariables false

theorem touch_then {lo hi : Nat} {a b c : World} (h : Touch lo hi a b) (k : Below a.heap.size b c) : Touch lo hi a c :=
  ⟨k.os.trans h.os, k.tape.trans h.tape, k.output.trans h.output, Nat.le_trans h.size k.size, fun i hi' hn => (k.block i hi').trans (h.block i hi' hn)⟩
theorem touch_cell {R F k : Nat} {w w' : World} (ht : Touch R (R + 1) w w') (h1 : R < F) (h2 : F < w.heap.size) : w'.cell? ⟨F, k, none⟩ = w.cell? ⟨F, k, none⟩ := by
  unfold World.cell?
  rw [ht.block F h2 (by omega)]

set_option maxHeartbeats 1000000 in
set_option maxRecDepth 100000 in
theorem of_any (R P F : Nat) (w : World) (h : Rd w R P) (hP : P ≤ 1000000) (h1 : R < F) (h2 : F < w.heap.size) (hc : ∀ i, i < 9 → ∃ s : List UInt8, w.cell? ⟨F, i, none⟩ = some (.string ⟨s.toArray⟩)) :
    Calls Try.prog 18 #[.pointer (some ⟨R, 0, none⟩), .slice (some ⟨F, 0, none⟩) 9 9] w fun e w' => (∃ s : List UInt8, e = .returned (.string ⟨s.toArray⟩)) ∧ Rd w' R (P + 1) ∧ Touch R (R + 1) w w' := by
  have CP := Lib.hid (pick_any R P 9 w h (by omega) (by omega) (by omega))
  have HC := Lib.hid hc
  clear hc h
  go_enter Try.func18, Try.ntmps18
  go_wp2_with fail
  refine CP.out.mono ?_
  rintro e w1 ⟨k, rfl, hk, hrd, ht⟩
  obtain ⟨s, hs⟩ := HC.out k hk
  have hs2 : w1.cell? ⟨F, k, none⟩ = some (.string ⟨s.toArray⟩) := (touch_cell ht h1 h2).trans hs
  have HRD := Lib.hid hrd
  have k0 : (0 : Int) ≤ (k : Int) := by omega
  have k1 : (k : Int) < 9 := by omega
  have HT := Lib.hid ht
  clear ht hs hrd CP HC
  go_wp2_with fail
  go_ret
  exact ⟨⟨s, rfl⟩, HRD.out, HT.out⟩

set_option maxHeartbeats 1000000 in
set_option maxRecDepth 100000 in
theorem l92Sheet_any (R P : Nat) (w : World) (h : Rd w R P) (hP : P ≤ 1000) :
    Calls Try.prog 10 #[.pointer (some ⟨R, 0, none⟩)] w fun e w' => (∃ s : List UInt8, e = .returned (.string ⟨s.toArray⟩)) ∧ ∃ P', P' ≤ P + 3 ∧ Rd w' R P' ∧ Touch R (R + 1) w w' := by
  have hlt := h.lt
  have CP := Lib.hid (pick_any R P 12 w h (by omega) (by omega) (by omega))
  clear h
  go_enter Try.func10, Try.ntmps10
  go_wp2_with fail
  refine CP.out.mono ?_
  rintro e w1 ⟨k, rfl, hk, hrd, ht⟩
  have HRD := Lib.hid hrd
  have HT := Lib.hid ht
  have s1 := ht.size
  clear ht hrd CP
  by_cases hz : k = 0
  · have q0 : ((k : Int) == 0) = true := by simp; omega
    clear hz
    go_wp2_with fail
    refine (of_any R (P + 1) w1.heap.size _ ?_ (by omega) HRD.out.lt (by simp) ?_).mono ?_
    · exact HRD.out.below ((Below.refl _ _).alloc (Nat.le_refl _) _) HRD.out.lt
    · intro i hi
      match i, hi with
      | 0, _ => exact ⟨[], by simp⟩
      | 1, _ => exact ⟨[65], by simp⟩
      | 2, _ => exact ⟨[65, 48], by simp⟩
      | 3, _ => exact ⟨[65, 50, 55], by simp⟩
      | 4, _ => exact ⟨[67, 48, 49, 50], by simp⟩
      | 5, _ => exact ⟨[99, 49, 50], by simp⟩
      | 6, _ => exact ⟨[90, 50, 54], by simp⟩
      | 7, _ => exact ⟨[65, 49], by simp⟩
      | 8, _ => exact ⟨[65, 65], by simp⟩
    · rintro e w2 ⟨⟨s, rfl⟩, hr2, ht2⟩
      have HR2 := Lib.hid hr2
      have HT2 := Lib.hid ((touch_then HT.out ((Below.refl w.heap.size w1).alloc s1 _)).trans ht2)
      clear hr2 ht2
      go_wp2_with fail
      go_ret
      exact ⟨⟨s, rfl⟩, _, by omega, HR2.out, HT2.out⟩
  · have q0 : ((k : Int) == 0) = false := by simp; omega
    clear hz
    go_wp2_with fail
    refine (pick_any R (P + 1) 26 _ HRD.out (by omega) (by omega) (by omega)).mono ?_
    rintro e w2 ⟨c, rfl, hc, hr2, ht2⟩
    have HR2 := Lib.hid hr2
    have HT2 := Lib.hid (HT.out.trans ht2)
    clear hr2 ht2
    go_wp2_with fail
    refine (pick_any R (P + 1 + 1) 26 _ HR2.out (by omega) (by omega) (by omega)).mono ?_
    rintro e w3 ⟨r, rfl, hr, hr3, ht3⟩
    have HR3 := Lib.hid hr3
    have HT3 := Lib.hid (HT2.out.trans ht3)
    clear hr3 ht3
    go_wp2_with fail
    refine (l7Name_any c r _ (by omega) (by omega)).mono ?_
    rintro e w4 ⟨rfl, hb4⟩
    have HR4 := Lib.hid (HR3.out.below hb4 HR3.out.lt)
    have HT4 := Lib.hid (touch_then HT3.out (hb4.mono HT3.out.size))
    obtain ⟨L, hL⟩ : ∃ L, L = nameL c r := ⟨_, rfl⟩
    rw [← hL]
    clear hb4 hL
    go_wp2_with fail
    go_ret
    exact ⟨⟨L, rfl⟩, _, by omega, HR4.out, HT4.out⟩

theorem l6In_any (n a b : Int) (w : World) :
    Calls Try.prog 20 #[.int .i64 n, .int .i64 a, .int .i64 b] w fun e w' => e = .returned (.bool (decide (a ≤ n ∧ n ≤ b))) ∧ w' = w := by
  by_cases h1 : a ≤ n
  · by_cases h2 : n ≤ b
    · go_enter Try.func20, Try.ntmps20
      go_wp2
      go_ret
      exact ⟨by simp [h1, h2], rfl⟩
    · go_enter Try.func20, Try.ntmps20
      go_wp2
      go_ret
      exact ⟨by simp [h1, h2]; try omega, rfl⟩
  · go_enter Try.func20, Try.ntmps20
    go_wp2
    go_ret
    exact ⟨by simp [h1]; try omega, rfl⟩

set_option maxHeartbeats 1000000 in
set_option maxRecDepth 100000 in
theorem SheetBeside_any (s : List UInt8) (dx dy : Int) (w : World) (x1 : -3 ≤ dx) (x2 : dx ≤ 3) (y1 : -3 ≤ dy) (y2 : dy ≤ 3) :
    Calls Try.prog 11 #[.string ⟨s.toArray⟩, .int .i64 dx, .int .i64 dy] w fun e w' => (∃ (t : List UInt8) (b : Bool), e = .returned (.tuple #[.string ⟨t.toArray⟩, .bool b])) ∧ Below w.heap.size w w' := by
  have CA := Lib.hid (l7Find_any s w)
  go_enter Try.func11, Try.ntmps11
  go_wp2_with fail
  refine CA.out.mono ?_
  rintro e w1 ⟨hA, hb1⟩
  have HB1 := Lib.hid hb1
  clear hb1 CA
  rcases hA with ⟨c, r, hA, rfl⟩ | ⟨hA, rfl⟩
  · have b1 := hA.1
    have b2 := hA.2.1
    clear hA
    have e1 : IntKind.i64.wrap (0 - (c : Int)) = -(c : Int) := by rw [IntWalk.i64_in _ (by omega)]; omega
    have e1' : IntKind.i64.wrap (-(c : Int)) = -(c : Int) := by rw [IntWalk.i64_in _ (by omega)]
    have e2 : IntKind.i64.wrap (25 - (c : Int)) = 25 - (c : Int) := by rw [IntWalk.i64_in _ (by omega)]
    have e3 : IntKind.i64.wrap (0 - (r : Int)) = -(r : Int) := by rw [IntWalk.i64_in _ (by omega)]; omega
    have e3' : IntKind.i64.wrap (-(r : Int)) = -(r : Int) := by rw [IntWalk.i64_in _ (by omega)]
    have e4 : IntKind.i64.wrap (25 - (r : Int)) = 25 - (r : Int) := by rw [IntWalk.i64_in _ (by omega)]
    have I1 := fun W => Lib.hid (l6In_any dx (-(c : Int)) (25 - (c : Int)) W)
    have I2 := fun W => Lib.hid (l6In_any dy (-(r : Int)) (25 - (r : Int)) W)
    by_cases c1 : -(c : Int) ≤ dx ∧ dx ≤ 25 - (c : Int)
    · rw [decide_eq_true c1] at I1
      by_cases c2 : -(r : Int) ≤ dy ∧ dy ≤ 25 - (r : Int)
      · rw [decide_eq_true c2] at I2
        obtain ⟨m, hm⟩ : ∃ m : Nat, (c : Int) + dx = m := ⟨((c : Int) + dx).toNat, by omega⟩
        obtain ⟨n, hn⟩ : ∃ n : Nat, (r : Int) + dy = n := ⟨((r : Int) + dy).toNat, by omega⟩
        have e5 : IntKind.i64.wrap ((c : Int) + dx) = (m : Int) := by rw [hm, IntWalk.i64_in _ (by omega)]
        have e6 : IntKind.i64.wrap ((r : Int) + dy) = (n : Int) := by rw [hn, IntWalk.i64_in _ (by omega)]
        have CN := fun W => Lib.hid (l7Name_any m n W (by omega) (by omega))
        obtain ⟨L, hL⟩ : ∃ L, L = nameL m n := ⟨_, rfl⟩
        rw [← hL] at CN
        clear hL hm hn c1 c2 x1 x2 y1 y2
        go_wp2_with (first | (go_at_call 20; with_reducible refine (I1 _).out.mono ?_; rintro e w4 ⟨rfl, rfl⟩) | (go_at_call 20; with_reducible refine (I2 _).out.mono ?_; rintro e w4 ⟨rfl, rfl⟩) | (go_at_call 19; with_reducible refine (CN _).out.mono ?_; rintro e w5 ⟨rfl, hb5⟩; have HB5 := Lib.hid (HB1.out.trans (hb5.mono HB1.out.size)); clear hb5))
        exact bodyPost_ret (v := .tuple #[.string ⟨List.toArray (L : List UInt8)⟩, .bool true]) (by simp [results, Try.results11, go_sem]) rfl ⟨⟨L, true, rfl⟩, HB5.out⟩
      · rw [decide_eq_false c2] at I2
        clear c1 c2 x1 x2 y1 y2
        go_wp2_with (first | (go_at_call 20; with_reducible refine (I1 _).out.mono ?_; rintro e w4 ⟨rfl, rfl⟩) | (go_at_call 20; with_reducible refine (I2 _).out.mono ?_; rintro e w4 ⟨rfl, rfl⟩))
        exact bodyPost_ret (v := .tuple #[.string ⟨List.toArray ([] : List UInt8)⟩, .bool false]) (by simp [results, Try.results11, go_sem]) rfl ⟨⟨[], false, rfl⟩, HB1.out⟩
    · rw [decide_eq_false c1] at I1
      clear c1 x1 x2 y1 y2
      go_wp2_with (go_at_call 20; with_reducible refine (I1 _).out.mono ?_; rintro e w4 ⟨rfl, rfl⟩)
      exact bodyPost_ret (v := .tuple #[.string ⟨List.toArray ([] : List UInt8)⟩, .bool false]) (by simp [results, Try.results11, go_sem]) rfl ⟨⟨[], false, rfl⟩, HB1.out⟩
  · clear hA
    go_wp2_with fail
    exact bodyPost_ret (v := .tuple #[.string ⟨List.toArray ([] : List UInt8)⟩, .bool false]) (by simp [results, Try.results11, go_sem]) rfl ⟨⟨[], false, rfl⟩, HB1.out⟩

set_option maxHeartbeats 1000000 in
set_option maxRecDepth 100000 in
theorem DrawSheetFar_any (v : Value) (n : Nat) (w : World) (h : Bytes w v n) :
    Calls Try.prog 4 #[v] w fun e w' => ∃ a b : List UInt8, e = .returned (.tuple #[.string ⟨a.toArray⟩, .string ⟨b.toArray⟩]) ∧ Below w.heap.size w w' := by
  have CO := Lib.hid (l6Open_any v n w h)
  clear h
  go_enter Try.func4, Try.ntmps4
  go_wp2_with fail
  refine CO.out.mono ?_
  rintro e w1 ⟨rfl, hrd, hb1⟩
  obtain ⟨R, hR⟩ : ∃ R, R = w.heap.size := ⟨_, rfl⟩
  have HRE := Lib.hid hR
  have B1 := Lib.hid hb1
  rw [← hR] at hrd ⊢
  have H1 := Lib.hid hrd
  have l1 := hrd.lt
  clear hrd hb1 CO hR
  go_wp2_with fail
  refine (l92Sheet_any R 0 _ H1.out (by omega)).mono ?_
  rintro e w2 ⟨⟨a, rfl⟩, P2, hP2, hr2, ht2⟩
  have H2 := Lib.hid hr2
  have B2 := Lib.hid (B1.out.trans (ht2.below (Nat.le_of_eq HRE.out.symm) (by rw [← HRE.out]; omega)))
  have l2 := hr2.lt
  clear hr2 ht2
  go_wp2_with fail
  refine (pick_any R P2 7 _ H2.out (by omega) (by omega) (by omega)).mono ?_
  rintro e w3 ⟨x, rfl, hx, hr3, ht3⟩
  have H3 := Lib.hid hr3
  have B3 := Lib.hid (B2.out.trans (ht3.below (Nat.le_of_eq HRE.out.symm) (by rw [← HRE.out]; omega)))
  have l3 := hr3.lt
  clear hr3 ht3
  have e1 : IntKind.i64.wrap ((x : Int) - 3) = (x : Int) - 3 := IntWalk.i64_in _ (by omega)
  go_wp2_with fail
  refine (pick_any R (P2 + 1) 7 _ H3.out (by omega) (by omega) (by omega)).mono ?_
  rintro e w4 ⟨y, rfl, hy, hr4, ht4⟩
  have H4 := Lib.hid hr4
  have B4 := Lib.hid (B3.out.trans (ht4.below (Nat.le_of_eq HRE.out.symm) (by rw [← HRE.out]; omega)))
  have l4 := hr4.lt
  clear hr4 ht4
  have e2 : IntKind.i64.wrap ((y : Int) - 3) = (y : Int) - 3 := IntWalk.i64_in _ (by omega)
  go_wp2_with fail
  refine (SheetBeside_any a _ _ _ (by omega) (by omega) (by omega) (by omega)).mono ?_
  rintro e w5 ⟨⟨t, b, rfl⟩, hb5⟩
  have H5 := Lib.hid (H4.out.below hb5 H4.out.lt)
  have B5 := Lib.hid (B4.out.trans (hb5.mono (by rw [← HRE.out]; omega)))
  have l5 := H5.out.lt
  clear hb5
  cases b with
  | true =>
    go_wp2_with fail
    refine (pick_any R (P2 + 1 + 1) 2 _ H5.out (by omega) (by omega) (by omega)).mono ?_
    rintro e w6 ⟨k, rfl, hk, hr6, ht6⟩
    have H6 := Lib.hid hr6
    have B6 := Lib.hid (B5.out.trans (ht6.below (Nat.le_of_eq HRE.out.symm) (by rw [← HRE.out]; omega)))
    have l6 := hr6.lt
    clear hr6 ht6
    by_cases hz : k = 0
    · have q0 : ((k : Int) == 0) = true := by simp; omega
      clear hz
      go_wp2_with fail
      exact bodyPost_ret (v := .tuple #[.string ⟨a.toArray⟩, .string ⟨t.toArray⟩]) (by simp [results, Try.results4, go_sem]) rfl ⟨a, t, rfl, B6.out⟩
    · have q0 : ((k : Int) == 0) = false := by simp; omega
      clear hz
      go_wp2_with fail
      refine (l92Sheet_any R _ _ H6.out (by omega)).mono ?_
      rintro e w7 ⟨⟨z, rfl⟩, P7, -, -, ht7⟩
      have B7 := Lib.hid (B6.out.trans (ht7.below (Nat.le_of_eq HRE.out.symm) (by rw [← HRE.out]; omega)))
      clear ht7
      go_wp2_with fail
      exact bodyPost_ret (v := .tuple #[.string ⟨a.toArray⟩, .string ⟨z.toArray⟩]) (by simp [results, Try.results4, go_sem]) rfl ⟨a, z, rfl, B7.out⟩
  | false =>
    go_wp2_with fail
    refine (l92Sheet_any R _ _ H5.out (by omega)).mono ?_
    rintro e w7 ⟨⟨z, rfl⟩, P7, -, -, ht7⟩
    have B7 := Lib.hid (B5.out.trans (ht7.below (Nat.le_of_eq HRE.out.symm) (by rw [← HRE.out]; omega)))
    clear ht7
    go_wp2_with fail
    exact bodyPost_ret (v := .tuple #[.string ⟨a.toArray⟩, .string ⟨z.toArray⟩]) (by simp [results, Try.results4, go_sem]) rfl ⟨a, z, rfl, B7.out⟩
end Go.Proofs.Ytnghcgkjhidfiaa
