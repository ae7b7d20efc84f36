/-
  Sheets' distance: impl.apart, corner, SheetFrom, SheetFar; spec.l7Size, l7Gap, SheetFar. No condition.
-/
import Derived.Test.YtnghcgkjhidfiaaSheetI
import Derived.Deep.RegionWith
import Derived.BigQuiet
namespace Go.Proofs.Ytnghcgkjhidfiaa
open Go.RowKit Go.Deep
set_option linter.unusedSimpArgs false
set_option linter.unusedVariables false

def dist (a b : Nat) : Nat := (a - b) + (b - a)
def gapZ (d : Nat) : Int := if d = 0 then 0 else 4 * (d : Int) - 3

theorem apart_any (a b : Nat) (w : World) (ha : a ≤ 100) (hb : b ≤ 100) :
    Calls Try.prog 14 #[.int .i64 (a : Int), .int .i64 (b : Int)] w fun e w' => e = .returned (.int .i64 (dist a b : Int)) ∧ w' = w := by
  by_cases h : a < b
  · have t1 : (a : Int) < (b : Int) := by omega
    have t2 : ¬ (b : Int) < (a : Int) := by omega
    have e1 : IntKind.i64.wrap ((b : Int) - (a : Int)) = (dist a b : Int) := by rw [IntWalk.i64_in _ (by omega)]; unfold dist; omega
    clear h
    go_enter Try.func14, Try.ntmps14
    go_wp2
    go_ret
    exact ⟨rfl, rfl⟩
  · by_cases h2 : b < a
    · have t1 : (b : Int) < (a : Int) := by omega
      have t2 : ¬ (a : Int) < (b : Int) := by omega
      have e1 : IntKind.i64.wrap ((a : Int) - (b : Int)) = (dist a b : Int) := by rw [IntWalk.i64_in _ (by omega)]; unfold dist; omega
      clear h h2
      go_enter Try.func14, Try.ntmps14
      go_wp2
      go_ret
      exact ⟨rfl, rfl⟩
    · obtain rfl : a = b := by omega
      have t1 : ¬ (a : Int) < (a : Int) := by omega
      have e1 : IntKind.i64.wrap ((a : Int) - (a : Int)) = (dist a a : Int) := by rw [IntWalk.i64_in _ (by omega)]; unfold dist; omega
      have e2 : IntKind.i64.wrap 0 = (dist a a : Int) := by rw [IntWalk.i64_in _ (by omega)]; unfold dist; omega
      clear h h2
      go_enter Try.func14, Try.ntmps14
      go_wp2
      go_ret
      exact ⟨by unfold dist; simp, rfl⟩

theorem size_place : (Try.prog.info? 42).map (·.size) = some 2 := by kernel_rfl
abbrev pv (x y : Int) : Value := .agg #[.int .i64 x, .int .i64 y]
theorem corner_any (c r : Nat) (w : World) (hc : c ≤ 100) (hr : r ≤ 100) :
    Calls Try.prog 17 #[sv c r] w fun e w' => e = .returned (pv ((4 * c : Nat) : Int) ((4 * r : Nat) : Int)) ∧ Below w.heap.size w w' := by
  have e1 : IntKind.i64.wrap ((c : Int) * 4) = ((4 * c : Nat) : Int) := by rw [IntWalk.i64_in _ (by omega)]; omega
  have e2 : IntKind.i64.wrap ((r : Int) * 4) = ((4 * r : Nat) : Int) := by rw [IntWalk.i64_in _ (by omega)]; omega
  obtain ⟨x, hx⟩ : ∃ x, x = 4 * c := ⟨_, rfl⟩
  obtain ⟨y, hy⟩ : ∃ y, y = 4 * r := ⟨_, rfl⟩
  rw [← hx] at e1 ⊢
  rw [← hy] at e2 ⊢
  clear hx hy
  go_enter Try.func17, Try.ntmps17
  go_wp2
  refine bodyPost_ret (v := pv x y) ?_ rfl ⟨rfl, ((Below.refl _ _).alloc (Nat.le_refl _) _).alloc (by simp) _⟩
  exact results_cell_row rfl _ _ (w.heap.size + 1) 42 #[.int .i64 x, .int .i64 y] (0, 0) _ rfl (by simpa using heap_alloc_new (w.alloc (.cells #[.int .i64 r, .int .i64 c] 36)) (.cells #[.int .i64 x, .int .i64 y] 42)) Try.underlying42 rfl size_place

theorem l7Size_any (n : Int) (w : World) (h1 : -1000 ≤ n) (h2 : n ≤ 1000) :
    Calls Try.prog 22 #[.int .i64 n] w fun e w' => e = .returned (.int .i64 (n.natAbs : Int)) ∧ w' = w := by
  have e1 : IntKind.i64.wrap (0 - n) = -n := by rw [IntWalk.i64_in _ (by omega)]; omega
  have e2 : IntKind.i64.wrap (-n) = -n := by rw [IntWalk.i64_in _ (by omega)]
  by_cases h : n < -n
  · have E : Hid ((n.natAbs : Int) = -n) := by show _ = _; omega
    rw [E.out]
    go_enter Try.func22, Try.ntmps22
    go_wp2
    go_ret
    exact ⟨by simp [h], rfl⟩
  · have E : Hid ((n.natAbs : Int) = n) := by show _ = _; omega
    rw [E.out]
    go_enter Try.func22, Try.ntmps22
    go_wp2
    go_ret
    exact ⟨by simp [h], rfl⟩
theorem sizeOf_any (n : Int) (w : World) (h1 : -1000 ≤ n) (h2 : n ≤ 1000) :
    Calls Try.prog 8 #[.int .i64 n] w fun e w' => e = .returned (.int .i64 (n.natAbs : Int)) ∧ w' = w := by
  have e1 : IntKind.i64.wrap (0 - n) = -n := by rw [IntWalk.i64_in _ (by omega)]; omega
  have e2 : IntKind.i64.wrap (-n) = -n := by rw [IntWalk.i64_in _ (by omega)]
  by_cases h : n < -n
  · have E : Hid ((n.natAbs : Int) = -n) := by show _ = _; omega
    rw [E.out]
    go_enter Try.func8, Try.ntmps8
    go_wp2
    go_ret
    exact ⟨by simp [h], rfl⟩
  · have E : Hid ((n.natAbs : Int) = n) := by show _ = _; omega
    rw [E.out]
    go_enter Try.func8, Try.ntmps8
    go_wp2
    go_ret
    exact ⟨by simp [h], rfl⟩

set_option maxHeartbeats 1000000 in
theorem l7Gap_any (a b : Nat) (w : World) (ha : a ≤ 100) (hb : b ≤ 100) :
    Calls Try.prog 16 #[.int .i64 (a : Int), .int .i64 (b : Int)] w fun e w' => e = .returned (.int .i64 (gapZ (dist a b))) ∧ w' = w := by
  have D : ((a : Int) - (b : Int)).natAbs = dist a b := by unfold dist; omega
  have LS := fun W => Lib.hid (l7Size_any ((a : Int) - (b : Int)) W (by omega) (by omega))
  obtain ⟨z, hz⟩ : ∃ z : Int, z = (a : Int) - (b : Int) := ⟨_, rfl⟩
  rw [D] at LS
  have hd : dist a b ≤ 200 := by unfold dist; omega
  obtain ⟨d, hdd⟩ : ∃ d, d = dist a b := ⟨_, rfl⟩
  rw [← hdd] at LS hd ⊢
  have e1 : IntKind.i64.wrap ((a : Int) - (b : Int)) = z := by rw [hz]; rw [IntWalk.i64_in _ (by omega)]
  rw [← hz] at LS
  clear hz hdd D
  have e2 : IntKind.i64.wrap ((d : Int) * 4) = (d : Int) * 4 := IntWalk.i64_in _ (by omega)
  have e3 : IntKind.i64.wrap ((d : Int) * 4 - 4) = (d : Int) * 4 - 4 := IntWalk.i64_in _ (by omega)
  obtain ⟨y, hy⟩ : ∃ y : Int, y = (d : Int) * 4 - 4 + 1 := ⟨_, rfl⟩
  have e4 : IntKind.i64.wrap ((d : Int) * 4 - 4 + 1) = y := by rw [hy]; exact IntWalk.i64_in _ (by omega)
  by_cases h : 0 < y
  · have G : Hid (gapZ d = y) := by show _ = _; unfold gapZ; rw [if_neg (by omega)]; omega
    rw [G.out]
    clear hy
    go_enter Try.func16, Try.ntmps16
    go_wp2_with (go_at_call 22; refine (LS _).out.mono ?_; rintro e w1 ⟨rfl, rfl⟩)
    go_ret
    exact ⟨by simp [h], rfl⟩
  · have G : Hid (gapZ d = 0) := by show _ = _; unfold gapZ; rw [if_pos (by omega)]
    rw [G.out]
    clear hy
    go_enter Try.func16, Try.ntmps16
    go_wp2_with (go_at_call 22; refine (LS _).out.mono ?_; rintro e w1 ⟨rfl, rfl⟩)
    go_ret
    exact ⟨by simp [h], rfl⟩
end Go.Proofs.Ytnghcgkjhidfiaa
