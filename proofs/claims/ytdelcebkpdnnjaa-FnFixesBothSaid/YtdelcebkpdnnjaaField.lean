/-
  Fields (a grid as one list): index, at, blank, fieldOf. Conditions: sizes up to 7.
-/
import Derived.Test.YtdelcebkpdnnjaaGrid
import Derived.Lib.QuietBelow
import Derived.Deep.RegionHeld3
import Derived.Deep.WholeRow
namespace Go.Proofs.Ytdelcebkpdnnjaa
open Go.RowKit Go.Deep Go.Sort

/-- a field's value -/
abbrev fv (r c : Int) (v : Value) : Value := .agg #[.int .i64 r, .int .i64 c, v]

theorem size_field : (Try.prog.info? 64).map (·.size) = some 3 := by kernel_rfl

theorem wrap_small {x : Int} (h1 : -1000000 ≤ x) (h2 : x ≤ 1000000) : IntKind.i64.wrap x = x := by
  exact IntWalk.i64_in _ (by omega)

theorem mul_small (i c : Nat) (hi : i ≤ 100) (hc : c ≤ 100) : 0 ≤ (i : Int) * (c : Int) ∧ (i : Int) * (c : Int) ≤ 10000 := by
  have := Nat.mul_le_mul hi hc
  have e : (i : Int) * (c : Int) = ((i * c : Nat) : Int) := by simp
  omega

set_option maxRecDepth 100000 in
theorem index_any (r : Int) (c : Nat) (i j n : Nat) (v : Value) (hv : ∃ a n k, v = .slice a n k) (w : World) (hi : i ≤ 100) (hc : c ≤ 100) (hj : j ≤ 100) (hn : n = i * c + j) :
    Calls Try.prog 47 #[fv r c v, .int .i64 i, .int .i64 j] w fun e w' => e = .returned (.int .i64 n) ∧ Below w.heap.size w w' := by
  obtain ⟨a, nn, k, rfl⟩ := hv
  have HN := Lib.hid (show (i : Int) * (c : Int) + (j : Int) = n by rw [hn]; simp)
  clear hn
  obtain ⟨hm1, hm2⟩ := mul_small i c hi hc
  have hw1 := wrap_small (x := (i : Int) * (c : Int)) (by omega) (by omega)
  have hw2 := wrap_small (x := (i : Int) * (c : Int) + (j : Int)) (by omega) (by omega)
  go_enter Try.func47, Try.ntmps47
  go_wp2
  go_ret
  exact ⟨ret_int HN.out, (Below.refl _ _).alloc (Nat.le_refl _) _⟩

theorem isHeight_yes (h : Int) (w : World) (h1 : 0 ≤ h) (h2 : h ≤ 99) :
    Calls Try.prog 94 #[.int .i64 h] w fun e w' => e = .returned (.bool true) ∧ w' = w := by
  have t1 : decide (h ≤ 99) = true := decide_eq_true (by omega)
  go_enter Try.func94, Try.ntmps94
  go_wp2
  go_ret
  exact ⟨rfl, rfl⟩
theorem isHeight_no (h : Int) (w : World) (hn : ¬ (0 ≤ h ∧ h ≤ 99)) :
    Calls Try.prog 94 #[.int .i64 h] w fun e w' => e = .returned (.bool false) ∧ w' = w := by
  by_cases h1 : 0 ≤ h
  · have t1 : decide (h ≤ 99) = false := decide_eq_false (by omega)
    clear hn
    go_enter Try.func94, Try.ntmps94
    go_wp2
    go_ret
    exact ⟨rfl, rfl⟩
  · clear hn
    go_enter Try.func94, Try.ntmps94
    go_wp2
    go_ret
    exact ⟨rfl, rfl⟩

set_option maxHeartbeats 1000000 in
set_option maxRecDepth 100000 in
theorem blank_any (r c : Nat) (w : World) (hr : r ≤ 100) (hc : c ≤ 100) :
    Calls Try.prog 93 #[.int .i64 r, .int .i64 c] w fun e w' => e = .returned (fv r c (.slice (some ⟨w.heap.size + 1, 0, none⟩) (r * c) (r * c))) ∧
      w'.rowIs (w.heap.size + 1) 3 (r * c) (fun _ => .int .i64 0) ∧ Below w.heap.size w w' := by
  obtain ⟨hm1, hm2⟩ := mul_small r c hr hc
  obtain ⟨n, hnn⟩ : ∃ n : Nat, n = r * c := ⟨_, rfl⟩
  have hn : (r : Int) * (c : Int) = (n : Int) := by rw [hnn]; simp
  have hw1 : IntKind.i64.wrap ((r : Int) * (c : Int)) = (n : Int) := (wrap_small (by omega) (by omega)).trans hn
  have hn1 : n ≤ 10000 := by omega
  rw [← hnn]
  clear hnn hn hm1 hm2
  have hmk := run_make_row' (P := Try.prog) 27 3 (.int .i64 0) 8 Try.underlying27 info_int rfl .i64 .i64 n (by omega) (by omega)
  go_enter Try.func93, Try.ntmps93
  go_wp2
  refine bodyPost_ret (v := fv r c (.slice (some ⟨w.heap.size + 1, 0, none⟩) n n)) ?_ rfl ?_
  · exact results_cell_row rfl _ _ w.heap.size 64 #[.int .i64 r, .int .i64 c, .slice (some ⟨w.heap.size + 1, 0, none⟩) n n] (0, 0) _ rfl ((heap_alloc_old _ _ (by simp)).trans (heap_alloc_new _ _)) Try.underlying64 rfl size_field
  refine ⟨rfl, ?_, ((Below.refl _ _).alloc (Nat.le_refl _) _).alloc (by simp) _⟩
  have h := World.rowIs_made (w.alloc (.cells #[.int .i64 r, .int .i64 c, .slice (some ⟨w.heap.size + 1, 0, none⟩) n n] 64)) (.int .i64 0) n 3
  simpa using h

set_option maxHeartbeats 1000000 in
set_option maxRecDepth 100000 in
theorem at_any (r : Int) (c : Nat) (i j : Nat) (v : Value) (l : List Int) (w : World) (h : Ints w v l) (hi : i ≤ 100) (hc : c ≤ 100) (hj : j ≤ 100) (hlt : i * c + j < l.length) :
    Calls Try.prog 53 #[fv r c v, .int .i64 i, .int .i64 j] w fun e w' => e = .returned (.int .i64 (l[i * c + j]?.getD 0)) ∧ Below w.heap.size w w' := by
  obtain ⟨a, cap, rfl, h1, h2, h3⟩ := h
  obtain ⟨b, off, rfl, hb, hcell⟩ := h3 (by omega)
  have hx := hcell _ hlt
  have e1 : ((i : Int) * (c : Int) + (j : Int)) = ((i * c + j : Nat) : Int) := by simp
  obtain ⟨n, hn⟩ : ∃ n : Nat, n = i * c + j := ⟨_, rfl⟩
  rw [← hn] at hlt hx
  have HN := Lib.hid hn
  clear e1
  obtain ⟨y, hy⟩ : ∃ y, y = l[n]?.getD 0 := ⟨_, rfl⟩
  rw [← hn, ← hy]
  clear hn
  rw [← hy] at hx
  clear hy hcell h3
  go_enter Try.func53, Try.ntmps53
  go_wp2
  obtain ⟨W, hW⟩ : ∃ W, W = w.alloc (.cells #[.int .i64 r, .int .i64 c, .slice (some ⟨b, off, none⟩) l.length cap] 64) := ⟨_, rfl⟩
  have hbW : Below w.heap.size w W := by rw [hW]; exact (Below.refl _ _).alloc (Nat.le_refl _) _
  have k0 := cell_regrown (w := W) (a := ⟨w.heap.size, 0, none⟩) (v := .int .i64 r) (by rw [hW]; simp)
  have k1 := cell_regrown (w := W) (a := ⟨w.heap.size, 1, none⟩) (v := .int .i64 c) (by rw [hW]; simp)
  have k2 := cell_regrown (w := W) (a := ⟨w.heap.size, 2, none⟩) (v := .slice (some ⟨b, off, none⟩) l.length cap) (by rw [hW]; simp)
  have kx := cell_regrown ((hbW.cell (p := ⟨b, off + n, none⟩) hb).trans hx)
  rw [← hW]
  have cA : ∀ d os, Calls Try.prog 47 #[fv r c (.slice (some ⟨b, off, none⟩) l.length cap), .int .i64 i, .int .i64 j] (grow (redrawn W d) os) fun e w'' => e = .returned (.int .i64 n) ∧ ∃ p : Regrown, w'' = grow (redrawn W p.d) p.os := fun d os => Calls.regrown_of (index_any r c i j n _ ⟨_, _, _, rfl⟩ _ hi hc hj HN.out)
  clear hW hx
  refine wp_region_quiet_below (by kernel_rfl) (by kernel_rfl) ?_
  repeat (quiet_step (exact cA _ _))
  refine wpQuiet_nil ?_
  intro _ hw'
  obtain ⟨⟨dq, osq⟩, hw''⟩ := hw'
  subst hw''
  have hbq := below_regrown W dq osq
  go_wp2
  go_ret
  exact ⟨rfl, hbW.trans (hbq.mono hbW.size)⟩
end Go.Proofs.Ytdelcebkpdnnjaa
