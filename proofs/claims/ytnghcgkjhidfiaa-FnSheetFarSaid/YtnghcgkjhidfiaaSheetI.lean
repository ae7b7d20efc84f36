/-
  impl's sheets: there, sheetNamed. No condition.
-/
import Derived.Test.YtnghcgkjhidfiaaSheet
namespace Go.Proofs.Ytnghcgkjhidfiaa
open Go.RowKit Go.Deep
set_option linter.unusedSimpArgs false
set_option linter.unusedVariables false

/-- the value of a sheet -/
abbrev sv (c r : Int) : Value := .agg #[.int .i64 r, .int .i64 c]
theorem size_sheet : (Try.prog.info? 36).map (·.size) = some 2 := by kernel_rfl

set_option maxHeartbeats 1000000 in
set_option maxRecDepth 100000 in
theorem there_any (c r : Int) (w : World) :
    Calls Try.prog 21 #[sv c r] w fun e w' => e = .returned (.bool (decide (0 ≤ r ∧ r < 26 ∧ 0 ≤ c ∧ c < 26))) ∧ w' = w.alloc (.cells #[.int .i64 r, .int .i64 c] 36) := by
  by_cases h1 : 0 ≤ r
  · by_cases h2 : r < 26
    · by_cases h3 : 0 ≤ c
      · by_cases h4 : c < 26
        · go_enter Try.func21, Try.ntmps21
          go_wp2
          go_ret
          exact ⟨by simp [h1, h2, h3, h4], rfl⟩
        · go_enter Try.func21, Try.ntmps21
          go_wp2
          go_ret
          exact ⟨by simp [h1, h2, h3, h4], rfl⟩
      · go_enter Try.func21, Try.ntmps21
        go_wp2
        go_ret
        exact ⟨by simp [h1, h2, h3]; omega, rfl⟩
    · go_enter Try.func21, Try.ntmps21
      go_wp2
      go_ret
      exact ⟨by simp [h1, h2]; omega, rfl⟩
  · go_enter Try.func21, Try.ntmps21
    go_wp2
    go_ret
    exact ⟨by simp [h1]; omega, rfl⟩

/-- a letter and one digit -/
def Two (x n : Nat) : Prop := 65 ≤ x ∧ x < 91 ∧ 49 ≤ n ∧ n ≤ 57
/-- what sheetNamed answers -/
def Named (s : List UInt8) (e : Ending) : Prop :=
  (∃ c r : Nat, IsName s c r ∧ e = .returned (.tuple #[sv c r, .bool true])) ∨ ((∀ c r, ¬ IsName s c r) ∧ e = .returned (.tuple #[sv 0 0, .bool false]))

theorem idx_of (s : List UInt8) (k : Nat) (b : UInt8) (h : s[k]? = some b) (W : World) : (Instr.index 9 (.string ⟨s.toArray⟩) (.int .i64 (k : Int))).run Try.prog W = .ok (.int .u8 (b.toNat : Int)) W := by
  have hk : k < s.length := (List.getElem?_eq_some_iff.mp h).1
  have he := (List.getElem?_eq_some_iff.mp h).2
  rw [run_index_string (h := Try.underlying9), dif_pos ⟨by omega, by show (k : Int) < (s.toArray.size : Int); simp; exact hk⟩]
  congr 2
  simp [← he]
  rfl

theorem results_sheet (tmps : Array Value) (w : World) (g : Nat) (a b : Int) (v : Value) (fr : Nat × Nat)
    (hp : tmps.getD 2 undef = .pointer (some ⟨g, 0, none⟩)) (hv : tmps.getD 3 undef = v) (hg : w.heap[g]? = some (.cells #[.int .i64 a, .int .i64 b] 36 fr)) :
    (results Try.f13 tmps).run Try.prog w = .ok (.tuple #[sv b a, v]) w := by
  rw [results_cell_tmp rfl, hp, hv]
  simp only [asAddr, Sem.run_pure, Result.andThen]
  rw [run_loadVar_row w g 36 36 #[.int .i64 a, .int .i64 b] fr _ hg Try.underlying36 rfl size_sheet]

set_option maxHeartbeats 2000000 in
set_option maxRecDepth 100000 in
theorem named_len (s : List UInt8) (w : World) (h : s.length < 2 ∨ 3 < s.length) :
    Calls Try.prog 13 #[.string ⟨s.toArray⟩] w fun e w' => e = .returned (.tuple #[sv 0 0, .bool false]) ∧ Below w.heap.size w w' := by
  by_cases h1 : s.length < 2
  · have t1 : (s.length : Int) < 2 := by omega
    clear h
    go_enter Try.func13, Try.ntmps13
    go_wp2_with fail
    exact bodyPost_ret (results_sheet _ _ w.heap.size 0 0 _ _ rfl rfl (heap_alloc_new _ _)) rfl ⟨rfl, (Below.refl _ _).alloc (Nat.le_refl _) _⟩
  · have t1 : ¬ (s.length : Int) < 2 := by omega
    have t2 : 3 < (s.length : Int) := by omega
    clear h
    go_enter Try.func13, Try.ntmps13
    go_wp2_with fail
    exact bodyPost_ret (results_sheet _ _ w.heap.size 0 0 _ _ rfl rfl (heap_alloc_new _ _)) rfl ⟨rfl, (Below.refl _ _).alloc (Nat.le_refl _) _⟩

set_option maxHeartbeats 2000000 in
set_option maxRecDepth 100000 in
theorem named_two (s : List UInt8) (a b : UInt8) (w : World) (hl : s.length = 2) (ha : s[0]? = some a) (hb : s[1]? = some b) :
    Calls Try.prog 13 #[.string ⟨s.toArray⟩] w fun e w' => ((∃ c r : Nat, c < 26 ∧ r < 26 ∧ a.toNat = 65 + r ∧ b.toNat = 49 + c ∧ b.toNat ≤ 57 ∧ e = .returned (.tuple #[sv c r, .bool true])) ∨
      (¬ Two a.toNat b.toNat ∧ e = .returned (.tuple #[sv 0 0, .bool false]))) ∧ Below w.heap.size w w' := by
  have i0 : ∀ W : World, (Instr.index 9 (.string ⟨s.toArray⟩) (.int .i64 0)).run Try.prog W = .ok (.int .u8 (a.toNat : Int)) W := fun W => idx_of s 0 a ha W
  have i1 : ∀ W : World, (Instr.index 9 (.string ⟨s.toArray⟩) (.int .i64 1)).run Try.prog W = .ok (.int .u8 (b.toNat : Int)) W := fun W => idx_of s 1 b hb W
  have a255 : a.toNat < 256 := a.toNat_lt
  have b255 : b.toNat < 256 := b.toNat_lt
  obtain ⟨x, hx⟩ : ∃ x, x = a.toNat := ⟨_, rfl⟩
  obtain ⟨n, hn⟩ : ∃ n, n = b.toNat := ⟨_, rfl⟩
  rw [← hx] at i0 a255 ⊢
  rw [← hn] at i1 b255 ⊢
  clear hx hn ha hb
  have l1 : ¬ (s.length : Int) < 2 := by omega
  have l2 : ¬ 3 < (s.length : Int) := by omega
  have l3 : (1 : Int) < (s.length : Int) := by omega
  by_cases c1 : n = 48
  · have t1 : ((n : Int) == 48) = true := by simp; omega
    have NO : Hid (¬ Two x n) := fun h => by unfold Two at h; omega
    clear c1
    go_enter Try.func13, Try.ntmps13
    go_wp2_with fail
    exact bodyPost_ret (results_sheet _ _ w.heap.size 0 0 _ _ rfl rfl (heap_alloc_new _ _)) rfl ⟨.inr ⟨NO.out, rfl⟩, (Below.refl _ _).alloc (Nat.le_refl _) _⟩
  · have t1 : ((n : Int) == 48) = false := by simp; omega
    by_cases c2 : n < 48
    · have t2 : (n : Int) < 48 := by omega
      have NO : Hid (¬ Two x n) := fun h => by unfold Two at h; omega
      clear c1 c2
      go_enter Try.func13, Try.ntmps13
      go_wp2_with fail
      refine wp_loop_rounds 2 ?_; rw [rounds_succ]
      go_wp2_with fail
      exact bodyPost_ret (results_sheet _ _ w.heap.size 0 0 _ _ rfl rfl (heap_alloc_new _ _)) rfl ⟨.inr ⟨NO.out, rfl⟩, (Below.refl _ _).alloc (Nat.le_refl _) _⟩
    · have t2 : ¬ (n : Int) < 48 := by omega
      by_cases c3 : 57 < n
      · have t3 : 57 < (n : Int) := by omega
        have NO : Hid (¬ Two x n) := fun h => by unfold Two at h; omega
        clear c1 c2 c3
        go_enter Try.func13, Try.ntmps13
        go_wp2_with fail
        refine wp_loop_rounds 2 ?_; rw [rounds_succ]
        go_wp2_with fail
        exact bodyPost_ret (results_sheet _ _ w.heap.size 0 0 _ _ rfl rfl (heap_alloc_new _ _)) rfl ⟨.inr ⟨NO.out, rfl⟩, (Below.refl _ _).alloc (Nat.le_refl _) _⟩
      · have t3 : ¬ 57 < (n : Int) := by omega
        obtain ⟨m, hm⟩ : ∃ m, n = m + 48 := ⟨n - 48, by omega⟩
        have e1 : IntKind.u8.wrap ((n : Int) - 48) = (m : Int) := by rw [u8_small (by omega) (by omega)]; omega
        have e2 : IntKind.i64.wrap (m : Int) = (m : Int) := IntWalk.i64_in _ (by omega)
        have e3 : IntKind.i64.wrap (x : Int) = (x : Int) := IntWalk.i64_in _ (by omega)
        obtain ⟨r, hr⟩ : ∃ r : Int, r = (x : Int) - 65 := ⟨_, rfl⟩
        obtain ⟨c, hc⟩ : ∃ c : Int, c = (m : Int) - 1 := ⟨_, rfl⟩
        have e4 : IntKind.i64.wrap ((x : Int) - 65) = r := by rw [hr]; exact IntWalk.i64_in _ (by omega)
        have e5 : IntKind.i64.wrap ((m : Int) - 1) = c := by rw [hc]; exact IntWalk.i64_in _ (by omega)
        by_cases c4 : 0 ≤ r ∧ r < 26 ∧ 0 ≤ c ∧ c < 26
        · have TH := fun W => Lib.hid (there_any c r W)
          rw [decide_eq_true c4] at TH
          have YES : Hid (∃ c' r' : Nat, c' < 26 ∧ r' < 26 ∧ x = 65 + r' ∧ n = 49 + c' ∧ n ≤ 57 ∧ c = (c' : Int) ∧ r = (r' : Int)) := ⟨m - 1, x - 65, by omega, by omega, by omega, by omega, by omega, by omega, by omega⟩
          clear hr hc c1 c2 c3 c4 hm
          go_enter Try.func13, Try.ntmps13
          go_wp2_with fail
          refine wp_loop_rounds 2 ?_; rw [rounds_succ]
          go_wp2_with fail
          rw [rounds_succ]
          go_wp2_with (go_at_call 21; refine (TH _).out.mono ?_; rintro e w1 ⟨rfl, rfl⟩)
          obtain ⟨c', r', k1, k2, k3, k4, k5, rfl, rfl⟩ := YES.out
          exact bodyPost_ret (results_sheet _ _ w.heap.size r' c' _ _ rfl rfl ((heap_alloc_old _ _ (by simp; omega)).trans ((heap_alloc_old _ _ (by simp)).trans (heap_alloc_new _ _)))) rfl ⟨.inl ⟨c', r', k1, k2, k3, k4, k5, rfl⟩, (((Below.refl _ _).alloc (Nat.le_refl _) _).alloc (by simp) _).alloc (by simp; omega) _⟩
        · have TH := fun W => Lib.hid (there_any c r W)
          rw [decide_eq_false c4] at TH
          have NO : Hid (¬ Two x n) := fun h => by unfold Two at h; omega
          clear hr hc c1 c2 c3 c4 hm
          go_enter Try.func13, Try.ntmps13
          go_wp2_with fail
          refine wp_loop_rounds 2 ?_; rw [rounds_succ]
          go_wp2_with fail
          rw [rounds_succ]
          go_wp2_with (go_at_call 21; refine (TH _).out.mono ?_; rintro e w1 ⟨rfl, rfl⟩)
          exact bodyPost_ret (results_sheet _ _ w.heap.size 0 0 _ _ rfl rfl ((heap_alloc_old _ _ (by simp; omega)).trans ((heap_alloc_old _ _ (by simp)).trans (heap_alloc_new _ _)))) rfl ⟨.inr ⟨NO.out, rfl⟩, (((Below.refl _ _).alloc (Nat.le_refl _) _).alloc (by simp) _).alloc (by simp; omega) _⟩
/-- a letter and two digits -/
def Three (x n p : Nat) : Prop := 65 ≤ x ∧ x < 91 ∧ 49 ≤ n ∧ n ≤ 57 ∧ 48 ≤ p ∧ p ≤ 57 ∧ 10 * n + p ≤ 554
set_option maxHeartbeats 2000000 in
set_option maxRecDepth 100000 in
theorem named_three (s : List UInt8) (a b d : UInt8) (w : World) (hl : s.length = 3) (ha : s[0]? = some a) (hb : s[1]? = some b) (hd : s[2]? = some d) :
    Calls Try.prog 13 #[.string ⟨s.toArray⟩] w fun e w' => ((∃ c r : Nat, c < 26 ∧ r < 26 ∧ a.toNat = 65 + r ∧ 49 ≤ b.toNat ∧ b.toNat ≤ 57 ∧ 48 ≤ d.toNat ∧ d.toNat ≤ 57 ∧ 10 * b.toNat + d.toNat = c + 529 ∧ e = .returned (.tuple #[sv c r, .bool true])) ∨
      (¬ Three a.toNat b.toNat d.toNat ∧ e = .returned (.tuple #[sv 0 0, .bool false]))) ∧ Below w.heap.size w w' := by
  have i0 : ∀ W : World, (Instr.index 9 (.string ⟨s.toArray⟩) (.int .i64 0)).run Try.prog W = .ok (.int .u8 (a.toNat : Int)) W := fun W => idx_of s 0 a ha W
  have i1 : ∀ W : World, (Instr.index 9 (.string ⟨s.toArray⟩) (.int .i64 1)).run Try.prog W = .ok (.int .u8 (b.toNat : Int)) W := fun W => idx_of s 1 b hb W
  have i2 : ∀ W : World, (Instr.index 9 (.string ⟨s.toArray⟩) (.int .i64 2)).run Try.prog W = .ok (.int .u8 (d.toNat : Int)) W := fun W => idx_of s 2 d hd W
  have a255 : a.toNat < 256 := a.toNat_lt
  have b255 : b.toNat < 256 := b.toNat_lt
  have d255 : d.toNat < 256 := d.toNat_lt
  obtain ⟨x, hx⟩ : ∃ x, x = a.toNat := ⟨_, rfl⟩
  obtain ⟨n, hn⟩ : ∃ n, n = b.toNat := ⟨_, rfl⟩
  obtain ⟨p, hp⟩ : ∃ p, p = d.toNat := ⟨_, rfl⟩
  rw [← hx] at i0 a255 ⊢
  rw [← hn] at i1 b255 ⊢
  rw [← hp] at i2 d255 ⊢
  clear hx hn hp ha hb hd
  have l1 : ¬ (s.length : Int) < 2 := by omega
  have l2 : ¬ 3 < (s.length : Int) := by omega
  have l3 : (1 : Int) < (s.length : Int) := by omega
  by_cases c1 : n = 48
  · have t1 : ((n : Int) == 48) = true := by simp; omega
    have NO : Hid (¬ Three x n p) := fun h => by unfold Three at h; omega
    clear c1
    go_enter Try.func13, Try.ntmps13
    go_wp2_with fail
    exact bodyPost_ret (results_sheet _ _ w.heap.size 0 0 _ _ rfl rfl (heap_alloc_new _ _)) rfl ⟨.inr ⟨NO.out, rfl⟩, (Below.refl _ _).alloc (Nat.le_refl _) _⟩
  · have t1 : ((n : Int) == 48) = false := by simp; omega
    by_cases c2 : n < 48
    · have t2 : (n : Int) < 48 := by omega
      have NO : Hid (¬ Three x n p) := fun h => by unfold Three at h; omega
      clear c1 c2
      go_enter Try.func13, Try.ntmps13
      go_wp2_with fail
      refine wp_loop_rounds 3 ?_; rw [rounds_succ]
      go_wp2_with fail
      exact bodyPost_ret (results_sheet _ _ w.heap.size 0 0 _ _ rfl rfl (heap_alloc_new _ _)) rfl ⟨.inr ⟨NO.out, rfl⟩, (Below.refl _ _).alloc (Nat.le_refl _) _⟩
    · have t2 : ¬ (n : Int) < 48 := by omega
      by_cases c3 : 57 < n
      · have t3 : 57 < (n : Int) := by omega
        have NO : Hid (¬ Three x n p) := fun h => by unfold Three at h; omega
        clear c1 c2 c3
        go_enter Try.func13, Try.ntmps13
        go_wp2_with fail
        refine wp_loop_rounds 3 ?_; rw [rounds_succ]
        go_wp2_with fail
        exact bodyPost_ret (results_sheet _ _ w.heap.size 0 0 _ _ rfl rfl (heap_alloc_new _ _)) rfl ⟨.inr ⟨NO.out, rfl⟩, (Below.refl _ _).alloc (Nat.le_refl _) _⟩
      · have t3 : ¬ 57 < (n : Int) := by omega
        obtain ⟨m, hm⟩ : ∃ m, n = m + 48 := ⟨n - 48, by omega⟩
        have e1 : IntKind.u8.wrap ((n : Int) - 48) = (m : Int) := by rw [u8_small (by omega) (by omega)]; omega
        have e2 : IntKind.i64.wrap (m : Int) = (m : Int) := IntWalk.i64_in _ (by omega)
        by_cases c5 : p < 48
        · have t5 : (p : Int) < 48 := by omega
          have NO : Hid (¬ Three x n p) := fun h => by unfold Three at h; omega
          clear c1 c2 c3 c5
          go_enter Try.func13, Try.ntmps13
          go_wp2_with fail
          refine wp_loop_rounds 3 ?_; rw [rounds_succ]
          go_wp2_with fail
          rw [rounds_succ]
          go_wp2_with fail
          exact bodyPost_ret (results_sheet _ _ w.heap.size 0 0 _ _ rfl rfl (heap_alloc_new _ _)) rfl ⟨.inr ⟨NO.out, rfl⟩, (Below.refl _ _).alloc (Nat.le_refl _) _⟩
        · have t5 : ¬ (p : Int) < 48 := by omega
          by_cases c6 : 57 < p
          · have t6 : 57 < (p : Int) := by omega
            have NO : Hid (¬ Three x n p) := fun h => by unfold Three at h; omega
            clear c1 c2 c3 c5 c6
            go_enter Try.func13, Try.ntmps13
            go_wp2_with fail
            refine wp_loop_rounds 3 ?_; rw [rounds_succ]
            go_wp2_with fail
            rw [rounds_succ]
            go_wp2_with fail
            exact bodyPost_ret (results_sheet _ _ w.heap.size 0 0 _ _ rfl rfl (heap_alloc_new _ _)) rfl ⟨.inr ⟨NO.out, rfl⟩, (Below.refl _ _).alloc (Nat.le_refl _) _⟩
          · have t6 : ¬ 57 < (p : Int) := by omega
            obtain ⟨q, hq⟩ : ∃ q, p = q + 48 := ⟨p - 48, by omega⟩
            have e1' : IntKind.u8.wrap ((p : Int) - 48) = (q : Int) := by rw [u8_small (by omega) (by omega)]; omega
            have e2' : IntKind.i64.wrap (q : Int) = (q : Int) := IntWalk.i64_in _ (by omega)
            have e6 : IntKind.i64.wrap (10 * (m : Int)) = 10 * (m : Int) := IntWalk.i64_in _ (by omega)
            obtain ⟨z, hz⟩ : ∃ z, z = 10 * m + q := ⟨_, rfl⟩
            have e7 : IntKind.i64.wrap (10 * (m : Int) + (q : Int)) = (z : Int) := by rw [IntWalk.i64_in _ (by omega)]; omega
            have e3 : IntKind.i64.wrap (x : Int) = (x : Int) := IntWalk.i64_in _ (by omega)
            obtain ⟨r, hr⟩ : ∃ r : Int, r = (x : Int) - 65 := ⟨_, rfl⟩
            obtain ⟨c, hc⟩ : ∃ c : Int, c = (z : Int) - 1 := ⟨_, rfl⟩
            have e4 : IntKind.i64.wrap ((x : Int) - 65) = r := by rw [hr]; exact IntWalk.i64_in _ (by omega)
            have e5 : IntKind.i64.wrap ((z : Int) - 1) = c := by rw [hc]; exact IntWalk.i64_in _ (by omega)
            by_cases c4 : 0 ≤ r ∧ r < 26 ∧ 0 ≤ c ∧ c < 26
            · have TH := fun W => Lib.hid (there_any c r W)
              rw [decide_eq_true c4] at TH
              have YES : Hid (∃ c' r' : Nat, c' < 26 ∧ r' < 26 ∧ x = 65 + r' ∧ 49 ≤ n ∧ n ≤ 57 ∧ 48 ≤ p ∧ p ≤ 57 ∧ 10 * n + p = c' + 529 ∧ c = (c' : Int) ∧ r = (r' : Int)) := ⟨z - 1, x - 65, by omega, by omega, by omega, by omega, by omega, by omega, by omega, by omega, by omega, by omega⟩
              clear hr hc hz c1 c2 c3 c4 c5 c6 hm hq
              go_enter Try.func13, Try.ntmps13
              go_wp2_with fail
              refine wp_loop_rounds 3 ?_; rw [rounds_succ]
              go_wp2_with fail
              rw [rounds_succ]
              go_wp2_with fail
              rw [rounds_succ]
              go_wp2_with (go_at_call 21; refine (TH _).out.mono ?_; rintro e w1 ⟨rfl, rfl⟩)
              obtain ⟨c', r', k1, k2, k3, k4, k5, k6, k7, k8, rfl, rfl⟩ := YES.out
              exact bodyPost_ret (results_sheet _ _ w.heap.size r' c' _ _ rfl rfl ((heap_alloc_old _ _ (by simp; omega)).trans ((heap_alloc_old _ _ (by simp)).trans (heap_alloc_new _ _)))) rfl ⟨.inl ⟨c', r', k1, k2, k3, k4, k5, k6, k7, k8, rfl⟩, (((Below.refl _ _).alloc (Nat.le_refl _) _).alloc (by simp) _).alloc (by simp; omega) _⟩
            · have TH := fun W => Lib.hid (there_any c r W)
              rw [decide_eq_false c4] at TH
              have NO : Hid (¬ Three x n p) := fun h => by unfold Three at h; omega
              clear hr hc hz c1 c2 c3 c4 c5 c6 hm hq
              go_enter Try.func13, Try.ntmps13
              go_wp2_with fail
              refine wp_loop_rounds 3 ?_; rw [rounds_succ]
              go_wp2_with fail
              rw [rounds_succ]
              go_wp2_with fail
              rw [rounds_succ]
              go_wp2_with (go_at_call 21; refine (TH _).out.mono ?_; rintro e w1 ⟨rfl, rfl⟩)
              exact bodyPost_ret (results_sheet _ _ w.heap.size 0 0 _ _ rfl rfl ((heap_alloc_old _ _ (by simp; omega)).trans ((heap_alloc_old _ _ (by simp)).trans (heap_alloc_new _ _)))) rfl ⟨.inr ⟨NO.out, rfl⟩, (((Below.refl _ _).alloc (Nat.le_refl _) _).alloc (by simp) _).alloc (by simp; omega) _⟩

/-- the names of one digit and of two -/
theorem chr_nat {x : UInt8} {k : Nat} (hk : k < 256) : x = UInt8.ofNat k ↔ x.toNat = k := by
  constructor
  · rintro rfl; simp [UInt8.toNat_ofNat']; omega
  · intro h; rw [← h]; simp
theorem name_two (a b : UInt8) (c r : Nat) : IsName [a, b] c r ↔ c < 26 ∧ r < 26 ∧ a.toNat = 65 + r ∧ b.toNat = 49 + c ∧ b.toNat ≤ 57 := by
  unfold IsName nameL dig
  constructor
  · rintro ⟨h1, h2, h3⟩
    rw [List.cons.injEq, chr_nat (by omega)] at h3
    obtain ⟨h3, h4⟩ := h3
    split at h4
    · rw [List.cons.injEq, chr_nat (by omega)] at h4
      have := h4.1
      exact ⟨h1, h2, h3, by omega, by omega⟩
    · simp at h4
  · rintro ⟨h1, h2, h3, h4, h5⟩
    refine ⟨h1, h2, ?_⟩
    rw [if_pos (by omega), List.cons.injEq, List.cons.injEq, chr_nat (by omega), chr_nat (by omega)]
    exact ⟨h3, by omega, rfl⟩
theorem name_three (a b d : UInt8) (c r : Nat) : IsName [a, b, d] c r ↔ c < 26 ∧ r < 26 ∧ a.toNat = 65 + r ∧ 49 ≤ b.toNat ∧ b.toNat ≤ 57 ∧ 48 ≤ d.toNat ∧ d.toNat ≤ 57 ∧ 10 * b.toNat + d.toNat = c + 529 := by
  unfold IsName nameL dig
  constructor
  · rintro ⟨h1, h2, h3⟩
    rw [List.cons.injEq, chr_nat (by omega)] at h3
    obtain ⟨h3, h4⟩ := h3
    split at h4
    · simp at h4
    · rw [List.cons.injEq, List.cons.injEq, chr_nat (by omega), chr_nat (by omega)] at h4
      obtain ⟨h4, h5, -⟩ := h4
      exact ⟨h1, h2, h3, by omega, by omega, by omega, by omega, by omega⟩
  · rintro ⟨h1, h2, h3, h4, h5, h6, h7, h8⟩
    refine ⟨h1, h2, ?_⟩
    rw [if_neg (by omega), List.cons.injEq, List.cons.injEq, List.cons.injEq, chr_nat (by omega), chr_nat (by omega), chr_nat (by omega)]
    exact ⟨h3, by omega, by omega, rfl⟩
theorem name_len {s : List UInt8} {c r : Nat} (h : IsName s c r) : s.length = 2 ∨ s.length = 3 := by
  obtain ⟨h1, h2, rfl⟩ := h
  unfold nameL dig
  split <;> simp
theorem sheetNamed_any (s : List UInt8) (w : World) :
    Calls Try.prog 13 #[.string ⟨s.toArray⟩] w fun e w' => Named s e ∧ Below w.heap.size w w' := by
  match s with
  | [] => exact (named_len [] w (by simp)).mono fun e w' h => ⟨.inr ⟨fun c r n => by have := name_len n; simp at this, h.1⟩, h.2⟩
  | [a] => exact (named_len [a] w (by simp)).mono fun e w' h => ⟨.inr ⟨fun c r n => by have := name_len n; simp at this, h.1⟩, h.2⟩
  | [a, b] =>
    refine (named_two [a, b] a b w rfl rfl rfl).mono ?_
    rintro e w' ⟨h, hb⟩
    refine ⟨?_, hb⟩
    rcases h with ⟨c, r, h1, h2, h3, h4, h5, h6⟩ | ⟨h1, h2⟩
    · exact .inl ⟨c, r, (name_two a b c r).2 ⟨h1, h2, h3, h4, h5⟩, h6⟩
    · refine .inr ⟨fun c r n => h1 ?_, h2⟩
      have := (name_two a b c r).1 n
      unfold Two
      omega
  | [a, b, d] =>
    refine (named_three [a, b, d] a b d w rfl rfl rfl rfl).mono ?_
    rintro e w' ⟨h, hb⟩
    refine ⟨?_, hb⟩
    rcases h with ⟨c, r, h1, h2, h3, h4, h5, h6, h7, h8, h9⟩ | ⟨h1, h2⟩
    · exact .inl ⟨c, r, (name_three a b d c r).2 ⟨h1, h2, h3, h4, h5, h6, h7, h8⟩, h9⟩
    · refine .inr ⟨fun c r n => h1 ?_, h2⟩
      have := (name_three a b d c r).1 n
      unfold Three
      omega
  | a :: b :: d :: e :: t => exact (named_len _ w (by simp)).mono fun e w' h => ⟨.inr ⟨fun c r n => by have := name_len n; simp at this, h.1⟩, h.2⟩
end Go.Proofs.Ytnghcgkjhidfiaa
