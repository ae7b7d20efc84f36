/-
  Sheets' distance: impl.SheetFrom, impl.SheetFar, spec.SheetFar. No condition.
-/
import Derived.Test.YtnghcgkjhidfiaaSheetF
import Derived.Deep.RegionHeld3
namespace Go.Proofs.Ytnghcgkjhidfiaa
open Go.RowKit Go.Deep
set_option linter.unusedSimpArgs false
set_option linter.unusedVariables false

set_option maxHeartbeats 1000000 in
set_option maxRecDepth 100000 in
theorem SheetFrom_yes (s : List UInt8) (c r : Nat) (w : World) (h : IsName s c r) :
    Calls Try.prog 7 #[.string ⟨s.toArray⟩] w fun e w' => e = .returned (.tuple #[.int .i64 ((4 * c : Nat) : Int), .int .i64 ((4 * r : Nat) : Int), .bool true]) ∧ Below w.heap.size w w' := by
  have CN := fun W => Lib.hid ((sheetNamed_any s W).mono (fun e w' (h' : Named s e ∧ Below W.heap.size W w') => (show e = .returned (.tuple #[sv c r, .bool true]) ∧ Below W.heap.size W w' from by
    refine ⟨?_, h'.2⟩
    rcases h'.1 with ⟨c', r', k1, k2⟩ | ⟨k1, k2⟩
    · obtain ⟨rfl, rfl⟩ := name_unique h k1
      exact k2
    · exact absurd h (k1 c r))))
  have CC := fun W => Lib.hid (corner_any c r W (by have := h.1; omega) (by have := h.2.1; omega))
  obtain ⟨x, hx⟩ : ∃ x, x = 4 * c := ⟨_, rfl⟩
  obtain ⟨y, hy⟩ : ∃ y, y = 4 * r := ⟨_, rfl⟩
  simp only [← hx, ← hy] at CC ⊢
  clear hx hy h
  go_enter Try.func7, Try.ntmps7
  go_wp2_with (first | (go_at_call 13; refine (CN _).out.mono ?_; rintro e w1 ⟨rfl, hb1⟩; have HB1 := Lib.hid hb1; clear hb1) | (go_at_call 17; refine (CC _).out.mono ?_; rintro e w2 ⟨rfl, hb2⟩; have HB2 := Lib.hid ((HB1.out.alloc HB1.out.size _).trans (hb2.mono (by have := HB1.out.size; simp; omega))); clear hb2))
  go_quiet (fail)
  go_wp2_with fail
  exact bodyPost_ret (v := .tuple #[.int .i64 (x : Int), .int .i64 (y : Int), .bool true]) (by simp [results, Try.results7, go_sem]) rfl ⟨rfl, below_n (HB2.out.alloc HB2.out.size _) _⟩

theorem dist_le {a b : Nat} (ha : a < 26) (hb : b < 26) : dist a b ≤ 25 := by unfold dist; omega
theorem dist_comm (a b : Nat) : dist a b = dist b a := by unfold dist; omega
theorem gapZ_le {d : Nat} (h : d ≤ 25) : 0 ≤ gapZ d ∧ gapZ d ≤ 97 := by unfold gapZ; split <;> omega

/-- what SheetFar answers -/
def FarS (a b : List UInt8) (e : Ending) : Prop :=
  (∃ c r c' r' : Nat, IsName a c r ∧ IsName b c' r' ∧ e = .returned (.int .i64 (gapZ (dist c c') + gapZ (dist r r')))) ∨ (((∀ c r, ¬ IsName a c r) ∨ (∀ c r, ¬ IsName b c r)) ∧ e = .returned (.int .i64 (-1)))

set_option maxHeartbeats 1000000 in
set_option maxRecDepth 100000 in
theorem SheetFarS_any (a b : List UInt8) (w : World) :
    Calls Try.prog 6 #[.string ⟨a.toArray⟩, .string ⟨b.toArray⟩] w fun e w' => FarS a b e ∧ Below w.heap.size w w' := by
  have CA := Lib.hid (l7Find_any a w)
  have CB := fun W => Lib.hid (l7Find_any b W)
  go_enter Try.func6, Try.ntmps6
  go_wp2_with fail
  refine CA.out.mono ?_
  rintro e w1 ⟨hA, hb1⟩
  have HB1 := Lib.hid hb1
  clear hb1 CA
  rcases hA with ⟨c, r, hA, rfl⟩ | ⟨hA, rfl⟩
  · have HA := Lib.hid hA
    clear hA
    go_wp2_with fail
    refine (CB _).out.mono ?_
    rintro e w2 ⟨hB, hb2⟩
    have HB2 := Lib.hid (HB1.out.trans (hb2.mono HB1.out.size))
    clear hb2 HB1 CB w1
    rcases hB with ⟨c', r', hB, rfl⟩ | ⟨hB, rfl⟩
    · have HB := Lib.hid hB
      clear hB
      have b1 := HA.out.1
      have b2 := HA.out.2.1
      have b3 := HB.out.1
      have b4 := HB.out.2.1
      have G1 := fun W => Lib.hid (l7Gap_any c c' W (by omega) (by omega))
      have G2 := fun W => Lib.hid (l7Gap_any r r' W (by omega) (by omega))
      have g1 := gapZ_le (dist_le b1 b3)
      have g2 := gapZ_le (dist_le b2 b4)
      obtain ⟨x, hx⟩ : ∃ x, x = gapZ (dist c c') := ⟨_, rfl⟩
      obtain ⟨y, hy⟩ : ∃ y, y = gapZ (dist r r') := ⟨_, rfl⟩
      have FIN : Hid (FarS a b (.returned (.int .i64 (x + y)))) := .inl ⟨c, r, c', r', HA.out, HB.out, by rw [hx, hy]⟩
      have e1 : IntKind.i64.wrap (x + y) = x + y := IntWalk.i64_in _ (by omega)
      simp only [← hx] at G1
      simp only [← hy] at G2
      clear hx hy g1 g2 b1 b2 b3 b4 HA HB
      go_wp2_with fail
      refine (G1 _).out.mono ?_
      rintro e w3 ⟨rfl, rfl⟩
      go_wp2_with fail
      refine (G2 _).out.mono ?_
      rintro e w3 ⟨rfl, rfl⟩
      go_wp2_with fail
      go_ret
      exact ⟨FIN.out, HB2.out⟩
    · have FIN : Hid (FarS a b (.returned (.int .i64 (-1)))) := .inr ⟨.inr hB, rfl⟩
      clear hB HA
      go_wp2_with fail
      go_ret
      exact ⟨FIN.out, HB2.out⟩
  · have FIN : Hid (FarS a b (.returned (.int .i64 (-1)))) := .inr ⟨.inl hA, rfl⟩
    clear hA
    go_wp2_with fail
    refine (CB _).out.mono ?_
    rintro e w2 ⟨hB, hb2⟩
    have HB2 := Lib.hid (HB1.out.trans (hb2.mono HB1.out.size))
    clear hb2 HB1 CB w1
    rcases hB with ⟨c', r', hB, rfl⟩ | ⟨hB, rfl⟩
    · clear hB
      go_wp2_with fail
      go_ret
      exact ⟨FIN.out, HB2.out⟩
    · clear hB
      go_wp2_with fail
      go_ret
      exact ⟨FIN.out, HB2.out⟩

set_option maxHeartbeats 2000000 in
set_option maxRecDepth 100000 in
theorem SheetFar_any (a b : List UInt8) (w : World) :
    Calls Try.prog 5 #[.string ⟨a.toArray⟩, .string ⟨b.toArray⟩] w fun e w' => FarS a b e ∧ Below w.heap.size w w' := by
  have CA := Lib.hid (sheetNamed_any a w)
  have CB := fun W => Lib.hid (sheetNamed_any b W)
  go_enter Try.func5, Try.ntmps5
  go_wp2_with fail
  refine CA.out.mono ?_
  rintro e w1 ⟨hA, hb1⟩
  have HB1 := Lib.hid hb1
  clear hb1 CA
  rcases hA with ⟨c, r, hA, rfl⟩ | ⟨hA, rfl⟩
  · have HA := Lib.hid hA
    clear hA
    go_wp2_with fail
    refine (CB _).out.mono ?_
    rintro e w2 ⟨hB, hb2⟩
    have s2 := hb2.size
    simp at s2
    have q1 : w2.cell? ⟨w1.heap.size, 0, none⟩ = some (.int .i64 (r : Int)) := (hb2.cell (p := ⟨w1.heap.size, 0, none⟩) (by simp)).trans (by simp)
    have q2 : w2.cell? ⟨w1.heap.size, 1, none⟩ = some (.int .i64 (c : Int)) := (hb2.cell (p := ⟨w1.heap.size, 1, none⟩) (by simp)).trans (by simp)
    have HB2 := Lib.hid ((HB1.out.alloc HB1.out.size (.cells #[.int .i64 (r : Int), .int .i64 (c : Int)] 36)).trans (hb2.mono (by have := HB1.out.size; simp; omega)))
    clear hb2 CB
    rcases hB with ⟨c', r', hB, rfl⟩ | ⟨hB, rfl⟩
    · have HB := Lib.hid hB
      clear hB
      have b1 := HA.out.1
      have b2 := HA.out.2.1
      have b3 := HB.out.1
      have b4 := HB.out.2.1
      have A1 := fun W => Lib.hid (apart_any r r' W (by omega) (by omega))
      have A2 := fun W => Lib.hid (apart_any c c' W (by omega) (by omega))
      have g1 := dist_le b2 b4
      have g2 := dist_le b1 b3
      obtain ⟨x, hx⟩ : ∃ x, x = dist r r' := ⟨_, rfl⟩
      obtain ⟨y, hy⟩ : ∃ y, y = dist c c' := ⟨_, rfl⟩
      have FIN : Hid (FarS a b (.returned (.int .i64 (gapZ y + gapZ x)))) := .inl ⟨c, r, c', r', HA.out, HB.out, by rw [hx, hy]⟩
      simp only [← hx] at A1
      simp only [← hy] at A2
      rw [← hx] at g1
      rw [← hy] at g2
      clear hx hy b1 b2 b3 b4 HA HB
      go_wp2_with fail
      obtain ⟨W3, hW3⟩ : ∃ W3, W3 = w2.alloc (.cells #[.int .i64 (r' : Int), .int .i64 (c' : Int)] 36) := ⟨_, rfl⟩
      have p1 : W3.cell? ⟨w1.heap.size, 0, none⟩ = some (.int .i64 (r : Int)) := by rw [hW3, World.cell?_alloc_lt _ _ _ (by simp; omega)]; exact q1
      have p2 : W3.cell? ⟨w1.heap.size, 1, none⟩ = some (.int .i64 (c : Int)) := by rw [hW3, World.cell?_alloc_lt _ _ _ (by simp; omega)]; exact q2
      have p3 : W3.cell? ⟨w2.heap.size, 0, none⟩ = some (.int .i64 (r' : Int)) := by rw [hW3]; simp
      have p4 : W3.cell? ⟨w2.heap.size, 1, none⟩ = some (.int .i64 (c' : Int)) := by rw [hW3]; simp
      have HB3 : Hid (Below w.heap.size w W3) := by show _; rw [hW3]; exact HB2.out.alloc HB2.out.size _
      rw [← hW3]
      clear hW3 q1 q2 HB2 HB1
      obtain ⟨P5, hP5⟩ : ∃ P5, P5 = w1.heap.size := ⟨_, rfl⟩
      obtain ⟨P7, hP7⟩ : ∃ P7, P7 = w2.heap.size := ⟨_, rfl⟩
      rw [← hP5] at p1 p2 ⊢
      rw [← hP7] at p3 p4 ⊢
      clear hP5 hP7 s2
      go_region_held3 (fun w' => w'.cell? ⟨P5, 0, none⟩ = some (.int .i64 (r : Int)) ∧ w'.cell? ⟨P5, 1, none⟩ = some (.int .i64 (c : Int)) ∧ w'.cell? ⟨P7, 0, none⟩ = some (.int .i64 (r' : Int)) ∧ w'.cell? ⟨P7, 1, none⟩ = some (.int .i64 (c' : Int)))
        (first | exact ⟨p1, p2, p3, p4⟩ | go_keep)
        (first | (go_at_call 14; with_reducible refine (A1 _).out.mono ?_; rintro e w4 ⟨rfl, rfl⟩) | (go_at_call 14; with_reducible refine (A2 _).out.mono ?_; rintro e w4 ⟨rfl, rfl⟩) | fail)

      all_goals
        clear A1 A2 p1 p2 p3 p4
        by_cases hx0 : 0 < x
        · by_cases hy0 : 0 < y
          · have x0 : 0 < (x : Int) := by omega
            have x1 : IntKind.i64.wrap ((x : Int) - 1) = (x : Int) - 1 := IntWalk.i64_in _ (by omega)
            have x2 : IntKind.i64.wrap (((x : Int) - 1) * 4) = ((x : Int) - 1) * 4 := IntWalk.i64_in _ (by omega)
            obtain ⟨gx, gxE⟩ : ∃ z : Int, z = ((x : Int) - 1) * 4 + 1 := ⟨_, rfl⟩
            have x3 : IntKind.i64.wrap (((x : Int) - 1) * 4 + 1) = gx := by rw [gxE]; exact IntWalk.i64_in _ (by omega)
            have x4 : IntKind.i64.wrap gx = gx := IntWalk.i64_in _ (by omega)
            have xG : gapZ x = gx := by unfold gapZ; rw [if_neg (by omega)]; omega
            have y0 : 0 < (y : Int) := by omega
            have y1 : IntKind.i64.wrap ((y : Int) - 1) = (y : Int) - 1 := IntWalk.i64_in _ (by omega)
            have y2 : IntKind.i64.wrap (((y : Int) - 1) * 4) = ((y : Int) - 1) * 4 := IntWalk.i64_in _ (by omega)
            obtain ⟨gy, gyE⟩ : ∃ z : Int, z = ((y : Int) - 1) * 4 + 1 := ⟨_, rfl⟩
            have y3 : IntKind.i64.wrap (((y : Int) - 1) * 4 + 1) = gy := by rw [gyE]; exact IntWalk.i64_in _ (by omega)
            have y4 : IntKind.i64.wrap gy = gy := IntWalk.i64_in _ (by omega)
            have yG : gapZ y = gy := by unfold gapZ; rw [if_neg (by omega)]; omega
            have xy : IntKind.i64.wrap (gx + gy) = gx + gy := IntWalk.i64_in _ (by omega)
            have FE : Hid (FarS a b (.returned (.int .i64 (gx + gy)))) := by have h : FarS a b _ := FIN.out; rw [xG, yG] at h; rw [Int.add_comm] at h; exact h
            clear xG yG gxE gyE hx0 hy0
            go_wp2_with fail
            refine wp_loop_rounds 3 ?_; rw [rounds_succ]
            go_wp2_with fail
            rw [rounds_succ]
            go_wp2_with fail
            rw [rounds_succ]
            go_wp2_with fail
            go_ret
            exact ⟨FE.out, (HB3.out.alloc HB3.out.size _).drew⟩
          · have x0 : 0 < (x : Int) := by omega
            have x1 : IntKind.i64.wrap ((x : Int) - 1) = (x : Int) - 1 := IntWalk.i64_in _ (by omega)
            have x2 : IntKind.i64.wrap (((x : Int) - 1) * 4) = ((x : Int) - 1) * 4 := IntWalk.i64_in _ (by omega)
            obtain ⟨gx, gxE⟩ : ∃ z : Int, z = ((x : Int) - 1) * 4 + 1 := ⟨_, rfl⟩
            have x3 : IntKind.i64.wrap (((x : Int) - 1) * 4 + 1) = gx := by rw [gxE]; exact IntWalk.i64_in _ (by omega)
            have x4 : IntKind.i64.wrap gx = gx := IntWalk.i64_in _ (by omega)
            have xG : gapZ x = gx := by unfold gapZ; rw [if_neg (by omega)]; omega
            have y0 : ¬ 0 < (y : Int) := by omega
            have yG : gapZ y = 0 := by unfold gapZ; rw [if_pos (by omega)]
            have FE : Hid (FarS a b (.returned (.int .i64 (gx)))) := by have h : FarS a b _ := FIN.out; rw [xG, yG] at h; show FarS a b _; simpa using h
            clear xG yG gxE hx0 hy0
            go_wp2_with fail
            refine wp_loop_rounds 3 ?_; rw [rounds_succ]
            go_wp2_with fail
            rw [rounds_succ]
            go_wp2_with fail
            rw [rounds_succ]
            go_wp2_with fail
            go_ret
            exact ⟨FE.out, (HB3.out.alloc HB3.out.size _).drew⟩
        · by_cases hy0 : 0 < y
          · have x0 : ¬ 0 < (x : Int) := by omega
            have xG : gapZ x = 0 := by unfold gapZ; rw [if_pos (by omega)]
            have y0 : 0 < (y : Int) := by omega
            have y1 : IntKind.i64.wrap ((y : Int) - 1) = (y : Int) - 1 := IntWalk.i64_in _ (by omega)
            have y2 : IntKind.i64.wrap (((y : Int) - 1) * 4) = ((y : Int) - 1) * 4 := IntWalk.i64_in _ (by omega)
            obtain ⟨gy, gyE⟩ : ∃ z : Int, z = ((y : Int) - 1) * 4 + 1 := ⟨_, rfl⟩
            have y3 : IntKind.i64.wrap (((y : Int) - 1) * 4 + 1) = gy := by rw [gyE]; exact IntWalk.i64_in _ (by omega)
            have y4 : IntKind.i64.wrap gy = gy := IntWalk.i64_in _ (by omega)
            have yG : gapZ y = gy := by unfold gapZ; rw [if_neg (by omega)]; omega
            have FE : Hid (FarS a b (.returned (.int .i64 (gy)))) := by have h : FarS a b _ := FIN.out; rw [xG, yG] at h; show FarS a b _; simpa using h
            clear xG yG gyE hx0 hy0
            go_wp2_with fail
            refine wp_loop_rounds 3 ?_; rw [rounds_succ]
            go_wp2_with fail
            rw [rounds_succ]
            go_wp2_with fail
            rw [rounds_succ]
            go_wp2_with fail
            go_ret
            exact ⟨FE.out, (HB3.out.alloc HB3.out.size _).drew⟩
          · have x0 : ¬ 0 < (x : Int) := by omega
            have xG : gapZ x = 0 := by unfold gapZ; rw [if_pos (by omega)]
            have y0 : ¬ 0 < (y : Int) := by omega
            have yG : gapZ y = 0 := by unfold gapZ; rw [if_pos (by omega)]
            have FE : Hid (FarS a b (.returned (.int .i64 (0)))) := by have h : FarS a b _ := FIN.out; rw [xG, yG] at h; show FarS a b _; simpa using h
            clear xG yG hx0 hy0
            go_wp2_with fail
            refine wp_loop_rounds 3 ?_; rw [rounds_succ]
            go_wp2_with fail
            rw [rounds_succ]
            go_wp2_with fail
            rw [rounds_succ]
            go_wp2_with fail
            go_ret
            exact ⟨FE.out, (HB3.out.alloc HB3.out.size _).drew⟩
    · have FIN : Hid (FarS a b (.returned (.int .i64 (-1)))) := .inr ⟨.inr hB, rfl⟩
      clear hB HA
      go_wp2_with fail
      go_ret
      exact ⟨FIN.out, HB2.out.alloc HB2.out.size _⟩
  · have FIN : Hid (FarS a b (.returned (.int .i64 (-1)))) := .inr ⟨.inl hA, rfl⟩
    clear hA
    go_wp2_with fail
    refine (CB _).out.mono ?_
    rintro e w2 ⟨hB, hb2⟩
    have HB2 := Lib.hid ((HB1.out.alloc HB1.out.size (.cells #[.int .i64 0, .int .i64 0] 36)).trans (hb2.mono (by have := HB1.out.size; simp; omega)))
    clear hb2 HB1 CB
    rcases hB with ⟨c', r', hB, rfl⟩ | ⟨hB, rfl⟩
    · clear hB
      go_wp2_with fail
      go_ret
      exact ⟨FIN.out, HB2.out.alloc HB2.out.size _⟩
    · clear hB
      go_wp2_with fail
      go_ret
      exact ⟨FIN.out, HB2.out.alloc HB2.out.size _⟩
end Go.Proofs.Ytnghcgkjhidfiaa
