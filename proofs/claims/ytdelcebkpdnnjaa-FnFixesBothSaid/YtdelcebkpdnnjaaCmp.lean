/-
  cmp.Compare and cmp.Or at ints, and byCell. No condition.
-/
import Derived.Test.YtdelcebkpdnnjaaEdit
namespace Go.Proofs.Ytdelcebkpdnnjaa
open Go.RowKit Go.Deep Go.Sort BigFrame

def cmpI (x y : Int) : Int := if x < y then -1 else if y < x then 1 else 0
theorem cmpI_small (x y : Int) : -1 ≤ cmpI x y ∧ cmpI x y ≤ 1 := by unfold cmpI; split <;> (try split) <;> omega
/-- the order of cells -/
def cellCmp (p q : Quad) : Int := if cmpI p.1 q.1 ≠ 0 then cmpI p.1 q.1 else cmpI p.2.1 q.2.1
def CellLt (p q : Quad) : Prop := p.1 < q.1 ∨ (p.1 = q.1 ∧ p.2.1 < q.2.1)
instance (p q : Quad) : Decidable (CellLt p q) := by unfold CellLt; infer_instance
theorem cellCmp_lt (p q : Quad) : cellCmp p q < 0 ↔ CellLt p q := by
  unfold cellCmp CellLt cmpI
  by_cases h1 : p.1 < q.1
  · simp [h1]
  · by_cases h2 : q.1 < p.1
    · simp [h1, h2]; omega
    · have e : p.1 = q.1 := by omega
      by_cases h3 : p.2.1 < q.2.1
      · simp [e, h3]
      · by_cases h4 : q.2.1 < p.2.1 <;> simp [e, h3, h4]
theorem cellCmp_zero (p q : Quad) : cellCmp p q = 0 ↔ (p.1 = q.1 ∧ p.2.1 = q.2.1) := by
  unfold cellCmp cmpI
  by_cases h1 : p.1 < q.1
  · simp [h1]; omega
  · by_cases h2 : q.1 < p.1
    · simp [h1, h2]; omega
    · have e : p.1 = q.1 := by omega
      by_cases h3 : p.2.1 < q.2.1
      · simp [e, h3]; omega
      · by_cases h4 : q.2.1 < p.2.1
        · simp [e, h3, h4]; omega
        · have e2 : p.2.1 = q.2.1 := by omega
          simp [e, e2]

set_option maxHeartbeats 400000 in
theorem Compare_any (x y : Int) (w : World) :
    Calls Try.prog 86 #[.int .i64 x, .int .i64 y] w fun e w' => e = .returned (.int .i64 (cmpI x y)) ∧ w = w' := by
  have h1 : (x != x) = false := by simp
  have h2 : (y != y) = false := by simp
  by_cases h3 : x < y
  · have H := Lib.hid (show cmpI x y = -1 by simp [cmpI, h3])
    go_enter Try.func86, Try.ntmps86
    go_wp2
    go_ret
    exact ⟨ret_int H.out.symm, rfl⟩
  · by_cases h4 : y < x
    · have H := Lib.hid (show cmpI x y = 1 by simp [cmpI, h3, h4])
      go_enter Try.func86, Try.ntmps86
      go_wp2
      go_ret
      exact ⟨ret_int H.out.symm, rfl⟩
    · have H := Lib.hid (show cmpI x y = 0 by simp [cmpI, h3, h4])
      go_enter Try.func86, Try.ntmps86
      go_wp2
      go_ret
      exact ⟨ret_int H.out.symm, rfl⟩

def orI (a b : Int) : Int := if a ≠ 0 then a else b
theorem orI_1 {a b : Int} (h : a ≠ 0) : orI a b = a := if_pos h
theorem orI_2 {a b : Int} (h : a = 0) : orI a b = b := if_neg (fun e => e h)
set_option maxHeartbeats 1000000 in
theorem Or_any (v : Value) (a b : Int) (w : World) (h : Ints w v [a, b]) :
    Calls Try.prog 85 #[v] w fun e w' => e = .returned (.int .i64 (orI a b)) ∧ ∃ n, w' = w.drewN n := by
  obtain ⟨ad, cap, rfl, h1, h2, h3⟩ := h
  obtain ⟨bb, off, rfl, hb, hc⟩ := h3 (by simp)
  have c0 : w.cell? ⟨bb, off, none⟩ = some (.int .i64 a) := by have := hc 0 (by simp); simpa using this
  have c1 : w.cell? ⟨bb, off + 1, none⟩ = some (.int .i64 b) := by have := hc 1 (by simp); simpa using this
  have e2 : [a, b].length = 2 := rfl
  rw [e2]
  clear hc h3 h1 e2
  have HC0 := Lib.hid c0
  have HC1 := Lib.hid c1
  have HB := Lib.hid hb
  clear c0 c1 hb
  go_enter Try.func85, Try.ntmps85
  go_wp2
  go_loopw [8] (fun s wr => (∃ n, wr = w.drewN n) ∧ ((s = .int .i64 0) ∨ (s = .int .i64 1 ∧ a = 0) ∨ (s = .int .i64 2 ∧ a = 0 ∧ b = 0))) (fun s _ => 2 - (intOf s).toNat)
  case atStart => exact ⟨⟨0, rfl⟩, .inl rfl⟩
  case round =>
    obtain ⟨⟨n, rfl⟩, h⟩ := hrel
    have c0 : (w.drewN n).cell? ⟨bb, off, none⟩ = some (.int .i64 a) := HC0.out
    have c1 : (w.drewN n).cell? ⟨bb, off + 1, none⟩ = some (.int .i64 b) := HC1.out
    rcases h with rfl | ⟨rfl, h1⟩ | ⟨rfl, h1, h2⟩
    · by_cases ha : a = 0
      · have t1 : (a != 0) = false := by simp [ha]
        have HA := Lib.hid ha
        clear ha
        go_wp2
        go_roundw
        case rel => exact ⟨⟨_, rfl⟩, .inr (.inl ⟨rfl, HA.out⟩)⟩
        case measure => simp [intOf]
      · have t1 : (a != 0) = true := by simp [ha]
        have HA := Lib.hid ha
        clear ha
        go_wp2
        go_ret
        exact ⟨ret_int (orI_1 HA.out).symm, _, rfl⟩
    · have HA := Lib.hid h1
      clear h1
      by_cases ha : b = 0
      · have t1 : (b != 0) = false := by simp [ha]
        have HB := Lib.hid ha
        clear ha
        go_wp2
        go_roundw
        case rel => exact ⟨⟨_, rfl⟩, .inr (.inr ⟨rfl, HA.out, HB.out⟩)⟩
        case measure => simp [intOf]
      · have t1 : (b != 0) = true := by simp [ha]
        have HB := Lib.hid ha
        clear ha
        go_wp2
        go_ret
        exact ⟨ret_int (orI_2 HA.out).symm, _, rfl⟩
    · have HA := Lib.hid (And.intro h1 h2)
      clear h1 h2
      go_wp2
      go_ret
      exact ⟨ret_int (by rw [orI_2 HA.out.1, HA.out.2]), _, rfl⟩

theorem ints_pair {w : World} {x y : Int} {t : TypeId} : Ints (w.alloc (.cells #[.int .i64 x, .int .i64 y] t)).drew (.slice (some ⟨w.heap.size, 0, none⟩) 2 2) [x, y] := by
  refine ⟨some ⟨w.heap.size, 0, none⟩, 2, rfl, by simp, by decide, fun _ => ⟨w.heap.size, 0, rfl, by show w.heap.size < (w.alloc _).heap.size; simp, fun j hj => ?_⟩⟩
  have hj : j < 2 := by simpa using hj
  show (w.alloc _).cell? _ = _
  match j, hj with
  | 0, _ => simp
  | 1, _ => simp
set_option maxHeartbeats 2000000 in
set_option maxRecDepth 100000 in
theorem byCell_any (p q : Quad) (w : World) :
    Calls Try.prog 58 #[qv p, qv q] w fun e w' => e = .returned (.int .i64 (cellCmp p q)) ∧ Below w.heap.size w w' := by
  obtain ⟨p0, p1, p2, p3⟩ := p
  obtain ⟨r0, r1, r2, r3⟩ := q
  have B0 := Lib.hid (((Below.refl w.heap.size w).alloc (Nat.le_refl _) (.cells #[.int .i64 p0, .int .i64 p1, .int .i64 p2, .int .i64 p3] 41)).alloc (by simp) (.cells #[.int .i64 r0, .int .i64 r1, .int .i64 r2, .int .i64 r3] 41))
  obtain ⟨x, hx⟩ : ∃ x, x = cmpI p0 r0 := ⟨_, rfl⟩
  obtain ⟨y, hy⟩ : ∃ y, y = cmpI p1 r1 := ⟨_, rfl⟩
  have HC : Hid (cellCmp (p0, p1, p2, p3) (r0, r1, r2, r3) = orI x y) := by show _ = _; rw [hx, hy]; rfl
  have CX : Hid (∀ W, Calls Try.prog 86 #[.int .i64 p0, .int .i64 r0] W fun e w' => e = .returned (.int .i64 x) ∧ W = w') := fun W => by rw [hx]; exact Compare_any _ _ W
  have CY : Hid (∀ W, Calls Try.prog 86 #[.int .i64 p1, .int .i64 r1] W fun e w' => e = .returned (.int .i64 y) ∧ W = w') := fun W => by rw [hy]; exact Compare_any _ _ W
  clear hx hy
  go_enter Try.func58, Try.ntmps58
  go_wp2_with fail
  obtain ⟨W, hW⟩ : ∃ W, W = (w.alloc (.cells #[.int .i64 p0, .int .i64 p1, .int .i64 p2, .int .i64 p3] 41)).alloc (.cells #[.int .i64 r0, .int .i64 r1, .int .i64 r2, .int .i64 r3] 41) := ⟨_, rfl⟩
  have a0 : W.cell? ⟨w.heap.size, 0, none⟩ = some (.int .i64 p0) := by rw [hW]; exact (World.cell?_alloc_old _ _ _ (by simp)).trans (by simp [World.cell?_alloc_new])
  have a1 : W.cell? ⟨w.heap.size, 1, none⟩ = some (.int .i64 p1) := by rw [hW]; exact (World.cell?_alloc_old _ _ _ (by simp)).trans (by simp [World.cell?_alloc_new])
  have b0 : W.cell? ⟨w.heap.size + 1, 0, none⟩ = some (.int .i64 r0) := by rw [hW]; simp
  have b1 : W.cell? ⟨w.heap.size + 1, 1, none⟩ = some (.int .i64 r1) := by rw [hW]; simp
  have hWz : w.heap.size + 2 ≤ W.heap.size := by rw [hW]; simp
  rw [← hW] at B0 ⊢
  clear hW
  have CO : Hid (∀ W a, Ints W a [x, y] → Calls Try.prog 85 #[a] W fun e w' => e = .returned (.int .i64 (orI x y)) ∧ Below W.heap.size W w') := fun W a h => (Or_any a x y W h).mono fun e w' ⟨he, n, hw⟩ => ⟨he, by rw [hw]; exact below_n (Below.refl _ _) n⟩
  obtain ⟨r, hr⟩ : ∃ r, r = orI x y := ⟨_, rfl⟩
  rw [← hr] at HC CO
  clear hr
  go_region_held3 (fun w' => w'.cell? ⟨w.heap.size, 0, none⟩ = some (.int .i64 p0) ∧ w'.cell? ⟨w.heap.size, 1, none⟩ = some (.int .i64 p1) ∧ w'.cell? ⟨w.heap.size + 1, 0, none⟩ = some (.int .i64 r0) ∧ w'.cell? ⟨w.heap.size + 1, 1, none⟩ = some (.int .i64 r1))
    (first | exact ⟨a0, a1, b0, b1⟩ | exact ⟨g0, g1, g2, g3⟩ | go_keep)
    (first
      | (go_at_call 86; (with_reducible refine (CX.out _).mono ?_); rintro e w' ⟨rfl, rfl⟩)
      | (go_at_call 86; (with_reducible refine (CY.out _).mono ?_); rintro e w' ⟨rfl, rfl⟩)
      | (go_at_call 85; (with_reducible refine (CO.out _ _ ints_pair).mono ?_); rintro e w9 ⟨rfl, hb9⟩; have HB9 := Lib.hid hb9; have g0 : w9.cell? ⟨w.heap.size, 0, none⟩ = _ := (hb9.cell (p := ⟨w.heap.size, 0, none⟩) (by show w.heap.size < (W.alloc _).heap.size; simp; omega)).trans ((World.cell?_alloc_old W _ ⟨w.heap.size, 0, none⟩ (by show w.heap.size ≠ W.heap.size; omega)).trans a0); have g1 : w9.cell? ⟨w.heap.size, 1, none⟩ = _ := (hb9.cell (p := ⟨w.heap.size, 1, none⟩) (by show w.heap.size < (W.alloc _).heap.size; simp; omega)).trans ((World.cell?_alloc_old W _ ⟨w.heap.size, 1, none⟩ (by show w.heap.size ≠ W.heap.size; omega)).trans a1); have g2 : w9.cell? ⟨w.heap.size + 1, 0, none⟩ = _ := (hb9.cell (p := ⟨w.heap.size + 1, 0, none⟩) (by show w.heap.size + 1 < (W.alloc _).heap.size; simp; omega)).trans ((World.cell?_alloc_old W _ ⟨w.heap.size + 1, 0, none⟩ (by show w.heap.size + 1 ≠ W.heap.size; omega)).trans b0); have g3 : w9.cell? ⟨w.heap.size + 1, 1, none⟩ = _ := (hb9.cell (p := ⟨w.heap.size + 1, 1, none⟩) (by show w.heap.size + 1 < (W.alloc _).heap.size; simp; omega)).trans ((World.cell?_alloc_old W _ ⟨w.heap.size + 1, 1, none⟩ (by show w.heap.size + 1 ≠ W.heap.size; omega)).trans b1); clear hb9)
      | fail)
  all_goals (go_wp2_with fail)
  all_goals go_ret
  all_goals exact ⟨ret_int HC.out.symm, (B0.out.alloc (by omega) _).drew.trans (HB9.out.mono (by show w.heap.size ≤ (W.alloc _).heap.size; simp; omega))⟩
end Go.Proofs.Ytdelcebkpdnnjaa
