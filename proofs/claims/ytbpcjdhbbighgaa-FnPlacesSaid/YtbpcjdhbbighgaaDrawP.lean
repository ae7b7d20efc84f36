/-
  The draw of a label and a side. Condition: the code's slice reads as bytes.
-/
import Derived.Test.YtbpcjdhbbighgaaAtL
import Derived.Deep.RegionHeld3
namespace Go.Proofs.Ytbpcjdhbbighgaa
open Go.RowKit Go.Deep
set_option linter.unusedSimpArgs false
set_option linter.unusedVariables false

theorem Bytes.below {w w' : World} {v : Value} {n : Nat} (h : Bytes w v n) (hb : Below w.heap.size w w') : Bytes w' v n := by
  obtain ⟨a, cap, rfl, h1, h2, h3⟩ := h
  refine ⟨a, cap, rfl, h1, h2, fun hn => ?_⟩
  obtain ⟨b, off, rfl, hlt, f, hf⟩ := h3.below hb (Nat.le_refl _) hn
  exact ⟨b, off, rfl, Nat.lt_of_lt_of_le hlt hb.size, f, hf⟩

/-- a struct stored into another block -/
theorem set4_other (W : World) (b B : Nat) (h : b ≠ B) (x y z t : Value) (j : Nat) : ((((W.setCell ⟨b, 0, none⟩ x).setCell ⟨b, 1, none⟩ y).setCell ⟨b, 2, none⟩ z).setCell ⟨b, 3, none⟩ t).cell? ⟨B, j, none⟩ = W.cell? ⟨B, j, none⟩ := by
  rw [World.cell?_setCell_other _ _ _ _ (by simp [h]), World.cell?_setCell_other _ _ _ _ (by simp [h]), World.cell?_setCell_other _ _ _ _ (by simp [h]), World.cell?_setCell_other _ _ _ _ (by simp [h])]

set_option maxHeartbeats 2000000 in
set_option maxRecDepth 100000 in
theorem DrawLabelPlaces_any (v : Value) (n : Nat) (w : World) (h : Bytes w v n) :
    Calls Try.prog 13 #[v] w fun e w' => ∃ q side, e = .returned (.tuple #[qv q, .int .i64 side]) ∧ -1 ≤ side ∧ side ≤ 4 ∧ Below w.heap.size w w' := by
  have H0 : Hid (Bytes w v n) := h
  clear h
  go_enter Try.func13, Try.ntmps13
  go_wp2_with fail
  have B0 := Lib.hid ((Below.refl w.heap.size w).alloc (Nat.le_refl _) (.cells #[.int .i64 0, .int .i64 0, .int .i64 0, .int .i64 0] 24))
  have W0 : Hid ((w.alloc (.cells #[.int .i64 0, .int .i64 0, .int .i64 0, .int .i64 0] 24)).rowIs w.heap.size 24 4 (fun _ => .int .i64 0)) := World.rowIs_alloc w #[.int .i64 0, .int .i64 0, .int .i64 0, .int .i64 0] 24 (fun _ => .int .i64 0) (fun i hi => by have : i = 0 ∨ i = 1 ∨ i = 2 ∨ i = 3 := (by simp at hi; omega); rcases this with rfl | rfl | rfl | rfl <;> rfl)
  have z0 : (w.alloc (.cells #[.int .i64 0, .int .i64 0, .int .i64 0, .int .i64 0] 24)).heap.size = w.heap.size + 1 := by simp
  refine (l6Open_any v n _ (Bytes.below H0.out B0.out)).mono ?_
  rintro e w1 ⟨rfl, hrd, hb1⟩
  rw [z0] at hrd hb1 ⊢
  replace W0 := Lib.hid (W0.out.of_block (hb1.block w.heap.size (by omega)))
  obtain ⟨RR, hRR⟩ : ∃ x, x = w.heap.size + 1 := ⟨_, rfl⟩
  rw [← hRR] at hrd ⊢
  have B := Lib.hid (B0.out.trans (hb1.mono (by omega)))
  have R0 := Lib.hid hrd
  have y1 : RR < w1.heap.size := hrd.lt
  have rw0 : w.heap.size < RR := by omega
  clear hrd hb1 z0 B0 H0 hRR
  go_wp2_with fail
  refine (pick_i RR _ 10 w1 R0.out (by omega) (by omega) (by omega)).mono ?_
  rintro e w2 ⟨p1, rfl, a1, b1, hrd, ht⟩
  have y2 : RR < w2.heap.size := hrd.lt
  replace R0 := Lib.hid hrd
  replace W0 := Lib.hid (W0.out.of_block (ht.block w.heap.size (by first | omega | (simp; omega)) (by omega)))
  replace B := Lib.hid (B.out.trans (ht.below (by omega) (by first | omega | (simp; omega))))
  clear hrd ht
  go_wp2_with fail
  refine (pick_i RR _ 10 w2 R0.out (by omega) (by omega) (by omega)).mono ?_
  rintro e w3 ⟨p2, rfl, a2, b2, hrd, ht⟩
  have y3 : RR < w3.heap.size := hrd.lt
  replace R0 := Lib.hid hrd
  replace W0 := Lib.hid (W0.out.of_block (ht.block w.heap.size (by first | omega | (simp; omega)) (by omega)))
  replace B := Lib.hid (B.out.trans (ht.below (by omega) (by first | omega | (simp; omega))))
  clear hrd ht
  go_wp2_with fail
  refine (pick_i RR _ 5 w3 R0.out (by omega) (by omega) (by omega)).mono ?_
  rintro e w4 ⟨p3, rfl, a3, b3, hrd, ht⟩
  have y4 : RR < w4.heap.size := hrd.lt
  replace R0 := Lib.hid hrd
  replace W0 := Lib.hid (W0.out.of_block (ht.block w.heap.size (by first | omega | (simp; omega)) (by omega)))
  replace B := Lib.hid (B.out.trans (ht.below (by omega) (by first | omega | (simp; omega))))
  clear hrd ht
  go_wp2_with fail
  refine (pick_i RR _ 9 w4 R0.out (by omega) (by omega) (by omega)).mono ?_
  rintro e w5 ⟨p4, rfl, a4, b4, hrd, ht⟩
  have y5 : RR < w5.heap.size := hrd.lt
  replace R0 := Lib.hid hrd
  replace W0 := Lib.hid (W0.out.of_block (ht.block w.heap.size (by first | omega | (simp; omega)) (by omega)))
  replace B := Lib.hid (B.out.trans (ht.below (by omega) (by first | omega | (simp; omega))))
  clear hrd ht
  have e3 : IntKind.i64.wrap (1 + p3) = 1 + p3 := IntWalk.i64_in _ (by omega)
  have e4 : IntKind.i64.wrap (1 + p4) = 1 + p4 := IntWalk.i64_in _ (by omega)
  go_wp2_with fail
  have QB := Lib.hid (QBox_new w5 (p1, p2, 1 + p3, 1 + p4) 24)
  have FB := Lib.hid ((World.rowIs_alloc w5 #[.int .i64 p1, .int .i64 p2, .int .i64 (1 + p3), .int .i64 (1 + p4)] 24 (fun i => (#[Value.int .i64 p1, .int .i64 p2, .int .i64 (1 + p3), .int .i64 (1 + p4)])[i]?.getD undef) (fun i hi => by rw [Array.getElem?_eq_getElem hi]; rfl)).frozen 3)
  have hb5 : Below w5.heap.size w5 (w5.alloc (.cells #[.int .i64 p1, .int .i64 p2, .int .i64 (1 + p3), .int .i64 (1 + p4)] 24)) := (Below.refl _ _).alloc (Nat.le_refl _) _
  obtain ⟨WA, hWA⟩ : ∃ x, x = w5.alloc (.cells #[.int .i64 p1, .int .i64 p2, .int .i64 (1 + p3), .int .i64 (1 + p4)] 24) := ⟨_, rfl⟩
  have sA : WA.heap.size = w5.heap.size + 1 := by rw [hWA]; simp
  rw [← hWA] at QB FB hb5 ⊢
  obtain ⟨BX, hBX⟩ : ∃ x, x = w5.heap.size := ⟨_, rfl⟩
  rw [← hBX] at QB FB hb5 sA ⊢
  have yA : RR < BX := by omega
  replace R0 := Lib.hid (R0.out.below hb5 yA)
  replace W0 := Lib.hid (W0.out.of_block (hb5.block w.heap.size (by omega)))
  replace B := Lib.hid (B.out.trans (hb5.mono (by omega)))
  clear hWA hBX hb5 e3 e4
  refine (pick_i RR _ 16 WA R0.out (by omega) (by omega) (by omega)).mono ?_
  rintro e w6 ⟨p5, rfl, a5, b5, hrd, ht⟩
  have y6 : RR < w6.heap.size := hrd.lt
  replace R0 := Lib.hid hrd
  replace W0 := Lib.hid (W0.out.of_block (ht.block w.heap.size (by first | omega | (simp; omega)) (by omega)))
  replace B := Lib.hid (B.out.trans (ht.below (by omega) (by first | omega | (simp; omega))))
  have sB : BX < w6.heap.size := Nat.lt_of_lt_of_le (by omega) ht.size
  replace FB := Lib.hid ((World.frozen?_of_block (a := ⟨BX, 3, none⟩) (ht.block BX (by omega) (by omega))).trans FB.out)
  obtain ⟨c0, c1, c2, c3⟩ := QB.out.cells
  have d : ∀ j : Nat, w6.cell? ⟨BX, j, none⟩ = WA.cell? ⟨BX, j, none⟩ := fun j => World.cell?_of_block (a := ⟨BX, j, none⟩) (ht.block BX (by omega) (by omega))
  rw [← d 0] at c0
  rw [← d 1] at c1
  rw [← d 2] at c2
  rw [← d 3] at c3
  clear d
  clear hrd ht
  clear QB sA
  by_cases hz : p5 = 0
  · have ez : (p5 == 0) = true := by simp [hz]
    clear hz
    go_wp2_with fail
    have hb6 : Below w6.heap.size w6 (w6.alloc (.cells #[.int .i64 0, .int .i64 10] 3)) := (Below.refl _ _).alloc (Nat.le_refl _) _
    have R6 := Lib.hid (R0.out.below hb6 y6)
    have W6 := Lib.hid (W0.out.of_block (hb6.block w.heap.size (by omega)))
    refine (pick_i RR _ 2 _ R6.out (by omega) (by omega) (by omega)).mono ?_
    rintro e w7 ⟨p6, rfl, a6, b6, hrd, ht⟩
    obtain ⟨m0, m1⟩ := pair_at ht y6
    have s6 : (w6.alloc (.cells #[.int .i64 0, .int .i64 10] 3)).heap.size = w6.heap.size + 1 := by simp
    have bb : ∀ b, b < w6.heap.size → b ≠ RR → w7.heap[b]? = w6.heap[b]? := fun b h1 h2 => (ht.block b (by omega) (by omega)).trans (hb6.block b h1)
    have W7 := Lib.hid (W0.out.of_block (bb w.heap.size (by omega) (by omega)))
    have F7 : Hid (w7.frozen? ⟨BX, 3, none⟩ = false) := (World.frozen?_of_block (a := ⟨BX, 3, none⟩) (bb BX sB (by omega))).trans FB.out
    have d0 := (World.cell?_of_block (a := ⟨BX, 0, none⟩) (bb BX sB (by omega))).trans c0
    have d1 := (World.cell?_of_block (a := ⟨BX, 1, none⟩) (bb BX sB (by omega))).trans c1
    have d2 := (World.cell?_of_block (a := ⟨BX, 2, none⟩) (bb BX sB (by omega))).trans c2
    have d3 := (World.cell?_of_block (a := ⟨BX, 3, none⟩) (bb BX sB (by omega))).trans c3
    have f7 := F7.out
    replace B := Lib.hid ((B.out.trans (hb6.mono (by omega))).trans (ht.below (by omega) (by omega)))
    have R7 := Lib.hid hrd
    have y7 := hrd.lt
    have s7 : w6.heap.size < w7.heap.size := by have := ht.size; omega
    clear c0 c1 c2 c3 bb hb6 hrd ht s6 R6 W6 R0 W0 FB
    rcases (show p6 = 0 ∨ p6 = 1 by omega) with rfl | rfl
    · go_wp2_with fail
      have ht8 : Touch BX (BX + 1) w7 (w7.setCell ⟨BX, 3, none⟩ (.int .i64 0)) := (Touch.refl BX (BX + 1) w7).setCell (p := ⟨BX, 3, none⟩) (Nat.le_refl _) (Nat.lt_succ_self _) _
      have c0 := (World.cell?_setCell_other w7 ⟨BX, 3, none⟩ ⟨BX, 0, none⟩ (.int .i64 0) (by simp)).trans d0
      have c1 := (World.cell?_setCell_other w7 ⟨BX, 3, none⟩ ⟨BX, 1, none⟩ (.int .i64 0) (by simp)).trans d1
      have c2 := (World.cell?_setCell_other w7 ⟨BX, 3, none⟩ ⟨BX, 2, none⟩ (.int .i64 0) (by simp)).trans d2
      have c3 := World.cell?_setCell_same w7 ⟨BX, 3, none⟩ (.int .i64 0) d3
      obtain ⟨W8, hW8⟩ : ∃ x, x = w7.setCell ⟨BX, 3, none⟩ (.int .i64 0) := ⟨_, rfl⟩
      rw [← hW8] at ht8 c0 c1 c2 c3 ⊢
      have W0 := Lib.hid (W7.out.of_block (ht8.block w.heap.size (by omega) (by omega)))
      have R0 := Lib.hid (R7.out.touch ht8 yA)
      replace B := Lib.hid (B.out.trans (ht8.below (by omega) (by omega)))
      have y8 : RR < W8.heap.size := Nat.lt_of_lt_of_le y7 ht8.size
      have sB8 : BX < W8.heap.size := by have := ht8.size; have := sB; omega
      clear hW8 ht8 d0 d1 d2 d3 f7 F7 W7 R7 sB
      have NB : w.heap.size ≠ BX := by omega
      have y6w : w.heap.size < W8.heap.size := by omega
      have R6 := Lib.hid (R0.out.below (Below.refl W8.heap.size W8).drew y8)
      have f0 : W8.drew.cell? ⟨BX, 0, none⟩ = some (.int .i64 p1) := c0
      have f1 : W8.drew.cell? ⟨BX, 1, none⟩ = some (.int .i64 p2) := c1
      have f2 : W8.drew.cell? ⟨BX, 2, none⟩ = some (.int .i64 (1 + p3)) := c2
      have f3 : W8.drew.cell? ⟨BX, 3, none⟩ = some (.int .i64 0) := c3
      clear c0 c1 c2 c3
      go_region_held3 (fun w' => w'.cell? ⟨BX, 0, none⟩ = some (.int .i64 p1) ∧ w'.cell? ⟨BX, 1, none⟩ = some (.int .i64 p2) ∧ w'.cell? ⟨BX, 2, none⟩ = some (.int .i64 (1 + p3)) ∧ w'.cell? ⟨BX, 3, none⟩ = some (.int .i64 0))
        (first | with_reducible exact ⟨f0, f1, f2, f3⟩ | with_reducible exact ⟨c0', c1', c2', c3'⟩ | with_reducible exact ⟨(set4_other _ _ _ NB _ _ _ _ 0).trans c0', (set4_other _ _ _ NB _ _ _ _ 1).trans c1', (set4_other _ _ _ NB _ _ _ _ 2).trans c2', (set4_other _ _ _ NB _ _ _ _ 3).trans c3'⟩ | fail)
        (first | (go_at_call 49; (refine (pick_i RR _ 6 _ R6.out (by omega) (by omega) (by omega)).mono ?_); rintro e w9 ⟨p9, rfl, a9, b9, hrd, ht⟩; have c0' := (World.cell?_of_block (a := ⟨BX, 0, none⟩) (ht.block BX sB8 (by omega))).trans f0; have c1' := (World.cell?_of_block (a := ⟨BX, 1, none⟩) (ht.block BX sB8 (by omega))).trans f1; have c2' := (World.cell?_of_block (a := ⟨BX, 2, none⟩) (ht.block BX sB8 (by omega))).trans f2; have c3' := (World.cell?_of_block (a := ⟨BX, 3, none⟩) (ht.block BX sB8 (by omega))).trans f3; have W9 := W0.out.of_block (ht.block w.heap.size y6w (by omega)); have u0 := W9.frozen 0; have u1 := W9.frozen 1; have u2 := W9.frozen 2; have u3 := W9.frozen 3; have z0 := W9.cell (i := 0) (by omega); have z1 := W9.cell (i := 1) (by omega); have z2 := W9.cell (i := 2) (by omega); have z3 := W9.cell (i := 3) (by omega); have HW9 := Lib.hid W9; have R9 := Lib.hid hrd; have e9 : IntKind.i64.wrap (p9 - 1) = p9 - 1 := (IntWalk.i64_in _ (by omega)); have HT9 := Lib.hid ht; clear hrd ht) | fail)
      all_goals
        rename_i hh
        clear hh c0' c1' c2' c3' f0 f1 f2 f3 u0 u1 u2 u3 z0 z1 z2 z3
        have HX := Lib.hid ((((HW9.out.set 0 (.int .i64 p1)).set 1 (.int .i64 p2)).set 2 (.int .i64 (1 + p3))).set 3 (.int .i64 0))
        have B9 : Hid (Below w.heap.size w ((((w9.setCell ⟨w.heap.size, 0, none⟩ (.int .i64 p1)).setCell ⟨w.heap.size, 1, none⟩ (.int .i64 p2)).setCell ⟨w.heap.size, 2, none⟩ (.int .i64 (1 + p3))).setCell ⟨w.heap.size, 3, none⟩ (.int .i64 0))) := ((((B.out.drew.trans (HT9.out.below (by omega) (by show w.heap.size ≤ W8.heap.size; omega))).setCell (p := ⟨w.heap.size, 0, none⟩) (Nat.le_refl _) _).setCell (p := ⟨w.heap.size, 1, none⟩) (Nat.le_refl _) _).setCell (p := ⟨w.heap.size, 2, none⟩) (Nat.le_refl _) _).setCell (p := ⟨w.heap.size, 3, none⟩) (Nat.le_refl _) _
        obtain ⟨W10, hW10⟩ : ∃ x, x = ((((w9.setCell ⟨w.heap.size, 0, none⟩ (.int .i64 p1)).setCell ⟨w.heap.size, 1, none⟩ (.int .i64 p2)).setCell ⟨w.heap.size, 2, none⟩ (.int .i64 (1 + p3))).setCell ⟨w.heap.size, 3, none⟩ (.int .i64 0)) := ⟨_, rfl⟩
        rw [← hW10] at HX B9 ⊢
        clear hW10
        have r0 : W10.cell? ⟨w.heap.size, 0, none⟩ = some (.int .i64 p1) := (HX.out.cell (i := 0) (by omega)).trans (by simp)
        have r1 : W10.cell? ⟨w.heap.size, 1, none⟩ = some (.int .i64 p2) := (HX.out.cell (i := 1) (by omega)).trans (by simp)
        have r2 : W10.cell? ⟨w.heap.size, 2, none⟩ = some (.int .i64 (1 + p3)) := (HX.out.cell (i := 2) (by omega)).trans (by simp)
        have r3 : W10.cell? ⟨w.heap.size, 3, none⟩ = some (.int .i64 0) := (HX.out.cell (i := 3) (by omega)).trans (by simp)
        go_wp2_with fail
        refine bodyPost_ret (v := .tuple #[qv (p1, p2, 1 + p3, 0), .int .i64 (p9 - 1)]) ?_ rfl ⟨_, _, rfl, by omega, by omega, B9.out⟩
        simp [results, Try.results13, go_sem, r0, r1, r2, r3, qv]
    · go_wp2_with fail
      have ht8 : Touch BX (BX + 1) w7 (w7.setCell ⟨BX, 3, none⟩ (.int .i64 10)) := (Touch.refl BX (BX + 1) w7).setCell (p := ⟨BX, 3, none⟩) (Nat.le_refl _) (Nat.lt_succ_self _) _
      have c0 := (World.cell?_setCell_other w7 ⟨BX, 3, none⟩ ⟨BX, 0, none⟩ (.int .i64 10) (by simp)).trans d0
      have c1 := (World.cell?_setCell_other w7 ⟨BX, 3, none⟩ ⟨BX, 1, none⟩ (.int .i64 10) (by simp)).trans d1
      have c2 := (World.cell?_setCell_other w7 ⟨BX, 3, none⟩ ⟨BX, 2, none⟩ (.int .i64 10) (by simp)).trans d2
      have c3 := World.cell?_setCell_same w7 ⟨BX, 3, none⟩ (.int .i64 10) d3
      obtain ⟨W8, hW8⟩ : ∃ x, x = w7.setCell ⟨BX, 3, none⟩ (.int .i64 10) := ⟨_, rfl⟩
      rw [← hW8] at ht8 c0 c1 c2 c3 ⊢
      have W0 := Lib.hid (W7.out.of_block (ht8.block w.heap.size (by omega) (by omega)))
      have R0 := Lib.hid (R7.out.touch ht8 yA)
      replace B := Lib.hid (B.out.trans (ht8.below (by omega) (by omega)))
      have y8 : RR < W8.heap.size := Nat.lt_of_lt_of_le y7 ht8.size
      have sB8 : BX < W8.heap.size := by have := ht8.size; have := sB; omega
      clear hW8 ht8 d0 d1 d2 d3 f7 F7 W7 R7 sB
      have NB : w.heap.size ≠ BX := by omega
      have y6w : w.heap.size < W8.heap.size := by omega
      have R6 := Lib.hid (R0.out.below (Below.refl W8.heap.size W8).drew y8)
      have f0 : W8.drew.cell? ⟨BX, 0, none⟩ = some (.int .i64 p1) := c0
      have f1 : W8.drew.cell? ⟨BX, 1, none⟩ = some (.int .i64 p2) := c1
      have f2 : W8.drew.cell? ⟨BX, 2, none⟩ = some (.int .i64 (1 + p3)) := c2
      have f3 : W8.drew.cell? ⟨BX, 3, none⟩ = some (.int .i64 10) := c3
      clear c0 c1 c2 c3
      go_region_held3 (fun w' => w'.cell? ⟨BX, 0, none⟩ = some (.int .i64 p1) ∧ w'.cell? ⟨BX, 1, none⟩ = some (.int .i64 p2) ∧ w'.cell? ⟨BX, 2, none⟩ = some (.int .i64 (1 + p3)) ∧ w'.cell? ⟨BX, 3, none⟩ = some (.int .i64 10))
        (first | with_reducible exact ⟨f0, f1, f2, f3⟩ | with_reducible exact ⟨c0', c1', c2', c3'⟩ | with_reducible exact ⟨(set4_other _ _ _ NB _ _ _ _ 0).trans c0', (set4_other _ _ _ NB _ _ _ _ 1).trans c1', (set4_other _ _ _ NB _ _ _ _ 2).trans c2', (set4_other _ _ _ NB _ _ _ _ 3).trans c3'⟩ | fail)
        (first | (go_at_call 49; (refine (pick_i RR _ 6 _ R6.out (by omega) (by omega) (by omega)).mono ?_); rintro e w9 ⟨p9, rfl, a9, b9, hrd, ht⟩; have c0' := (World.cell?_of_block (a := ⟨BX, 0, none⟩) (ht.block BX sB8 (by omega))).trans f0; have c1' := (World.cell?_of_block (a := ⟨BX, 1, none⟩) (ht.block BX sB8 (by omega))).trans f1; have c2' := (World.cell?_of_block (a := ⟨BX, 2, none⟩) (ht.block BX sB8 (by omega))).trans f2; have c3' := (World.cell?_of_block (a := ⟨BX, 3, none⟩) (ht.block BX sB8 (by omega))).trans f3; have W9 := W0.out.of_block (ht.block w.heap.size y6w (by omega)); have u0 := W9.frozen 0; have u1 := W9.frozen 1; have u2 := W9.frozen 2; have u3 := W9.frozen 3; have z0 := W9.cell (i := 0) (by omega); have z1 := W9.cell (i := 1) (by omega); have z2 := W9.cell (i := 2) (by omega); have z3 := W9.cell (i := 3) (by omega); have HW9 := Lib.hid W9; have R9 := Lib.hid hrd; have e9 : IntKind.i64.wrap (p9 - 1) = p9 - 1 := (IntWalk.i64_in _ (by omega)); have HT9 := Lib.hid ht; clear hrd ht) | fail)
      all_goals
        rename_i hh
        clear hh c0' c1' c2' c3' f0 f1 f2 f3 u0 u1 u2 u3 z0 z1 z2 z3
        have HX := Lib.hid ((((HW9.out.set 0 (.int .i64 p1)).set 1 (.int .i64 p2)).set 2 (.int .i64 (1 + p3))).set 3 (.int .i64 10))
        have B9 : Hid (Below w.heap.size w ((((w9.setCell ⟨w.heap.size, 0, none⟩ (.int .i64 p1)).setCell ⟨w.heap.size, 1, none⟩ (.int .i64 p2)).setCell ⟨w.heap.size, 2, none⟩ (.int .i64 (1 + p3))).setCell ⟨w.heap.size, 3, none⟩ (.int .i64 10))) := ((((B.out.drew.trans (HT9.out.below (by omega) (by show w.heap.size ≤ W8.heap.size; omega))).setCell (p := ⟨w.heap.size, 0, none⟩) (Nat.le_refl _) _).setCell (p := ⟨w.heap.size, 1, none⟩) (Nat.le_refl _) _).setCell (p := ⟨w.heap.size, 2, none⟩) (Nat.le_refl _) _).setCell (p := ⟨w.heap.size, 3, none⟩) (Nat.le_refl _) _
        obtain ⟨W10, hW10⟩ : ∃ x, x = ((((w9.setCell ⟨w.heap.size, 0, none⟩ (.int .i64 p1)).setCell ⟨w.heap.size, 1, none⟩ (.int .i64 p2)).setCell ⟨w.heap.size, 2, none⟩ (.int .i64 (1 + p3))).setCell ⟨w.heap.size, 3, none⟩ (.int .i64 10)) := ⟨_, rfl⟩
        rw [← hW10] at HX B9 ⊢
        clear hW10
        have r0 : W10.cell? ⟨w.heap.size, 0, none⟩ = some (.int .i64 p1) := (HX.out.cell (i := 0) (by omega)).trans (by simp)
        have r1 : W10.cell? ⟨w.heap.size, 1, none⟩ = some (.int .i64 p2) := (HX.out.cell (i := 1) (by omega)).trans (by simp)
        have r2 : W10.cell? ⟨w.heap.size, 2, none⟩ = some (.int .i64 (1 + p3)) := (HX.out.cell (i := 2) (by omega)).trans (by simp)
        have r3 : W10.cell? ⟨w.heap.size, 3, none⟩ = some (.int .i64 10) := (HX.out.cell (i := 3) (by omega)).trans (by simp)
        go_wp2_with fail
        refine bodyPost_ret (v := .tuple #[qv (p1, p2, 1 + p3, 10), .int .i64 (p9 - 1)]) ?_ rfl ⟨_, _, rfl, by omega, by omega, B9.out⟩
        simp [results, Try.results13, go_sem, r0, r1, r2, r3, qv]
  · have ez : (p5 == 0) = false := by simp [hz]
    clear hz
    go_wp2_with fail
    have NB : w.heap.size ≠ BX := by omega
    have y6w : w.heap.size < w6.heap.size := by omega
    have R6 := Lib.hid (R0.out.below (Below.refl w6.heap.size w6).drew y6)
    have f0 : w6.drew.cell? ⟨BX, 0, none⟩ = some (.int .i64 p1) := c0
    have f1 : w6.drew.cell? ⟨BX, 1, none⟩ = some (.int .i64 p2) := c1
    have f2 : w6.drew.cell? ⟨BX, 2, none⟩ = some (.int .i64 (1 + p3)) := c2
    have f3 : w6.drew.cell? ⟨BX, 3, none⟩ = some (.int .i64 (1 + p4)) := c3
    clear c0 c1 c2 c3
    go_region_held3 (fun w' => w'.cell? ⟨BX, 0, none⟩ = some (.int .i64 p1) ∧ w'.cell? ⟨BX, 1, none⟩ = some (.int .i64 p2) ∧ w'.cell? ⟨BX, 2, none⟩ = some (.int .i64 (1 + p3)) ∧ w'.cell? ⟨BX, 3, none⟩ = some (.int .i64 (1 + p4)))
      (first | with_reducible exact ⟨f0, f1, f2, f3⟩ | with_reducible exact ⟨c0', c1', c2', c3'⟩ | with_reducible exact ⟨(set4_other _ _ _ NB _ _ _ _ 0).trans c0', (set4_other _ _ _ NB _ _ _ _ 1).trans c1', (set4_other _ _ _ NB _ _ _ _ 2).trans c2', (set4_other _ _ _ NB _ _ _ _ 3).trans c3'⟩ | fail)
      (first | (go_at_call 49; (refine (pick_i RR _ 6 _ R6.out (by omega) (by omega) (by omega)).mono ?_); rintro e w9 ⟨p9, rfl, a9, b9, hrd, ht⟩; have c0' := (World.cell?_of_block (a := ⟨BX, 0, none⟩) (ht.block BX sB (by omega))).trans f0; have c1' := (World.cell?_of_block (a := ⟨BX, 1, none⟩) (ht.block BX sB (by omega))).trans f1; have c2' := (World.cell?_of_block (a := ⟨BX, 2, none⟩) (ht.block BX sB (by omega))).trans f2; have c3' := (World.cell?_of_block (a := ⟨BX, 3, none⟩) (ht.block BX sB (by omega))).trans f3; have W9 := W0.out.of_block (ht.block w.heap.size y6w (by omega)); have u0 := W9.frozen 0; have u1 := W9.frozen 1; have u2 := W9.frozen 2; have u3 := W9.frozen 3; have z0 := W9.cell (i := 0) (by omega); have z1 := W9.cell (i := 1) (by omega); have z2 := W9.cell (i := 2) (by omega); have z3 := W9.cell (i := 3) (by omega); have HW9 := Lib.hid W9; have R9 := Lib.hid hrd; have e9 : IntKind.i64.wrap (p9 - 1) = p9 - 1 := (IntWalk.i64_in _ (by omega)); have HT9 := Lib.hid ht; clear hrd ht) | fail)
    all_goals
      rename_i hh
      clear hh c0' c1' c2' c3' f0 f1 f2 f3 u0 u1 u2 u3 z0 z1 z2 z3
      have HX := Lib.hid ((((HW9.out.set 0 (.int .i64 p1)).set 1 (.int .i64 p2)).set 2 (.int .i64 (1 + p3))).set 3 (.int .i64 (1 + p4)))
      have B9 : Hid (Below w.heap.size w ((((w9.setCell ⟨w.heap.size, 0, none⟩ (.int .i64 p1)).setCell ⟨w.heap.size, 1, none⟩ (.int .i64 p2)).setCell ⟨w.heap.size, 2, none⟩ (.int .i64 (1 + p3))).setCell ⟨w.heap.size, 3, none⟩ (.int .i64 (1 + p4)))) := ((((B.out.drew.trans (HT9.out.below (by omega) (by show w.heap.size ≤ w6.heap.size; omega))).setCell (p := ⟨w.heap.size, 0, none⟩) (Nat.le_refl _) _).setCell (p := ⟨w.heap.size, 1, none⟩) (Nat.le_refl _) _).setCell (p := ⟨w.heap.size, 2, none⟩) (Nat.le_refl _) _).setCell (p := ⟨w.heap.size, 3, none⟩) (Nat.le_refl _) _
      obtain ⟨W10, hW10⟩ : ∃ x, x = ((((w9.setCell ⟨w.heap.size, 0, none⟩ (.int .i64 p1)).setCell ⟨w.heap.size, 1, none⟩ (.int .i64 p2)).setCell ⟨w.heap.size, 2, none⟩ (.int .i64 (1 + p3))).setCell ⟨w.heap.size, 3, none⟩ (.int .i64 (1 + p4))) := ⟨_, rfl⟩
      rw [← hW10] at HX B9 ⊢
      clear hW10
      have r0 : W10.cell? ⟨w.heap.size, 0, none⟩ = some (.int .i64 p1) := (HX.out.cell (i := 0) (by omega)).trans (by simp)
      have r1 : W10.cell? ⟨w.heap.size, 1, none⟩ = some (.int .i64 p2) := (HX.out.cell (i := 1) (by omega)).trans (by simp)
      have r2 : W10.cell? ⟨w.heap.size, 2, none⟩ = some (.int .i64 (1 + p3)) := (HX.out.cell (i := 2) (by omega)).trans (by simp)
      have r3 : W10.cell? ⟨w.heap.size, 3, none⟩ = some (.int .i64 (1 + p4)) := (HX.out.cell (i := 3) (by omega)).trans (by simp)
      go_wp2_with fail
      refine bodyPost_ret (v := .tuple #[qv (p1, p2, 1 + p3, 1 + p4), .int .i64 (p9 - 1)]) ?_ rfl ⟨_, _, rfl, by omega, by omega, B9.out⟩
      simp [results, Try.results13, go_sem, r0, r1, r2, r3, qv]
end Go.Proofs.Ytbpcjdhbbighgaa
