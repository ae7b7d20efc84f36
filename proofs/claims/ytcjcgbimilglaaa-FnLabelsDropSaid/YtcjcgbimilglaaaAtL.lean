/-
  The draws of a place in a list (l91At) and of labels with a place. Conditions: the reader has picked fewer than a thousand times; at most seven labels.
-/
import Derived.Test.YtcjcgbimilglaaaDrawS
namespace Go.Proofs.Ytcjcgbimilglaaa
open Go.RowKit Go.Deep

/-- the built pair of numbers is read after a pick -/
theorem pair_at {R : Nat} {w1 w3 : World} {x y : Value} {t : TypeId} (ht : Touch R (R + 1) (w1.alloc (.cells #[x, y] t)) w3) (hR : R < w1.heap.size) : w3.cell? ⟨w1.heap.size, 0, none⟩ = some x ∧ w3.cell? ⟨w1.heap.size, 1, none⟩ = some y := by
  obtain ⟨h0, h1⟩ := cell2_new' w1 x y t
  have e := ht.block w1.heap.size (by simp) (by omega)
  exact ⟨(World.cell?_of_block (a := ⟨w1.heap.size, 0, none⟩) e).trans h0, (World.cell?_of_block (a := ⟨w1.heap.size, 1, none⟩) e).trans h1⟩

set_option maxHeartbeats 1000000 in
set_option maxRecDepth 100000 in
theorem l91At_any (R P n : Nat) (w : World) (h : Rd w R P) (hP : P ≤ 1000) (hn : n ≤ 7) :
    Calls Try.prog 99 #[.pointer (some ⟨R, 0, none⟩), .int .i64 n] w fun e w' => ∃ z P', e = .returned (.int .i64 z) ∧ -1 ≤ z ∧ z ≤ (n : Int) ∧ Rd w' R P' ∧ Touch R (R + 1) w w' := by
  have hRw := h.lt
  have HR0 := Lib.hid h
  clear h
  by_cases h0 : n = 0
  · have e0 : ((n : Int) == 0) = true := by simp [h0]
    have N0 := Lib.hid h0
    clear h0
    go_enter Try.func99, Try.ntmps99
    go_wp2_with fail
    have HRa := Lib.hid ((HR0.out).below ((Below.refl w.heap.size w).alloc (Nat.le_refl _) (.cells #[.int .i64 (-1), .int .i64 n] 3)) hRw)
    have HTa : Hid (Touch R (R + 1) w (w.alloc (.cells #[.int .i64 (-1), .int .i64 n] 3))) := (Touch.refl R (R + 1) w).then ((Below.refl w.heap.size w).alloc (Nat.le_refl _) _)
    refine (pick_i R _ _ _ HRa.out (by omega) (by omega) (by omega)).mono ?_
    rintro e w9 ⟨k, rfl, k0, k1, hrd1, ht1⟩
    obtain ⟨c0, c1⟩ := pair_at ht1 hRw
    have HR9 := Lib.hid hrd1
    have HT9 := Lib.hid (HTa.out.trans ht1)
    clear hrd1 ht1
    rcases (show k = 0 ∨ k = 1 by omega) with rfl | rfl
    all_goals
      go_wp2_with fail
      go_ret
      exact ⟨_, _, rfl, by omega, by omega, HR9.out, HT9.out⟩
  · have e0 : ((n : Int) == 0) = false := by simp [h0]
    have n1 : 1 ≤ n := by omega
    clear h0
    go_enter Try.func99, Try.ntmps99
    go_wp2_with fail
    refine (pick_i R _ _ _ HR0.out (by omega) (by omega) (by omega)).mono ?_
    rintro e w1 ⟨m, rfl, m0, m1, hrd1, ht1⟩
    have HR1 := Lib.hid hrd1
    have HT1 := Lib.hid ht1
    have zz := ht1.size
    have hRw1 : R < w1.heap.size := by omega
    clear hrd1 ht1
    by_cases hm : m = 0
    · have em : (m == 0) = true := by simp [hm]
      clear hm
      go_wp2_with fail
      have HRa := Lib.hid ((HR1.out).below ((Below.refl w1.heap.size w1).alloc (Nat.le_refl _) (.cells #[.int .i64 (-1), .int .i64 n] 3)) hRw1)
      have HTa : Hid (Touch R (R + 1) w (w1.alloc (.cells #[.int .i64 (-1), .int .i64 n] 3))) := (HT1.out).then ((Below.refl w.heap.size w1).alloc zz _)
      refine (pick_i R _ _ _ HRa.out (by omega) (by omega) (by omega)).mono ?_
      rintro e w9 ⟨k, rfl, k0, k1, hrd1, ht1⟩
      obtain ⟨c0, c1⟩ := pair_at ht1 hRw1
      have HR9 := Lib.hid hrd1
      have HT9 := Lib.hid (HTa.out.trans ht1)
      clear hrd1 ht1
      rcases (show k = 0 ∨ k = 1 by omega) with rfl | rfl
      all_goals
        go_wp2_with fail
        go_ret
        exact ⟨_, _, rfl, by omega, by omega, HR9.out, HT9.out⟩
    · have em : (m == 0) = false := by simp [hm]
      clear hm
      go_wp2_with fail
      refine (pick_i R _ _ _ HR1.out (by omega) (by omega) (by omega)).mono ?_
      rintro e w9 ⟨k, rfl, k0, k1, hrd1, ht1⟩
      have HR9 := Lib.hid hrd1
      have HT9 := Lib.hid (HT1.out.trans ht1)
      clear hrd1 ht1
      go_wp2_with fail
      go_ret
      exact ⟨_, _, rfl, by omega, by omega, HR9.out, HT9.out⟩

set_option maxHeartbeats 1000000 in
theorem DrawLabelsDrop_any (v : Value) (n : Nat) (w : World) (h : Bytes w v n) :
    Calls Try.prog 60 #[v] w fun e w' => ∃ v' l k, e = .returned (.tuple #[v', .int .i64 k]) ∧ -1 ≤ k ∧ k ≤ (l.length : Int) ∧ Quads w' v' l ∧ l.length ≤ 7 ∧ Below w.heap.size w w' := by
  have C := Lib.hid (l6Open_any v n w h)
  clear h
  go_enter Try.func60, Try.ntmps60
  go_wp2_with fail
  refine C.out.mono ?_
  rintro e w1 ⟨rfl, hrd, hb1⟩
  have B1 := Lib.hid hb1
  have z1 := hb1.size
  have hlo := hrd.lt
  clear hb1
  go_wp2_with fail
  refine (l92Labels_any w.heap.size 0 4 w1 hrd (by omega) (by omega) (by omega)).mono ?_
  rintro e w2 ⟨v2, l, P', rfl, hO, hl, hrd2, hP', ht⟩
  have HRD := Lib.hid hrd2
  have z2 := ht.size
  have HT := Lib.hid (B1.out.trans (ht.below (Nat.le_refl _) z1))
  have HO := Lib.hid hO
  obtain ⟨a2, c2, rfl, _, _, _⟩ := hO.quads
  clear hrd hrd2 ht hO
  go_wp2_with fail
  refine (l91At_any w.heap.size P' l.length w2 HRD.out (by omega) hl).mono ?_
  rintro e w3 ⟨k, P3, rfl, k0, k1, hrd3, ht3⟩
  have HQ := Lib.hid (HO.out.touch ht3 (by omega)).quads
  have HT3 := Lib.hid (HT.out.trans (ht3.below (Nat.le_refl _) (by omega)))
  clear hrd3 ht3
  go_wp2_with fail
  go_ret2
  exact ⟨_, l, k, rfl, k0, k1, HQ.out, hl, HT3.out⟩
end Go.Proofs.Ytcjcgbimilglaaa
