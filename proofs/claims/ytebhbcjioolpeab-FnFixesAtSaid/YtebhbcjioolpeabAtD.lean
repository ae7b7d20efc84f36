/-
  DrawFixesAt. No condition.
-/
import Derived.Test.YtebhbcjioolpeabFixD
import Derived.Deep.Slices
namespace Go.Proofs.Ytebhbcjioolpeab
open Go.RowKit Go.Deep Go.Sort

theorem QuadsB.at {B k n : Nat} {w : World} {a : Option Addr} {cap : Nat} {l : List Quad} (h : QuadsB B w (.slice a n cap) l) (hk : k < l.length) : ∃ b off, a = some ⟨b, off, none⟩ ∧ b < B ∧ QAt w b (off + k * 4) (l[k]?.getD q0) := by
  obtain ⟨a', cap', hv, h1, h2, h3⟩ := h
  simp only [Value.slice.injEq] at hv
  obtain ⟨rfl, rfl, rfl⟩ := hv
  obtain ⟨b, off, rfl, hb, hc⟩ := h3 (by omega)
  exact ⟨b, off, rfl, hb, hc k hk⟩

set_option maxHeartbeats 1000000 in
set_option maxRecDepth 100000 in
theorem DrawFixesAt_any (v : Value) (n : Nat) (w : World) (h : Bytes w v n) :
    Calls Try.prog 19 #[v] w fun e w' => ∃ va vb g l R C, e = .returned (.tuple #[va, vb, .int .i64 R, .int .i64 C]) ∧ Grid w' va g ∧ Quads w' vb l ∧ Drawn g ∧ l.length ≤ 6 ∧ Below w.heap.size w w' := by
  have C := Lib.hid (l6Open_any v n w h)
  clear h
  go_enter Try.func19, Try.ntmps19
  go_wp2_with fail
  refine C.out.mono ?_
  rintro e w1 ⟨rfl, hrd, hb1⟩
  have B1 := Lib.hid hb1
  have z1 := hb1.size
  have hRw := hrd.lt
  clear hb1
  go_wp2_with fail
  refine (l92Fixes_any w.heap.size 0 w1 hrd (by omega)).mono ?_
  rintro e w2 ⟨va, vb, g, l, P2, rfl, ha, hb, da, hl, hrd2, hP2, ht⟩
  have z2 := ht.size
  obtain ⟨ua, uc, rfl, c1, c2, c3⟩ := id hb.quadsB
  have HA := Lib.hid ha
  have HB := Lib.hid hb
  have HT := Lib.hid ht
  have HR := Lib.hid hrd2
  have DA := Lib.hid da
  clear ha hb ht hrd hrd2 c3 da
  by_cases hp : 0 < l.length
  · have hp' : (0 : Int) < (l.length : Int) := by omega
    go_wp2_with fail
    refine (pick_i w.heap.size P2 _ _ HR.out (by omega) (by omega) (by omega)).mono ?_
    rintro e w3 ⟨x, rfl, hx0, hx1, hrd3, ht3⟩
    have HR3 := Lib.hid hrd3
    have HT3 := Lib.hid (HT.out.trans ht3)
    have HA3 := Lib.hid (HA.out.touch ht3 (.inr (by omega)))
    have HB3 := Lib.hid (HB.out.touch ht3 (.inr (by omega)))
    have z3 := ht3.size
    clear hrd3 ht3
    by_cases x0 : 0 < x
    · go_wp2_with fail
      refine (pick_i w.heap.size (P2 + 1) _ _ HR3.out (by omega) (by omega) (by omega)).mono ?_
      rintro e w4 ⟨y, rfl, hy0, hy1, hrd4, ht4⟩
      obtain ⟨i, rfl⟩ : ∃ n : Nat, y = (n : Int) := ⟨y.toNat, by omega⟩
      have HT4 := Lib.hid (HT3.out.trans ht4)
      have HA4 := Lib.hid (HA3.out.touch ht4 (.inr (by omega)))
      have HB4 := Lib.hid (HB3.out.touch ht4 (.inr (by omega)))
      have z4 := ht4.size
      have hi : i < l.length := by omega
      obtain ⟨b, off, rfl, hbb, hq⟩ := (HB4.out.quadsB.mono (show w2.heap.size ≤ w4.heap.size by omega)).at hi
      obtain ⟨d0, d1, d2, d3⟩ := hq
      obtain ⟨q, hq⟩ : ∃ q, q = l[i]?.getD q0 := ⟨_, rfl⟩
      rw [← hq] at d0 d1 d2 d3
      have HQB := Lib.hid (QBox_new w4 q 62)
      obtain ⟨y0, y1, y2, y3⟩ := HQB.out.cells
      have HBL := Lib.hid ((Below.refl w4.heap.size w4).alloc (Nat.le_refl _) (.cells #[.int .i64 q.1, .int .i64 q.2.1, .int .i64 q.2.2.1, .int .i64 q.2.2.2] 62))
      have HT5 := Lib.hid (B1.out.trans ((HT4.out.then (HBL.out.mono (by omega))).below (by omega) (by omega)))
      have HA5 := Lib.hid ((HA4.out.below HBL.out (by omega)).grid (by simp; omega))
      have HB5 := Lib.hid ((HB4.out.below HBL.out (by omega)).quads)
      clear hrd4 ht4 hq
      go_wp2_with fail
      clear d0 d1 d2 d3
      obtain ⟨wo, hwo⟩ : ∃ wo, wo = w4.alloc (.cells #[.int .i64 q.1, .int .i64 q.2.1, .int .i64 q.2.2.1, .int .i64 q.2.2.2] 62) := ⟨_, rfl⟩
      obtain ⟨H, hH⟩ : ∃ H, H = w4.heap.size := ⟨_, rfl⟩
      rw [← hwo] at HT5 HA5 HB5 ⊢
      rw [← hwo, ← hH] at y0 y1 y2 y3
      rw [← hH]
      clear hwo hH HBL HQB
      go_quiet (fail)
      go_wp2_with fail
      exact bodyPost_ret (v := .tuple #[va, .slice (some ⟨b, off, none⟩) l.length uc, .int .i64 q.1, .int .i64 q.2.1]) (by simp [results, Try.results19, go_sem]) rfl ⟨va, _, g, l, _, _, rfl, (GridB.below (show GridB wo.heap.size wo va g from HA5.out) (below_n (Below.refl _ _) _) (Nat.le_refl _)).grid (Nat.le_refl _), (HB5.out.quadsB.below (below_n (Below.refl _ _) _) (Nat.le_refl _)).quads (Nat.le_refl _), DA.out, hl, below_n HT5.out _⟩
    · go_wp2_with fail
      refine (pick_i w.heap.size (P2 + 1) _ _ HR3.out (by omega) (by omega) (by omega)).mono ?_
      rintro e w5 ⟨a5, rfl, ha0, ha1, hrd5, ht5⟩
      have HT5 := Lib.hid (HT3.out.trans ht5)
      have HA5 := Lib.hid (HA3.out.touch ht5 (.inr (by omega)))
      have HB5 := Lib.hid (HB3.out.touch ht5 (.inr (by omega)))
      have z5 := ht5.size
      clear ht5
      go_wp2_with fail
      refine (pick_i w.heap.size ((P2 + 1) + 1) _ _ hrd5 (by omega) (by omega) (by omega)).mono ?_
      rintro e w6 ⟨a6, rfl, hb0, hb1, hrd6, ht6⟩
      have HT6 := Lib.hid (HT5.out.trans ht6)
      have HA6 := Lib.hid (HA5.out.touch ht6 (.inr (by omega)))
      have HB6 := Lib.hid (HB5.out.touch ht6 (.inr (by omega)))
      have z6 := ht6.size
      clear ht6
      obtain ⟨z, hz, hz1, hz2⟩ : ∃ z : Int, a6.tdiv 11 = z ∧ 0 ≤ z ∧ z ≤ 1 := ⟨_, rfl, by rw [Int.tdiv_eq_ediv_of_nonneg hb0]; omega, by rw [Int.tdiv_eq_ediv_of_nonneg hb0]; omega⟩
      have w1' := wrap_small (x := z) (by omega) (by omega)
      have w2' := wrap_small (x := a5 - z) (by omega) (by omega)
      go_wp2_with fail
      refine (pick_i w.heap.size ((P2 + 1) + 1 + 1) _ _ hrd6 (by omega) (by omega) (by omega)).mono ?_
      rintro e w7 ⟨a7, rfl, hc0, hc1, hrd7, ht7⟩
      have HT7 := Lib.hid (B1.out.trans ((HT6.out.trans ht7).below (by omega) (by omega)))
      have HA7 := Lib.hid ((HA6.out.touch ht7 (.inr (by omega))).grid (by have := ht7.size; omega))
      have HB7 := Lib.hid (HB6.out.touch ht7 (.inr (by omega))).quads
      clear ht7
      go_wp2_with fail
      exact bodyPost_ret (v := .tuple #[va, .slice ua l.length uc, .int .i64 (a5 - z), .int .i64 a7]) (by simp [results, Try.results19, go_sem]) rfl ⟨va, _, g, l, _, _, rfl, HA7.out, HB7.out, DA.out, hl, HT7.out⟩
  · have hp' : ¬ (0 : Int) < (l.length : Int) := by omega
    go_wp2_with fail
    refine (pick_i w.heap.size P2 _ _ HR.out (by omega) (by omega) (by omega)).mono ?_
    rintro e w5 ⟨a5, rfl, ha0, ha1, hrd5, ht5⟩
    have HT5 := Lib.hid (HT.out.trans ht5)
    have HA5 := Lib.hid (HA.out.touch ht5 (.inr (by omega)))
    have HB5 := Lib.hid (HB.out.touch ht5 (.inr (by omega)))
    have z5 := ht5.size
    clear ht5
    go_wp2_with fail
    refine (pick_i w.heap.size (P2 + 1) _ _ hrd5 (by omega) (by omega) (by omega)).mono ?_
    rintro e w6 ⟨a6, rfl, hb0, hb1, hrd6, ht6⟩
    have HT6 := Lib.hid (HT5.out.trans ht6)
    have HA6 := Lib.hid (HA5.out.touch ht6 (.inr (by omega)))
    have HB6 := Lib.hid (HB5.out.touch ht6 (.inr (by omega)))
    have z6 := ht6.size
    clear ht6
    obtain ⟨z, hz, hz1, hz2⟩ : ∃ z : Int, a6.tdiv 11 = z ∧ 0 ≤ z ∧ z ≤ 1 := ⟨_, rfl, by rw [Int.tdiv_eq_ediv_of_nonneg hb0]; omega, by rw [Int.tdiv_eq_ediv_of_nonneg hb0]; omega⟩
    have w1' := wrap_small (x := z) (by omega) (by omega)
    have w2' := wrap_small (x := a5 - z) (by omega) (by omega)
    go_wp2_with fail
    refine (pick_i w.heap.size (P2 + 1 + 1) _ _ hrd6 (by omega) (by omega) (by omega)).mono ?_
    rintro e w7 ⟨a7, rfl, hc0, hc1, hrd7, ht7⟩
    have HT7 := Lib.hid (B1.out.trans ((HT6.out.trans ht7).below (by omega) (by omega)))
    have HA7 := Lib.hid ((HA6.out.touch ht7 (.inr (by omega))).grid (by have := ht7.size; omega))
    have HB7 := Lib.hid (HB6.out.touch ht7 (.inr (by omega))).quads
    clear ht7
    go_wp2_with fail
    exact bodyPost_ret (v := .tuple #[va, .slice ua l.length uc, .int .i64 (a5 - z), .int .i64 a7]) (by simp [results, Try.results19, go_sem]) rfl ⟨va, _, g, l, _, _, rfl, HA7.out, HB7.out, DA.out, hl, HT7.out⟩
end Go.Proofs.Ytebhbcjioolpeab
