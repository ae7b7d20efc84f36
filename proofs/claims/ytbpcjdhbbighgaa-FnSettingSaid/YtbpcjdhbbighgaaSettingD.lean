/-
  The draw of labels and a list that is often a setting. Condition: the reader lies; the code's slice reads as bytes.
-/
import Derived.Test.YtbpcjdhbbighgaaLawKit2
import Derived.Test.YtbpcjdhbbighgaaDrawS
import Derived.Deep.RegionHeld3
namespace Go.Proofs.Ytbpcjdhbbighgaa
open Go.RowKit Go.Deep
set_option linter.unusedVariables false
set_option linter.unusedSimpArgs false

theorem greedyOut_len (l : List Quad) : (greedyOut l).length = if ValidL l then l.length else 0 := by
  unfold greedyOut
  split
  · rename_i h; exact (greedy_ok h).1.2.1
  · rfl
theorem own_touchR {lo hi R : Nat} {w w' : World} {v : Value} {l : List Int} (h : Own lo hi w v l) (ht : Touch R (R + 1) w w') (hR : R < lo) : Own lo hi w' v l := h.touch ht (.inr (by omega))

set_option maxHeartbeats 2000000 in
set_option maxRecDepth 100000 in
theorem l92Setting_any (R P : Nat) (w : World) (h : Rd w R P) (hP : P ≤ 1000) :
    Calls Try.prog 72 #[.pointer (some ⟨R, 0, none⟩)] w fun e w' => ∃ vl l vs s, e = .returned (.tuple #[vl, vs]) ∧ Quads w' vl l ∧ Ints w' vs s ∧ s.length = l.length ∧ l.length ≤ 7 ∧ Touch R (R + 1) w w' := by
  have hRw := h.lt
  have HR0 := Lib.hid h
  clear h
  go_enter Try.func72, Try.ntmps72
  go_wp2_with fail
  refine (l92Labels_any R P 5 w HR0.out hP (by omega) (by omega)).mono ?_
  rintro e w1 ⟨v1, l, P', rfl, hO, hl, hrd, hP', ht⟩
  have s1 := ht.size
  have HT1 := Lib.hid ht
  have RD1 := Lib.hid hrd
  have OQ := Lib.hid hO
  obtain ⟨la, lc, rfl, q1, q2, _⟩ := hO.quads
  have H := Lib.hid hO.quads.quadsB
  clear hO hrd ht
  go_wp2_with fail
  refine (specSettingGreedy_any _ l w1 (H.out.quads (Nat.le_refl _))).mono ?_
  rintro e w2 ⟨vs, rfl, hS, hb2⟩
  have s2 := hb2.size
  have RD2 := Lib.hid (RD1.out.below hb2 RD1.out.lt)
  have H2 := Lib.hid (OQ.out.below hb2 (Nat.le_refl _))
  have HT2 := Lib.hid (HT1.out.then (hb2.mono s1))
  have SI := Lib.hid hS.ints
  have gl := greedyOut_len l
  obtain ⟨G, hG⟩ : ∃ G, G = greedyOut l := ⟨_, rfl⟩
  rw [← hG] at SI gl
  have HG := Lib.hid hG
  have hR1 : R < w1.heap.size := by omega
  clear hS hb2 hG HT1 RD1 OQ
  by_cases hv : ValidL l
  · rw [decide_eq_true hv]
    rw [if_pos hv] at gl
    have GL := Lib.hid gl
    have hl6 := hv.1
    have g6 : G.length ≤ 6 := by omega
    have rlen : G.length ≤ 1000 := by omega
    clear hv
    obtain ⟨oa, oc, hx, hoc⟩ := ints_shape SI.out
    subst hx
    rcases Nat.eq_zero_or_pos G.length with g0 | g0
    · have hx0 : ¬ (0 : Int) < (G.length : Int) := by omega
      clear gl g0
      go_wp2_with (at_builtin; (refine app_copy w2 rfl _ _ rfl _ G SI.out rfl rfl rlen ?_); intro v' w3 hown3 hbel3; have s3 := hbel3.size; obtain ⟨xa, xc, hx, hxc⟩ := ints_shape hown3.ints; subst hx; have X3 := Lib.hid hown3.ints; have H3 := Lib.hid (H2.out.below hbel3 (by omega)); have HT3 := Lib.hid (HT2.out.then (hbel3.mono (by omega))); clear hown3 hbel3)
      go_ret2
      exact ⟨_, l, _, G, rfl, H3.out.quads, X3.out, GL.out, hl, HT3.out⟩
    · have hx0 : (0 : Int) < (G.length : Int) := by omega
      clear gl
      go_wp2_with (at_builtin; (refine app_copy w2 rfl _ _ rfl _ G SI.out rfl rfl rlen ?_); intro v' w3 hown3 hbel3; have s3 := hbel3.size; obtain ⟨xa, xc, hx, hxc⟩ := ints_shape hown3.ints; subst hx; have X3 := Lib.hid hown3; have H3 := Lib.hid (H2.out.below hbel3 (by omega)); have HT3 := Lib.hid (HT2.out.then (hbel3.mono (by omega))); have RD3 := Lib.hid (RD2.out.below hbel3 RD2.out.lt); clear hown3 hbel3)
      refine (pick_i R P' 2 w3 RD3.out (by omega) (by omega) (by omega)).mono ?_
      rintro e w4 ⟨p, rfl, a1, b1, hrd, ht⟩
      have s4 := ht.size
      have X4 := Lib.hid (own_touchR X3.out ht (by omega))
      have H4 := Lib.hid (H3.out.touch ht (.inr (by omega)))
      have HT4 := Lib.hid (HT3.out.trans ht)
      have RD4 := Lib.hid hrd
      clear hrd ht
      by_cases hp : p = 0
      · have ep : (p == 0) = true := by simp [hp]
        clear hp
        go_wp2_with fail
        refine (pick_i R (P' + 1) (G.length : Int) w4 RD4.out (by omega) (by omega) (by omega)).mono ?_
        rintro e w5 ⟨ix, rfl, a2, b2, hrd, ht⟩
        have s5 := ht.size
        have X5 := Lib.hid (own_touchR X4.out ht (by omega))
        have HT5 := Lib.hid (HT4.out.trans ht)
        have RD5 := Lib.hid hrd
        have H5 := Lib.hid (H4.out.touch ht (.inr (by omega)))
        clear hrd ht
        obtain ⟨i, rfl⟩ : ∃ i : Nat, ix = (i : Int) := ⟨ix.toNat, by omega⟩
        have hi : i < G.length := by omega
        go_wp2_with fail
        refine (pick_i R (P' + 1 + 1) 6 w5 RD5.out (by omega) (by omega) (by omega)).mono ?_
        rintro e w6 ⟨p6, rfl, a3, b3, hrd, ht⟩
        have s6 := ht.size
        have X6 := Lib.hid (own_touchR X5.out ht (by omega))
        have H6 := Lib.hid (H5.out.touch ht (.inr (by omega)))
        have HT6 := Lib.hid (HT5.out.trans ht)
        clear hrd ht
        obtain ⟨xb, xo, hxa, y1, y2, c0, f0, hset⟩ := own_at X6.out (k := i) hi
        subst hxa
        have AO := Lib.hid (hset (p6 - 1))
        obtain ⟨z, hz⟩ : ∃ z, z = G[i]?.getD 0 := ⟨_, rfl⟩
        rw [← hz] at c0
        have hs6 : Below w2.heap.size w6 (w6.setCell ⟨xb, xo + i, none⟩ (.int .i64 (p6 - 1))) := (Below.refl _ _).setCell (p := ⟨xb, xo + i, none⟩) y1 _
        have H7 := Lib.hid (H6.out.below hs6 (by omega))
        have HT7 := Lib.hid (HT6.out.then (hs6.mono (by omega)))
        have e9 : IntKind.i64.wrap (p6 - 1) = p6 - 1 := IntWalk.i64_in _ (by omega)
        have x3 : (0 : Int) ≤ (i : Int) := by omega
        have GL2 : Hid ((G.set i (p6 - 1)).length = l.length) := by show _ = _; rw [List.length_set]; exact GL.out
        clear hset hz hs6
        go_wp2_with fail
        go_ret2
        exact ⟨_, l, _, G.set i (p6 - 1), rfl, H7.out.quads, AO.out.ints, GL2.out, hl, HT7.out⟩
      · have ep : (p == 0) = false := by simp [hp]
        clear hp
        go_wp2_with fail
        go_ret2
        exact ⟨_, l, _, G, rfl, H4.out.quads, X4.out.ints, GL.out, hl, HT4.out⟩
  · rw [decide_eq_false hv]
    clear hv
    have hmk := run_make_row' (P := Try.prog) 27 3 (.int .i64 0) 8 Try.underlying27 info_int rfl .i64 .i64 l.length (by omega) (by omega)
    have SO : Hid (Ints ((w2.alloc (.cells (madeCells #[.int .i64 0] l.length) 3)).drew) (.slice (some ⟨w2.heap.size, 0, none⟩) l.length l.length) (List.replicate l.length 0)) := by
      have h := own_of_row (lo := 0) (hi := w2.heap.size + 1) (l := List.replicate l.length (0 : Int)) (cap := l.length) (by rw [List.length_replicate]; exact (World.rowIs_made w2 (.int .i64 0) l.length 3).drew) (fun j hj => by rw [List.getElem?_replicate]; split <;> rfl) (Nat.zero_le _) (Nat.lt_succ_self _) (by simp) (by omega)
      rw [List.length_replicate] at h
      exact h.ints
    have hb9 : Below w2.heap.size w2 ((w2.alloc (.cells (madeCells #[.int .i64 0] l.length) 3)).drew) := ((Below.refl _ _).alloc (Nat.le_refl _) _).drew
    have H9 := Lib.hid (H2.out.below hb9 (by omega))
    have HT9 := Lib.hid (HT2.out.then (hb9.mono (by omega)))
    clear hb9
    go_wp2_with fail
    go_region_held3 (fun _ => True) (trivial) (fail)
    go_wp2_with fail
    go_ret2
    exact ⟨_, l, _, _, rfl, H9.out.quads, SO.out, by simp, hl, HT9.out⟩
set_option maxHeartbeats 1000000 in
set_option maxRecDepth 100000 in
theorem DrawSettingValid_any (v : Value) (n : Nat) (w : World) (h : Bytes w v n) :
    Calls Try.prog 34 #[v] w fun e w' => ∃ vl l vs s, e = .returned (.tuple #[vl, vs]) ∧ Quads w' vl l ∧ Ints w' vs s ∧ s.length = l.length ∧ l.length ≤ 7 ∧ Below w.heap.size w w' := by
  have C := Lib.hid (l6Open_any v n w h)
  clear h
  go_enter Try.func34, Try.ntmps34
  go_wp2_with fail
  refine C.out.mono ?_
  rintro e w1 ⟨rfl, hrd, hb1⟩
  have B1 := Lib.hid hb1
  have z1 := hb1.size
  have HRD := Lib.hid hrd
  clear hb1 hrd
  go_wp2_with fail
  refine (l92Setting_any w.heap.size 0 w1 HRD.out (by omega)).mono ?_
  rintro e w2 ⟨vl, l, vs, s, rfl, hq, hi, hsl, hl, ht⟩
  have HQ := Lib.hid hq
  have HI := Lib.hid hi
  have HSL := Lib.hid hsl
  have HT := Lib.hid (B1.out.trans (ht.below (Nat.le_refl _) z1))
  clear hq hi hsl ht
  go_wp2_with fail
  go_ret2
  exact ⟨_, l, _, s, rfl, HQ.out, HI.out, HSL.out, hl, HT.out⟩
set_option maxHeartbeats 1000000 in
set_option maxRecDepth 100000 in
theorem DrawSettingWeight_any (v : Value) (n : Nat) (w : World) (h : Bytes w v n) :
    Calls Try.prog 37 #[v] w fun e w' => ∃ vl l vs s, e = .returned (.tuple #[vl, vs]) ∧ Quads w' vl l ∧ Ints w' vs s ∧ s.length = l.length ∧ l.length ≤ 7 ∧ Below w.heap.size w w' := by
  have C := Lib.hid (l6Open_any v n w h)
  clear h
  go_enter Try.func37, Try.ntmps37
  go_wp2_with fail
  refine C.out.mono ?_
  rintro e w1 ⟨rfl, hrd, hb1⟩
  have B1 := Lib.hid hb1
  have z1 := hb1.size
  have HRD := Lib.hid hrd
  clear hb1 hrd
  go_wp2_with fail
  refine (l92Setting_any w.heap.size 0 w1 HRD.out (by omega)).mono ?_
  rintro e w2 ⟨vl, l, vs, s, rfl, hq, hi, hsl, hl, ht⟩
  have HQ := Lib.hid hq
  have HI := Lib.hid hi
  have HSL := Lib.hid hsl
  have HT := Lib.hid (B1.out.trans (ht.below (Nat.le_refl _) z1))
  clear hq hi hsl ht
  go_wp2_with fail
  go_ret2
  exact ⟨_, l, _, s, rfl, HQ.out, HI.out, HSL.out, hl, HT.out⟩
set_option maxHeartbeats 1000000 in
set_option maxRecDepth 100000 in
theorem DrawSettingText_any (v : Value) (n : Nat) (w : World) (h : Bytes w v n) :
    Calls Try.prog 40 #[v] w fun e w' => ∃ vl l vs s, e = .returned (.tuple #[vl, vs]) ∧ Quads w' vl l ∧ Ints w' vs s ∧ s.length = l.length ∧ l.length ≤ 7 ∧ Below w.heap.size w w' := by
  have C := Lib.hid (l6Open_any v n w h)
  clear h
  go_enter Try.func40, Try.ntmps40
  go_wp2_with fail
  refine C.out.mono ?_
  rintro e w1 ⟨rfl, hrd, hb1⟩
  have B1 := Lib.hid hb1
  have z1 := hb1.size
  have HRD := Lib.hid hrd
  clear hb1 hrd
  go_wp2_with fail
  refine (l92Setting_any w.heap.size 0 w1 HRD.out (by omega)).mono ?_
  rintro e w2 ⟨vl, l, vs, s, rfl, hq, hi, hsl, hl, ht⟩
  have HQ := Lib.hid hq
  have HI := Lib.hid hi
  have HSL := Lib.hid hsl
  have HT := Lib.hid (B1.out.trans (ht.below (Nat.le_refl _) z1))
  clear hq hi hsl ht
  go_wp2_with fail
  go_ret2
  exact ⟨_, l, _, s, rfl, HQ.out, HI.out, HSL.out, hl, HT.out⟩
end Go.Proofs.Ytbpcjdhbbighgaa
