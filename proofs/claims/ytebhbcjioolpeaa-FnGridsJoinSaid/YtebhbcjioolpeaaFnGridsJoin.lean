/-
  FnGridsJoin: for every code the law returns true and leaves what was there as it was. No condition.
-/
import Derived.Test.YtebhbcjioolpeaaDrawN
import Derived.Test.YtebhbcjioolpeaaPart
import Derived.Test.YtebhbcjioolpeaaJoin2
import Derived.Test.YtebhbcjioolpeaaFacts
import Derived.ProofKit
import Derived.OpenShut
import Derived.ShutString
import Derived.ChangeOld
import Derived.Below
namespace Go.Proofs.Ytebhbcjioolpeaa
open Go.RowKit Go.Deep

theorem gapUp_zero {ga gb : Rows} (hs : Same ga gb) : ∀ n, n ≤ ga.length → gapUpTo ga gb n = 0 → ∀ k, k < n → lastOf ga k = firstOf gb k := by
  intro n
  induction n with
  | zero => intro _ _ k hk; omega
  | succ n ih =>
    intro hn h0 k hk
    have := gap_small hs n (by omega)
    rw [gapUpTo] at h0
    have ha : 0 ≤ aparts (lastOf ga n) (firstOf gb n) := by unfold aparts; omega
    have e1 : gapUpTo ga gb n = 0 := by omega
    have e2 : aparts (lastOf ga n) (firstOf gb n) = 0 := by omega
    by_cases e : k = n
    · subst e; unfold aparts at e2; omega
    · exact ih (by omega) e1 k (by omega)
theorem join_get {ga gb : Rows} {i : Nat} (hi : i < ga.length) : (joinRows ga gb ga.length)[i]?.getD [] = (ga[i]?.getD []) ++ (gb[i]?.getD []).drop 1 := joinRows_get _ _ _ _ hi
theorem join_rowlen {ga gb : Rows} (h : Same ga gb) {i : Nat} (hi : i < ga.length) : ((joinRows ga gb ga.length)[i]?.getD []).length = colsOf ga + colsOf gb - 1 := by
  have h1 := (h.1.2.2.2.2 i hi).1
  have h2 := (h.2.1.2.2.2.2 i (by have := h.2.2; omega)).1
  have h3 := h.2.1.2.2.1
  rw [join_get hi, List.length_append, List.length_drop, h1, h2]
  omega
theorem join_cols {ga gb : Rows} (h : Same ga gb) : colsOf (joinRows ga gb ga.length) = colsOf ga + colsOf gb - 1 := by
  have := join_rowlen h (i := 0) h.1.1
  unfold colsOf at this ⊢
  exact this
theorem join_left {ga gb : Rows} (h : Same ga gb) {i j : Nat} (hi : i < ga.length) (hj : j < colsOf ga) : ((joinRows ga gb ga.length)[i]?.getD [])[j]?.getD 0 = (ga[i]?.getD [])[j]?.getD 0 := by
  rw [join_get hi, List.getElem?_append_left (by rw [(h.1.2.2.2.2 i hi).1]; exact hj)]
theorem join_right {ga gb : Rows} (h : JoinOk ga gb) {i j : Nat} (hi : i < ga.length) (hj : j < colsOf gb) : ((joinRows ga gb ga.length)[i]?.getD [])[colsOf ga - 1 + j]?.getD 0 = (gb[i]?.getD [])[j]?.getD 0 := by
  have hs := same_of_gap h.1
  have hc := hs.1.2.2.1
  have hl := (hs.1.2.2.2.2 i hi).1
  by_cases e : j = 0
  · subst e
    rw [Nat.add_zero, join_left hs hi (by omega)]
    have := gapUp_zero hs _ (Nat.le_refl _) (by rw [← gap_val hs]; exact h.1) i hi
    exact this
  · rw [join_get hi, List.getElem?_append_right (by omega), List.getElem?_drop, hl]
    congr 2
    omega
theorem join_ok {ga gb : Rows} (h : JoinOk ga gb) : GridOk (joinRows ga gb ga.length) := by
  have hs := same_of_gap h.1
  have h1 := hs.1.2.2.1
  have h2 := hs.2.1.2.2.1
  have h8 := h.2
  refine ⟨by rw [joinRows_len]; exact hs.1.1, by rw [joinRows_len]; exact hs.1.2.1, by rw [join_cols hs]; omega, by rw [join_cols hs]; omega, fun i hi => ?_⟩
  rw [joinRows_len] at hi
  rw [join_cols hs]
  refine ⟨join_rowlen hs hi, fun j hj => ?_⟩
  rw [join_rowlen hs hi] at hj
  by_cases e : j < colsOf ga
  · rw [join_left hs hi e]; exact hs.1.cell hi e
  · have := join_right h hi (j := j - (colsOf ga - 1)) (by omega)
    rw [show colsOf ga - 1 + (j - (colsOf ga - 1)) = j by omega] at this
    rw [this]
    exact hs.2.1.cell (by have := hs.2.2; omega) (by omega)
theorem part_left {ga gb : Rows} (h : Same ga gb) : partOf (joinRows ga gb ga.length) 0 0 ga.length (colsOf ga) = ga := by
  refine rows_eq (rowsOf_length _ _ _) fun i hi => ?_
  rw [show (partOf (joinRows ga gb ga.length) 0 0 ga.length (colsOf ga)).length = ga.length from rowsOf_length _ _ _] at hi
  have hl := (h.1.2.2.2.2 i hi).1
  unfold partOf
  rw [rowsOf_get _ _ _ _ hi]
  refine row_ext (by simp [hl]) fun j hj => ?_
  have hj : j < colsOf ga := by simpa using hj
  rw [range_get hj, div_row hj, mod_row hj]
  unfold hP
  rw [Nat.zero_add, Nat.zero_add, join_left h hi hj]
theorem part_right {ga gb : Rows} (h : JoinOk ga gb) : partOf (joinRows ga gb ga.length) 0 (colsOf ga - 1) ga.length (colsOf gb) = gb := by
  have hs := same_of_gap h.1
  refine rows_eq ((rowsOf_length _ _ _).trans hs.2.2) fun i hi => ?_
  rw [show (partOf (joinRows ga gb ga.length) 0 (colsOf ga - 1) ga.length (colsOf gb)).length = ga.length from rowsOf_length _ _ _] at hi
  have hl := (hs.2.1.2.2.2.2 i (by have := hs.2.2; omega)).1
  unfold partOf
  rw [rowsOf_get _ _ _ _ hi]
  refine row_ext (by simp [hl]) fun j hj => ?_
  have hj : j < colsOf gb := by simpa using hj
  rw [range_get hj, div_row hj, mod_row hj]
  unfold hP
  rw [Nat.zero_add, join_right h hi hj]

theorem sameGrid_yes (va vb : Value) (g : Rows) (w : World) (ha : Grid w va g) (hb : Grid w vb g) :
    Calls Try.prog 33 #[va, vb] w fun e w' => e = .returned (.bool true) ∧ Below w.heap.size w w' := by
  have := sameGrid_b va vb g g w ha hb
  rwa [decide_eq_true rfl] at this
open BigFrame Go.Sort

set_option maxHeartbeats 4000000 in
set_option maxRecDepth 100000 in
theorem FnGridsJoin_walk (v : Value) (n : Nat) (w : World) (h : Bytes w v n) :
    Calls Try.prog 12 #[v] w fun e w' => e = .returned (.bool true) ∧ Below w.heap.size w w' := by
  have CD := Lib.hid (DrawGridsJoin_any v n w h)
  obtain ⟨a, cap, rfl, h1, h2, h3⟩ := h
  clear h3
  by_cases hbig : 1048576 < n
  · have hb' : (1048576 : Int) < (n : Int) := by omega
    go_enter Try.func12, Try.ntmps12
    go_wp2
    go_ret
    exact ⟨rfl, Below.refl _ _⟩
  have hb' : ¬ (1048576 : Int) < (n : Int) := by omega
  clear hbig
  go_enter Try.func12, Try.ntmps12
  go_wp2_with fail
  refine CD.out.mono ?_
  rintro e w1 ⟨va, vb, ga, gb, rfl, hA, hB, dA, dB, hb1⟩
  have B := Lib.hid hb1
  have s1 := hb1.size
  have A := Lib.hid (show GridB w1.heap.size w1 va ga from hA)
  have G := Lib.hid (show GridB w1.heap.size w1 vb gb from hB)
  clear hA hB hb1 CD
  go_wp2_with fail
  with_reducible refine (GridsJoin_any va vb ga gb w1 (A.out.grid (by omega)) (G.out.grid (by omega))).mono ?_
  rintro e w2 ⟨x, rfl, hO, hb2⟩
  have X := Lib.hid (show GridB w2.heap.size w2 x _ from hO.grid (Nat.le_refl _))
  clear hO
  have s2 := hb2.size
  replace A := Lib.hid (A.out.below hb2 (by omega))
  replace G := Lib.hid (G.out.below hb2 (by omega))
  replace B := Lib.hid (B.out.trans (hb2.mono (by omega)))
  clear hb2
  go_wp2_with fail
  with_reducible refine (specGridsJoin_any va vb ga gb w2 (A.out.grid (by omega)) (G.out.grid (by omega))).mono ?_
  rintro e w3 ⟨y, rfl, hO, hb3⟩
  have Y := Lib.hid hO
  clear hO
  have s3 := hb3.size
  replace A := Lib.hid (A.out.below hb3 (by omega))
  replace G := Lib.hid (G.out.below hb3 (by omega))
  replace X := Lib.hid (X.out.below hb3 (by omega))
  replace B := Lib.hid (B.out.trans (hb3.mono (by omega)))
  clear hb3
  by_cases hs : JoinOk ga gb
  · have HJ := Lib.hid hs
    have hsame := same_of_gap hs.1
    have HS := Lib.hid hsame
    have hgl := hsame.1.1
    have hgl2 := hsame.1.2.1
    have hca := hsame.1.2.2.1
    have hcb := hsame.2.1.2.2.1
    have hca2 := hsame.1.2.2.2.1
    have hcb2 := hsame.2.1.2.2.2.1
    have hlb : Hid (gb.length = ga.length) := hsame.2.2.symm
    have e1 := Lib.hid (decide_eq_true hs)
    have eJ : joinAll ga gb = joinRows ga gb ga.length := if_pos hs
    rw [eJ] at X Y
    rw [e1.out]
    clear hs hsame eJ
    go_wp2_with fail
    with_reducible refine (sameGrid_b x y _ _ w3 (X.out.grid (by omega)) (Y.out.grid (by omega))).mono ?_
    rintro e w4 ⟨rfl, hb4⟩
    rw [decide_eq_true rfl]
    have s4 := hb4.size
    replace A := Lib.hid (A.out.below hb4 (by omega))
    replace G := Lib.hid (G.out.below hb4 (by omega))
    replace X := Lib.hid (X.out.below hb4 (by omega))
    replace Y := Lib.hid (Y.out.below hb4 (by omega))
    replace B := Lib.hid (B.out.trans (hb4.mono (by omega)))
    clear hb4
    clear Y
    obtain ⟨b1, o1, c1, hv1, _, _, k1, HC1⟩ := (A.out.mono (show w1.heap.size ≤ w4.heap.size by omega)).open (by omega)
    obtain ⟨b2, o2, c2, hv2, _, _, k2, HC2⟩ := (G.out.mono (show w1.heap.size ≤ w4.heap.size by omega)).open (by have := hlb.out; omega)
    obtain ⟨b3, o3, c3, hv3, _, _, k3, HC3⟩ := (X.out.mono (show w2.heap.size ≤ w4.heap.size by omega)).open (by rw [joinRows_len]; omega)
    obtain ⟨p1, d1, x1, u1, u1', _⟩ := HC1 0 (by omega)
    obtain ⟨p2, d2, x2, u2, u2', _⟩ := HC2 0 (by have := hlb.out; omega)
    obtain ⟨p3, d3, x3, u3, u3', _⟩ := HC3 0 (by rw [joinRows_len]; omega)
    rw [(HS.out.1.2.2.2.2 0 (by omega)).1] at x1 u1
    rw [(HS.out.2.1.2.2.2.2 0 (by have := hlb.out; omega)).1] at x2 u2
    rw [join_rowlen HS.out (by omega)] at x3 u3
    rw [Nat.add_zero] at x1 x2 x3
    rw [hlb.out] at hv2
    rw [joinRows_len] at hv3
    clear HC1 HC2 HC3
    obtain ⟨n, hn⟩ : ∃ n, ga.length = n + 1 := ⟨ga.length - 1, by omega⟩
    obtain ⟨m, hm⟩ : ∃ m, colsOf ga = m + 1 := ⟨colsOf ga - 1, by omega⟩
    obtain ⟨l, hl⟩ : ∃ m, colsOf gb = m + 1 := ⟨colsOf gb - 1, by omega⟩
    have P1 : Hid (∀ w, Grid w x (joinRows ga gb ga.length) → Calls Try.prog 44 #[x, .int .i64 0, .int .i64 (n : Int), .int .i64 0, .int .i64 (m : Int)] w fun e w' => ∃ v, e = .returned (.tuple #[v, .bool true]) ∧ OwnG w.heap.size w'.heap.size w' v ga ∧ Below w.heap.size w w') := fun w h => by
      have := GridPart_any x _ 0 n 0 m w h (join_ok HJ.out) (Nat.zero_le _) (by rw [joinRows_len, hn]; omega) (Nat.zero_le _) (by rw [join_cols HS.out]; omega)
      rw [Nat.sub_zero, Nat.sub_zero, ← hn, ← hm, part_left HS.out] at this
      exact this
    have P2 : Hid (∀ w, Grid w x (joinRows ga gb ga.length) → Calls Try.prog 44 #[x, .int .i64 0, .int .i64 (n : Int), .int .i64 (m : Int), .int .i64 ((m : Int) + (l : Int))] w fun e w' => ∃ v, e = .returned (.tuple #[v, .bool true]) ∧ OwnG w.heap.size w'.heap.size w' v gb ∧ Below w.heap.size w w') := fun w h => by
      have := GridPart_any x _ 0 n m (m + l) w h (join_ok HJ.out) (Nat.zero_le _) (by rw [joinRows_len, hn]; omega) (by omega) (by rw [join_cols HS.out]; omega)
      rw [Nat.sub_zero, ← hn, show m + l - m + 1 = colsOf gb by omega, show m = colsOf ga - 1 by omega, part_right HJ.out, Int.natCast_add] at this
      rw [show m = colsOf ga - 1 by omega]
      exact this
    rw [hm] at x1 u1 hca2
    rw [hl] at x2 u2 hcb2
    rw [hm, hl, show m + 1 + (l + 1) - 1 = m + l + 1 by omega] at x3 u3
    rw [hn] at hv1 hv2 hv3 hgl2
    have X1 := Lib.hid x1
    have X2 := Lib.hid x2
    have X3 := Lib.hid x3
    have V1 := Lib.hid hv1
    have V2 := Lib.hid hv2
    have V3 := Lib.hid hv3
    subst hv1
    subst hv2
    subst hv3
    have w0' : IntKind.i64.wrap (n : Int) = (n : Int) := IntWalk.i64_in _ (by omega)
    have w1' : IntKind.i64.wrap ((n : Int) + 1 - 1) = (n : Int) := by rw [Int.add_sub_cancel]; exact w0'
    have w2' : IntKind.i64.wrap (m : Int) = (m : Int) := IntWalk.i64_in _ (by omega)
    have w3' : IntKind.i64.wrap ((m : Int) + 1 - 1) = (m : Int) := by rw [Int.add_sub_cancel]; exact w2'
    have w4' : IntKind.i64.wrap ((m : Int) + 1 + ((l : Int) + 1)) = (m : Int) + 1 + ((l : Int) + 1) := wrap_small (by omega) (by omega)
    have e5 : (m : Int) + 1 + ((l : Int) + 1) - 2 = (m : Int) + (l : Int) := by omega
    have w5' : IntKind.i64.wrap ((m : Int) + (l : Int)) = (m : Int) + (l : Int) := wrap_small (by omega) (by omega)
    have w6' : IntKind.i64.wrap ((m : Int) + 1 + ((l : Int) + 1) - 1) = (m : Int) + (l : Int) + 1 := by rw [wrap_small (by omega) (by omega)]; omega
    have n1 : (0 : Int) < (n : Int) + 1 := by omega
    clear hn hm hl
    go_wp2_with fail
    with_reducible refine (P1.out _ (X.out.grid (by omega))).mono ?_
    rintro e w5 ⟨x5, rfl, hO, hb5⟩
    have s5 := hb5.size
    have L5 := Lib.hid (show GridB w5.heap.size w5 x5 ga from hO.grid (Nat.le_refl _))
    replace A := Lib.hid (A.out.below hb5 (by omega))
    replace G := Lib.hid (G.out.below hb5 (by omega))
    replace X := Lib.hid (X.out.below hb5 (by omega))
    replace B := Lib.hid (B.out.trans (hb5.mono (by omega)))
    replace X2 := Lib.hid ((hb5.cell (p := ⟨b2, o2, none⟩) (by show b2 < _; omega)).trans X2.out)
    replace X3 := Lib.hid ((hb5.cell (p := ⟨b3, o3, none⟩) (by show b3 < _; omega)).trans X3.out)
    have i2 := X2.out
    clear hO hb5 x1 x2 x3 X1 P1
    go_wp2_with fail
    with_reducible refine (P2.out _ (X.out.grid (by omega))).mono ?_
    rintro e w6 ⟨x6, rfl, hO, hb6⟩
    have s6 := hb6.size
    have L6 := Lib.hid (show GridB w6.heap.size w6 x6 gb from hO.grid (Nat.le_refl _))
    replace L5 := Lib.hid (L5.out.below hb6 (by omega))
    replace A := Lib.hid (A.out.below hb6 (by omega))
    replace G := Lib.hid (G.out.below hb6 (by omega))
    replace B := Lib.hid (B.out.trans (hb6.mono (by omega)))
    have i2 := (hb6.cell (p := ⟨b2, o2, none⟩) (by show b2 < _; omega)).trans X2.out
    have i3 := (hb6.cell (p := ⟨b3, o3, none⟩) (by show b3 < _; omega)).trans X3.out
    clear hO hb6 X2 X3 P2 X
    have q2 := cell_regrown (w := w6) i2
    have q3 := cell_regrown (w := w6) i3
    have cA : ∀ d os, Calls Try.prog 33 #[x5, .slice (some ⟨b1, o1, none⟩) (n + 1) c1] (grow (redrawn w6 d) os) fun e w'' => e = .returned (.bool true) ∧ ∃ p : Regrown, w'' = grow (redrawn w6 p.d) p.os := fun d os => Calls.regrown_of (sameGrid_yes _ _ _ _ ((L5.out.below (below_regrown w6 d os) (by omega)).grid (by have := (below_regrown w6 d os).size; omega)) ((A.out.below (below_regrown w6 d os) (by omega)).grid (by have := (below_regrown w6 d os).size; omega)))
    have cB : ∀ d os, Calls Try.prog 33 #[x6, .slice (some ⟨b2, o2, none⟩) (n + 1) c2] (grow (redrawn w6 d) os) fun e w'' => e = .returned (.bool true) ∧ ∃ p : Regrown, w'' = grow (redrawn w6 p.d) p.os := fun d os => Calls.regrown_of (sameGrid_yes _ _ _ _ ((L6.out.below (below_regrown w6 d os) (by omega)).grid (by have := (below_regrown w6 d os).size; omega)) ((G.out.below (below_regrown w6 d os) (by omega)).grid (by have := (below_regrown w6 d os).size; omega)))
    go_wp2
    refine wp_region_quiet_below (by kernel_rfl) (by kernel_rfl) ?_
    repeat (go_big_quiet_step (first | with_reducible exact cA _ _ | with_reducible exact cB _ _))
    refine wpQuiet_nil ?_
    intro _ hw'
    obtain ⟨⟨dq, osq⟩, hw''⟩ := hw'
    subst hw''
    have HBQ := Lib.hid (below_regrown w6 dq osq)
    clear cA cB q2 q3
    go_wp2
    go_ret
    exact ⟨ret_bool (by simp), B.out.trans (HBQ.out.mono (by omega))⟩
  · have eJ : joinAll ga gb = [] := if_neg hs
    rw [eJ] at X Y
    have e1 := Lib.hid (decide_eq_false hs)
    rw [e1.out]
    clear hs eJ
    go_wp2_with fail
    with_reducible refine (sameGrid_b x y _ _ w3 (X.out.grid (by omega)) (Y.out.grid (by omega))).mono ?_
    rintro e w4 ⟨rfl, hb4⟩
    rw [decide_eq_true rfl]
    have s4 := hb4.size
    replace X := Lib.hid (X.out.below hb4 (by omega))
    replace Y := Lib.hid (Y.out.below hb4 (by omega))
    replace B := Lib.hid (B.out.trans (hb4.mono (by omega)))
    clear hb4
    go_wp2_with fail
    with_reducible refine (sameGrid_b x y _ _ w4 (X.out.grid (by omega)) (Y.out.grid (by omega))).mono ?_
    rintro e w5 ⟨rfl, hb5⟩
    rw [decide_eq_true rfl]
    have s5 := hb5.size
    replace X := Lib.hid (X.out.below hb5 (by omega))
    replace Y := Lib.hid (Y.out.below hb5 (by omega))
    replace B := Lib.hid (B.out.trans (hb5.mono (by omega)))
    clear hb5
    go_wp2
    go_ret
    exact ⟨rfl, B.out⟩
end Go.Proofs.Ytebhbcjioolpeaa
namespace Go.Proofs.Ytebhbcjioolpeaa.fnGridsJoin
open Go.ChangeShapes Go.WideShapes Go.ChangeAt Go.RowKit
set_option linter.unusedVariables false

theorem own : ownKnob Try.prog.godebug = none := by kernel_rfl
theorem laidOut : laidOutB Try.prog = true := fact_laid
set_option maxRecDepth 100000 in
theorem lifted (os : Os) (started : os.Started) (H : Type) (enc : TypeId × Value → H) :
    ReturnsInHanded {} Try.checked os 12 .any (Rows.fnGridsJoinSpec.pre6 enc Try.prog Try.f12 Rows.fnGridsJoinRow.domain false) (Rows.fnGridsJoinSpec.post enc Try.prog Try.f12 false true false false) := by
  refine returnsInHanded_of_change (C := Try.checked) own started (by kernel_rfl) Try.func12
    (ChangeSpec.witness6 (enc := enc) (C := Try.checked) false ⟨#[], #[.slice none 0 0], []⟩ 8 (by kernel_rfl) (by kernel_rfl) (by kernel_rfl) (by kernel_rfl)) ?_
  intro W base args ds gs before hval0 hW hcnd _
  have hval : ∀ (j : Nat) t v, Try.f12.params[j]? = some t → args[j]? = some v → Value.okWide Try.prog W .any base t v := hval0
  have hW' := hW
  obtain ⟨p, q, hA0, hV, rfl, hfz, hnd⟩ := hW
  have hA : DataW.TrodAll enc Try.prog W 0 (fun _ => true) true Try.f12.params.toList args.toList ds p := hA0
  rw [Try.params12] at hA hval
  obtain ⟨v0, vs0, d0, ds0, p0, q0, hargs, rfl, rfl, h0, r0⟩ := trodAll_cons hA
  obtain ⟨rfl, rfl, rfl⟩ := trodAll_nil r0
  obtain rfl : args = #[v0] := by cases args; simp_all
  obtain ⟨rfl, rfl⟩ := trodVars_none hV
  obtain ⟨a0, len0, cap0, rfl⟩ := okWide_slice Try.underlying29 (hval 0 29 v0 rfl rfl)
  have k0 := h0
  have lt0 : ∀ x ∈ p0, x.block < W.heap.size := by obtain ⟨m, hm⟩ := k0; exact DataW.trod_lt m _ _ _ hm
  obtain ⟨z0, w0⟩ : ∃ zs, Bytes W (.slice a0 len0 cap0) zs := bytes_opened h0
  clear hA0 hval0
  refine (FnGridsJoin_walk _ z0 W w0).mono fun e W' ⟨he, bel⟩ => ?_
  subst he
  exact ⟨_, rfl, _, _, _, [], _, [], hW', trodAll_mk1 (shut_bool Try.underlying4 _), (trodAll_cons_mk (Below.trod laidOut (by kernel_rfl) (of_decide_eq_true (by kernel_rfl)) k0 bel lt0) trodAll_mk0), rfl, bel.frame _, fun h => by cases h⟩
theorem fact_inPlace : (Rows.fnGridsJoinRow.inPlace == Try.prog.inPlace 12) = true := by kernel_rfl
theorem fact_unfollowed : (Rows.fnGridsJoinRow.unfollowed == Try.prog.unfollowed 12) = true := by kernel_rfl
theorem fact_recurses : (Rows.fnGridsJoinRow.recurses == Try.prog.recurses 12) = true := by kernel_rfl
theorem fact_named : (Rows.fnGridsJoinRow.named == Try.prog.varsNamed 12) = true := by kernel_rfl
theorem fact_plain : (Rows.fnGridsJoinRow.plainKeys == Try.prog.plainKeys) = true := by kernel_rfl
theorem joined : joinedFacts Try.pinned.checked.prog 12 Try.f12 Rows.fnGridsJoinSpec Rows.fnGridsJoinRow = true :=
  joined_of (f := 12) (fn := Try.f12) (s := Rows.fnGridsJoinSpec) (c := Rows.fnGridsJoinRow) (by kernel_rfl) (by kernel_rfl) (by kernel_rfl) (by kernel_rfl) (by kernel_rfl) fact_inPlace fact_unfollowed fact_recurses fact_named (by kernel_rfl) (by kernel_rfl) (by kernel_rfl) (by kernel_rfl) (by kernel_rfl) (by kernel_rfl) (by kernel_rfl) (by kernel_rfl) (by kernel_rfl) fact_plain (by kernel_rfl) rfl rfl (by kernel_rfl) (by kernel_rfl) (by kernel_rfl) (by kernel_rfl)

/-- the statement -/
theorem proved : Rows.FnGridsJoinSaid :=
  OpenClaim.holds_of_wide 12 Try.f12 rfl rfl rfl rfl rfl rfl rfl ⟨rfl, rfl, rfl, rfl, rfl⟩ rfl rfl rfl rfl rfl (by kernel_rfl) Try.func12 joined
    (of_decide_eq_true (by kernel_rfl)) (by unfold Func.isWrapper; first | (rw [if_pos (by decide +kernel)]; kernel_rfl) | (rw [if_neg (by decide +kernel)]; exact ⟨rfl, rfl⟩))
    (fun os started H enc _ => lifted os started H enc)
#print axioms proved
end Go.Proofs.Ytebhbcjioolpeaa.fnGridsJoin
