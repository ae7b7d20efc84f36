/-
  FnPlaces: for all arguments the law returns true and leaves what was there as it was. No condition.
-/
import Derived.Test.YtbpcjdhbbighgaaDrawP
import Derived.Test.YtbpcjdhbbighgaaPlacesOk
import Derived.Test.YtbpcjdhbbighgaaPlaces
import Derived.Test.YtbpcjdhbbighgaaBoardOf
import Derived.Test.YtbpcjdhbbighgaaLawKit
import Derived.Test.YtbpcjdhbbighgaaBytes
import Derived.Test.YtbpcjdhbbighgaaFacts
import Derived.ProofKit
import Derived.OpenShut
import Derived.ShutString
import Derived.ChangeOld
import Derived.Below
import Derived.Test.YtbpcjdhbbighgaaFacts
import Derived.ProofKit
import Derived.OpenShut
import Derived.ShutString
import Derived.ChangeOld
import Derived.Below
namespace Go.Proofs.Ytbpcjdhbbighgaa
open Go.RowKit Go.Deep

theorem sameInts_b (va vb : Value) (la lb : List Int) (w : World) (ha : Ints w va la) (hb : Ints w vb lb) :
    Calls Try.prog 16 #[va, vb] w fun e w' => e = .returned (.bool (decide (la = lb))) ∧ Below w.heap.size w w' :=
  (sameInts_any va vb la lb w ha hb).mono fun _ _ ⟨he, n, hw⟩ => ⟨he, by rw [hw]; exact below_n (Below.refl _ _) n⟩
theorem own_cells {lo hi : Nat} {w : World} {v : Value} {l : List Int} (h : Own lo hi w v l) (hp : 0 < l.length) : ∃ b off cap, v = .slice (some ⟨b, off, none⟩) l.length cap ∧ l.length ≤ cap ∧ cap ≤ 9223372036854775807 ∧ b < hi ∧ ∀ j, j < l.length → w.cell? ⟨b, off + j, none⟩ = some (.int .i64 (l[j]?.getD 0)) := by
  rcases h with ⟨rfl, _⟩ | ⟨b, off, cap, t, n, f, rfl, h1, h2, h3, h4, h5, h6, h7⟩
  · simp at hp
  · exact ⟨b, off, cap, rfl, h1, h2, h4, fun j hj => by rw [h5.cell (by omega), h7 j hj]⟩
theorem quads_at {w : World} {b : Nat} {q : Quad} (h : QAt w b 0 q) (hb : b < w.heap.size) : Quads w (.slice (some ⟨b, 0, none⟩) 1 1) [q] :=
  ⟨some ⟨b, 0, none⟩, 1, rfl, Nat.le_refl _, by omega, fun _ => ⟨b, 0, rfl, hb, fun j hj => by
    obtain rfl : j = 0 := by simpa using hj
    simpa using h⟩⟩
theorem ints_one {w : World} {b : Nat} {x : Int} (h : w.cell? ⟨b, 0, none⟩ = some (.int .i64 x)) (hb : b < w.heap.size) : Ints w (.slice (some ⟨b, 0, none⟩) 1 1) [x] :=
  ⟨some ⟨b, 0, none⟩, 1, rfl, Nat.le_refl _, by omega, fun _ => ⟨b, 0, rfl, hb, fun j hj => by
    obtain rfl : j = 0 := by simpa using hj
    simpa using h⟩⟩
theorem places_all_facts {q : Quad} {side : Int} (h : LabOk q) (hf : Fits q side) : ∃ (x : Int) (n : Nat), q.2.2.1 = (n : Int) ∧ 1 ≤ n ∧ n ≤ 5 ∧ (placesAll q side).length = n ∧ 0 ≤ x ∧ ∀ k : Nat, k < n →
    (placesAll q side)[k]?.getD 0 = x + (k : Int) ∧ x + (k : Int) ≤ 99 ∧ (x + (k : Int)).tdiv 10 = x.tdiv 10 ∧ x + (k : Int) ≠ 10 * q.2.1 + q.1 := by
  have e : placesAll q side = placesOf q side := if_pos h
  obtain ⟨p1, p2⟩ := places_facts h hf
  have hw := h.2.2.2.2.1
  have hw5 := h.2.2.2.2.2.1
  refine ⟨(placesOf q side)[0]?.getD 0, q.2.2.1.toNat, by omega, by omega, by omega, by rw [e, p1], (p2 0 (by omega)).2.1, fun k hk => ?_⟩
  obtain ⟨a1, a2, a3, a4, a5⟩ := p2 k (by omega)
  rw [e]
  refine ⟨a1, a3, ?_, a5⟩
  rw [Int.tdiv_eq_ediv_of_nonneg (by omega), Int.tdiv_eq_ediv_of_nonneg a2]
  exact a4
set_option maxHeartbeats 4000000 in
set_option maxRecDepth 100000 in
theorem FnPlaces_walk (v : Value) (n : Nat) (w : World) (h : Bytes w v n) :
    Calls Try.prog 3 #[v] w fun e w' => e = .returned (.bool true) ∧ Below w.heap.size w w' := by
  have CD := Lib.hid (DrawLabelPlaces_any v n w h)
  obtain ⟨a, cap, rfl, h1, h2, h3⟩ := h
  clear h3
  by_cases hbig : 1048576 < n
  · have hb' : (1048576 : Int) < (n : Int) := by omega
    go_enter Try.func3, Try.ntmps3
    go_wp2
    go_ret
    exact ⟨rfl, Below.refl _ _⟩
  have hb' : ¬ (1048576 : Int) < (n : Int) := by omega
  clear hbig
  go_enter Try.func3, Try.ntmps3
  go_wp2_with fail
  refine CD.out.mono ?_
  rintro e w1 ⟨q, side, rfl, sd0, sd1, hb1⟩
  have s1 := hb1.size
  have B1 := Lib.hid hb1
  obtain ⟨bv, hbv⟩ : ∃ bv, bv = decide (LabOk q ∧ Fits q side) := ⟨_, rfl⟩
  obtain ⟨pl, hpl⟩ : ∃ pl, pl = placesAll q side := ⟨_, rfl⟩
  have C1 : Hid (∀ W, Calls Try.prog 14 #[qv q, .int .i64 side] W fun e w' => ∃ v, e = .returned (.tuple #[v, .bool bv]) ∧ Own W.heap.size w'.heap.size w' v pl ∧ Below W.heap.size W w') := by
    rw [hbv, hpl]; exact LabelPlaces_any q side
  have C2 : Hid (∀ W, Calls Try.prog 15 #[qv q, .int .i64 side] W fun e w' => ∃ v, e = .returned (.tuple #[v, .bool bv]) ∧ Own W.heap.size w'.heap.size w' v pl ∧ Below W.heap.size W w') := by
    rw [hbv, hpl]; exact specLabelPlaces_any q side
  clear hb1 CD
  have HBV := Lib.hid hbv
  have HPL := Lib.hid hpl
  clear hbv hpl
  go_wp2_with fail
  have Q := Lib.hid (QBox_new w1 q 24)
  have B := Lib.hid (al B1.out (.cells #[.int .i64 q.1, .int .i64 q.2.1, .int .i64 q.2.2.1, .int .i64 q.2.2.2] 24))
  obtain ⟨W1, hW1⟩ : ∃ x, x = w1.alloc (.cells #[.int .i64 q.1, .int .i64 q.2.1, .int .i64 q.2.2.1, .int .i64 q.2.2.2] 24) := ⟨_, rfl⟩
  have sW : w1.heap.size < W1.heap.size := by rw [hW1]; simp
  obtain ⟨BX, hBX⟩ : ∃ x, x = w1.heap.size := ⟨_, rfl⟩
  rw [← hW1, ← hBX] at Q
  rw [← hW1] at B
  rw [← hBX] at sW
  rw [← hW1, ← hBX]
  have sB : w.heap.size ≤ BX := by omega
  clear hW1 hBX s1 B1
  refine (C1.out _).mono ?_
  rintro e w2 ⟨v2, rfl, hO2, hb2⟩
  have s2 := hb2.size
  replace Q := Lib.hid (Q.out.below hb2 (by omega))
  replace B := Lib.hid (B.out.trans (hb2.mono (by omega)))
  have O := Lib.hid hO2
  clear hO2 hb2
  obtain ⟨c0, c1, c2, c3⟩ := Q.out.cells
  go_wp2_with fail
  clear c0 c1 c2 c3
  refine (C2.out _).mono ?_
  rintro e w3 ⟨v3, rfl, hU3, hb3⟩
  have s3 := hb3.size
  replace Q := Lib.hid (Q.out.below hb3 (by omega))
  replace O := Lib.hid (O.out.below hb3 (by omega))
  replace B := Lib.hid (B.out.trans (hb3.mono (by omega)))
  have U := Lib.hid hU3
  clear hU3 hb3 C1 C2
  by_cases hv : LabOk q ∧ Fits q side
  · have HV := Lib.hid hv
    obtain rfl : bv = true := by rw [HBV.out]; exact decide_eq_true hv
    obtain ⟨x, m, xe, m1, m5, ml, x0, hx⟩ := places_all_facts hv.1 hv.2
    rw [← HPL.out] at ml hx
    have HX := Lib.hid hx
    have XE := Lib.hid xe
    clear xe
    have hq := hv.1
    obtain ⟨q1, q2, q3, q4, _⟩ := hq
    clear hv hx HBV HPL
    go_wp2_with fail
    refine (sameInts_b _ _ pl pl _ O.out.ints U.out.ints).mono ?_
    rintro e w4 ⟨rfl, hb4⟩
    have s4 := hb4.size
    replace Q := Lib.hid (Q.out.below hb4 (by omega))
    replace O := Lib.hid (O.out.below hb4 (by omega))
    replace B := Lib.hid (B.out.trans (hb4.mono (by omega)))
    clear hb4 U
    rw [decide_eq_true (rfl : pl = pl)]
    obtain ⟨b, off, cap2, rfl, o1, o2, o3, ocell⟩ := own_cells O.out (by omega)
    have OC := Lib.hid ocell
    rw [ml] at o1 ⊢
    clear ocell O
    go_wp2_with fail
    go_loopw [9] (fun i wr => ∃ k : Nat, k ≤ m ∧ i = .int .i64 k ∧ Below w4.heap.size w4 wr) (fun i _ => m - (intOf i).toNat)
    case atStart => exact ⟨0, Nat.zero_le _, rfl, Below.refl _ _⟩
    case round =>
      obtain ⟨k, hk, rfl, hbel⟩ := hrel
      have HB := Lib.hid hbel
      have sr := hbel.size
      obtain ⟨c0, c1, c2, c3⟩ := (Q.out.below hbel (by omega)).cells
      have QR := Lib.hid (Q.out.below hbel (by omega)).1
      by_cases hlt : k < m
      · obtain ⟨p1, p2, p3, p4⟩ := HX.out k hlt
        obtain ⟨p01, _⟩ := HX.out 0 (by omega)
        have d1 := (hbel.cell (p := ⟨b, off + k, none⟩) (by show b < _; omega)).trans (OC.out k (by omega))
        have d0 := (hbel.cell (p := ⟨b, off + 0, none⟩) (by show b < _; omega)).trans (OC.out 0 (by omega))
        rw [p1] at d1
        rw [p01] at d0
        simp only [Nat.add_zero, Int.natCast_zero, Int.add_zero] at d0
        have e2 : IntKind.i64.wrap (10 * q.2.1) = 10 * q.2.1 := IntWalk.i64_in _ (by omega)
        have e3 : IntKind.i64.wrap (10 * q.2.1 + q.1) = 10 * q.2.1 + q.1 := IntWalk.i64_in _ (by omega)
        have e4 : (x + (k : Int) == 10 * q.2.1 + q.1) = false := by simpa using p4
        have x1 : (k : Int) < (m : Int) := by omega
        have x2 : (0 : Int) < (m : Int) := by omega
        have x4 : 0 < m := by omega
        have x5 : (m : Int) ≠ 0 := by omega
        have x3 : (0 : Int) ≤ (k : Int) := by omega
        have e6 : (x.tdiv 10 != x.tdiv 10) = false := by simp
        obtain ⟨y, hy⟩ : ∃ y, y = x + (k : Int) := ⟨_, rfl⟩
        have e1 : IntKind.i64.wrap (x + (k : Int)) = y := by rw [hy]; exact IntWalk.i64_in _ (by omega)
        have e5 : (y != y) = false := by simp
        rw [← hy] at d1 e4 p3
        clear hy p1 p01 p4 p2 c2 c3 hbel
        go_wp2_with fail
        go_quiet (fail)
        have HB7 := Lib.hid (HB.out.trans ((below_drewN (Below.refl wr.heap.size wr) nq).mono sr))
        go_wp2_with fail
        go_roundw
        case rel => exact ⟨k + 1, by omega, by go_num, HB7.out⟩
        case measure => simp [intOf]; omega
      · obtain rfl : k = m := by omega
        have HB5 := Lib.hid (B.out.trans (hbel.mono (by omega)))
        have SO := Lib.hid (setOk_one HV.out.1 HV.out.2)
        have e7 : ((k : Int) == q.2.2.1) = true := by rw [XE.out]; simp
        clear hbel HB B Q
        go_wp2_with fail
        have hb8 : Below wr.heap.size wr ((wr.alloc (.cells #[.int .i64 q.1, .int .i64 q.2.1, .int .i64 q.2.2.1, .int .i64 q.2.2.2] 24)).alloc (.cells #[.int .i64 side] 3)) := ((Below.refl _ _).alloc (Nat.le_refl _) _).alloc (by simp) _
        refine (SettingValid_any _ _ [q] [side] _ (quads_at ((QAt_new wr q 24).below ((Below.refl (wr.heap.size + 1) _).alloc (by simp) _) (Nat.lt_succ_self _)) (by simp; omega)) (ints_one (by simp) (by simp))).mono ?_
        rintro e w6 ⟨rfl, hb6⟩
        rw [decide_eq_true SO.out]
        have HF := Lib.hid (HB5.out.trans ((hb8.trans (hb6.mono (by simp; omega))).mono HB5.out.size))
        clear hb6 hb8
        go_wp2
        go_ret
        exact ⟨rfl, HF.out⟩
  · obtain rfl : bv = false := by rw [HBV.out]; exact decide_eq_false hv
    clear hv HBV HPL
    go_wp2_with fail
    refine (sameInts_b _ _ pl pl _ O.out.ints U.out.ints).mono ?_
    rintro e w4 ⟨rfl, hb4⟩
    have s4 := hb4.size
    replace O := Lib.hid (O.out.below hb4 (by omega))
    replace U := Lib.hid (U.out.below hb4 (by omega))
    replace B := Lib.hid (B.out.trans (hb4.mono (by omega)))
    clear hb4
    rw [decide_eq_true (rfl : pl = pl)]
    go_wp2_with fail
    refine (sameInts_b _ _ pl pl _ O.out.ints U.out.ints).mono ?_
    rintro e w5 ⟨rfl, hb5⟩
    replace B := Lib.hid (B.out.trans (hb5.mono (by omega)))
    clear hb5
    rw [decide_eq_true (rfl : pl = pl)]
    go_wp2_with fail
    go_ret
    exact ⟨rfl, B.out⟩
end Go.Proofs.Ytbpcjdhbbighgaa
namespace Go.Proofs.Ytbpcjdhbbighgaa.fnPlaces
open Go.ChangeShapes Go.WideShapes Go.ChangeAt Go.RowKit
set_option linter.unusedVariables false

theorem own : ownKnob Try.prog.godebug = none := by kernel_rfl
theorem laidOut : laidOutB Try.prog = true := fact_laid
set_option maxRecDepth 100000 in
theorem lifted (os : Os) (started : os.Started) (H : Type) (enc : TypeId × Value → H) :
    ReturnsInHanded {} Try.checked os 3 .any (Rows.fnPlacesSpec.pre6 enc Try.prog Try.f3 Rows.fnPlacesRow.domain false) (Rows.fnPlacesSpec.post enc Try.prog Try.f3 false true false false) := by
  refine returnsInHanded_of_change (C := Try.checked) own started (by kernel_rfl) Try.func3
    (ChangeSpec.witness6 (enc := enc) (C := Try.checked) false ⟨#[], #[.slice none 0 0], []⟩ 8 (by kernel_rfl) (by kernel_rfl) (by kernel_rfl) (by kernel_rfl)) ?_
  intro W base args ds gs before hval0 hW hcnd _
  have hval : ∀ (j : Nat) t v, Try.f3.params[j]? = some t → args[j]? = some v → Value.okWide Try.prog W .any base t v := hval0
  have hW' := hW
  obtain ⟨p, q, hA0, hV, rfl, hfz, hnd⟩ := hW
  have hA : DataW.TrodAll enc Try.prog W 0 (fun _ => true) true Try.f3.params.toList args.toList ds p := hA0
  rw [Try.params3] at hA hval
  obtain ⟨v0, vs0, d0, ds0, p0, q0, hargs, rfl, rfl, h0, r0⟩ := trodAll_cons hA
  obtain ⟨rfl, rfl, rfl⟩ := trodAll_nil r0
  obtain rfl : args = #[v0] := by cases args; simp_all
  obtain ⟨rfl, rfl⟩ := trodVars_none hV
  obtain ⟨a0, len0, cap0, rfl⟩ := okWide_slice Try.underlying22 (hval 0 22 v0 rfl rfl)
  have k0 := h0
  have lt0 : ∀ x ∈ p0, x.block < W.heap.size := by obtain ⟨m, hm⟩ := k0; exact DataW.trod_lt m _ _ _ hm
  obtain ⟨z0, w0⟩ : ∃ zs, Bytes W (.slice a0 len0 cap0) zs := bytes_opened h0
  clear hA0 hval0
  refine (FnPlaces_walk _ z0 W w0).mono fun e W' ⟨he, bel⟩ => ?_
  subst he
  exact ⟨_, rfl, _, _, _, [], _, [], hW', trodAll_mk1 (shut_bool Try.underlying4 _), (trodAll_cons_mk (Below.trod laidOut (by kernel_rfl) (of_decide_eq_true (by kernel_rfl)) k0 bel lt0) trodAll_mk0), rfl, bel.frame _, fun h => by cases h⟩
theorem fact_inPlace : (Rows.fnPlacesRow.inPlace == Try.prog.inPlace 3) = true := by kernel_rfl
theorem fact_unfollowed : (Rows.fnPlacesRow.unfollowed == Try.prog.unfollowed 3) = true := by kernel_rfl
theorem fact_recurses : (Rows.fnPlacesRow.recurses == Try.prog.recurses 3) = true := by kernel_rfl
theorem fact_named : (Rows.fnPlacesRow.named == Try.prog.varsNamed 3) = true := by kernel_rfl
theorem fact_plain : (Rows.fnPlacesRow.plainKeys == Try.prog.plainKeys) = true := by kernel_rfl
theorem joined : joinedFacts Try.pinned.checked.prog 3 Try.f3 Rows.fnPlacesSpec Rows.fnPlacesRow = true :=
  joined_of (f := 3) (fn := Try.f3) (s := Rows.fnPlacesSpec) (c := Rows.fnPlacesRow) (by kernel_rfl) (by kernel_rfl) (by kernel_rfl) (by kernel_rfl) (by kernel_rfl) fact_inPlace fact_unfollowed fact_recurses fact_named (by kernel_rfl) (by kernel_rfl) (by kernel_rfl) (by kernel_rfl) (by kernel_rfl) (by kernel_rfl) (by kernel_rfl) (by kernel_rfl) (by kernel_rfl) fact_plain (by kernel_rfl) rfl rfl (by kernel_rfl) (by kernel_rfl) (by kernel_rfl) (by kernel_rfl)

/-- the statement -/
theorem proved : Rows.FnPlacesSaid :=
  OpenClaim.holds_of_wide 3 Try.f3 rfl rfl rfl rfl rfl rfl rfl ⟨rfl, rfl, rfl, rfl, rfl⟩ rfl rfl rfl rfl rfl (by kernel_rfl) Try.func3 joined
    (of_decide_eq_true (by kernel_rfl)) (by unfold Func.isWrapper; first | (rw [if_pos (by decide +kernel)]; kernel_rfl) | (rw [if_neg (by decide +kernel)]; exact ⟨rfl, rfl⟩))
    (fun os started H enc _ => lifted os started H enc)
#print axioms proved
end Go.Proofs.Ytbpcjdhbbighgaa.fnPlaces
