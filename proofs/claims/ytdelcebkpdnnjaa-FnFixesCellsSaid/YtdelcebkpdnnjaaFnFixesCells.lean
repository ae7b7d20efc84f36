/-
  FnFixesCells: for all arguments the law returns true and leaves what was there as it was. No condition.
-/
import Derived.Test.YtdelcebkpdnnjaaCellP
import Derived.Test.YtdelcebkpdnnjaaFacts
import Derived.ProofKit
import Derived.OpenShut
import Derived.ShutString
import Derived.ChangeOld
import Derived.Below
import Derived.BigQuiet
import Derived.Deep.RegionHeld3
import Derived.Test.YtdelcebkpdnnjaaFacts
import Derived.ProofKit
import Derived.OpenShut
import Derived.ShutString
import Derived.ChangeOld
import Derived.Below
namespace Go.Proofs.Ytdelcebkpdnnjaa
open Go.RowKit Go.Deep

theorem first_below {B : Nat} {w w' : World} (h : Below B w w') : Below B w w'.drew := h.drew
set_option maxHeartbeats 4000000 in
set_option maxRecDepth 100000 in
theorem FnFixesCells_walk (v : Value) (n : Nat) (w : World) (h : Bytes w v n) :
    Calls Try.prog 3 #[v] w fun e w' => e = .returned (.bool true) ∧ Below w.heap.size w w' := by
  have CD := Lib.hid (DrawFixesCells_any v n w h)
  obtain ⟨a, cap, rfl, h1, h2, h3⟩ := h
  clear h3
  by_cases hbig : 1048576 < n
  · have hb' : (1048576 : Int) < (n : Int) := by omega
    go_enter Try.func3, Try.ntmps3
    go_wp2
    go_ret
    exact ⟨rfl, Below.refl _ _⟩
  have hb' : ¬ (1048576 : Int) < (n : Int) := by omega
  clear hbig
  go_enter Try.func3, Try.ntmps3
  go_wp2_with fail
  refine CD.out.mono ?_
  rintro e w1 ⟨va, vb, ga, l, rfl, hA, hB, dA, hl6, hb1⟩
  have B := Lib.hid hb1
  have s1 := hb1.size
  obtain ⟨bp, cp, rfl, c1, c2, c3⟩ := id hB
  clear c3
  have A := Lib.hid (show GridB w1.heap.size w1 va ga from hA)
  have L := Lib.hid (show QuadsB w1.heap.size w1 (.slice bp l.length cp) l from hB)
  clear hA hB hb1 CD
  go_wp2_with fail
  with_reducible refine (FixesCells_any va _ ga l w1 (A.out.grid (by omega)) (L.out.quads (by omega))).mono ?_
  rintro e w2 ⟨vo, rfl, hO, hb2⟩
  have s2 := hb2.size
  replace A := Lib.hid (A.out.below hb2 (by omega))
  replace L := Lib.hid (L.out.below hb2 (by omega))
  replace B := Lib.hid (B.out.trans (hb2.mono (by omega)))
  clear hb2
  have OI := Lib.hid (show IntsB w2.heap.size w2 vo (cellsOut ga l) from hO.intsB)
  clear hO
  go_wp2_with fail
  with_reducible refine (specFixesCells_any va _ ga l w2 (A.out.grid (by omega)) (L.out.quads (by omega))).mono ?_
  rintro e w3 ⟨vu, rfl, hO, hb3⟩
  have s3 := hb3.size
  replace A := Lib.hid (A.out.below hb3 (by omega))
  replace L := Lib.hid (L.out.below hb3 (by omega))
  replace OI := Lib.hid (OI.out.below hb3 (by omega))
  replace B := Lib.hid (B.out.trans (hb3.mono (by omega)))
  clear hb3
  have UI := Lib.hid (show IntsB w3.heap.size w3 vu (cellsOut ga l) from hO.intsB)
  clear hO
  obtain ⟨sl, hsl⟩ : ∃ x, x = cellsOut ga l := ⟨_, rfl⟩
  rw [← hsl] at OI UI
  have HSL := Lib.hid hsl
  clear hsl
  obtain ⟨oa, oc, rfl, o1, o2, o3⟩ := id OI.out
  clear o3
  go_wp2_with fail
  with_reducible refine (sameInts_b _ vu sl sl w3 (OI.out.ints (by omega)) (UI.out.ints (by omega))).mono ?_
  rintro e w4 ⟨rfl, hb4⟩
  rw [decide_eq_true (rfl : sl = sl)]
  have s4 := hb4.size
  replace A := Lib.hid (A.out.below hb4 (by omega))
  replace L := Lib.hid (L.out.below hb4 (by omega))
  replace OI := Lib.hid (OI.out.below hb4 (by omega))
  replace UI := Lib.hid (UI.out.below hb4 (by omega))
  replace B := Lib.hid (B.out.trans (hb4.mono (by omega)))
  clear hb4
  by_cases hn : 0 < sl.length
  · have n0 : ((sl.length : Int) == 0) = false := beq_eq_false_iff_ne.2 (by omega)
    have hs : EdOk ga l := Classical.byContradiction fun h => by
      have h2 := HSL.out
      rw [cellsOut_no h] at h2
      rw [h2] at hn; simp at hn
    have HS := Lib.hid hs
    have OKG := Lib.hid hs.1
    have hg := hs.1
    have g1 := hg.1
    have g2 := hg.2.1
    have g3 := hg.2.2.1
    have g4 := hg.2.2.2.1
    have gs := small_cells hg
    obtain ⟨oa', oc', ov, p1, p2, p3⟩ := id OI.out
    simp only [Value.slice.injEq] at ov
    obtain ⟨rfl, -, rfl⟩ := ov
    obtain ⟨ob, oo, rfl, hob, OC0⟩ := p3 hn
    have OC : Hid (∀ j, j < sl.length → w4.cell? ⟨ob, oo + j, none⟩ = some (.int .i64 (sl[j]?.getD 0))) := fun j hj => by rw [OC0 j hj, getD_eq hj]
    have ASC : Hid (∀ i j, i < j → j < sl.length → sl[i]?.getD 0 < sl[j]?.getD 0) := fun i j hij hj => by
      have h := (cellsL_asc (l.map (idxQ (colsOf ga)))).1
      rw [← cellsOut_yes HS.out, ← HSL.out] at h
      rw [getD_eq (show i < sl.length by omega), getD_eq hj]
      exact List.pairwise_iff_getElem.1 h i j (by omega) hj hij
    obtain ⟨gb, go, gcap, hv, _, _, _, HC⟩ := A.out.open (by omega)
    obtain ⟨r0, d0, x1, _, _, _⟩ := HC 0 (by omega)
    rw [(hg.2.2.2.2 0 (by omega)).1] at x1
    rw [Nat.add_zero] at x1
    subst hv
    have hmb : colsOf ga ≤ 100 := by omega
    have SUM : Hid (sumUp (fun i => (hist l ((i / colsOf ga : Nat) : Int) ((i % colsOf ga : Nat) : Int) l.length).length) (ga.length * colsOf ga) = l.length) := hist_sum hs l.length (Nat.le_refl _)
    have SB : Hid (∀ k, sumUp (fun i => (hist l ((i / colsOf ga : Nat) : Int) ((i % colsOf ga : Nat) : Int) l.length).length) k ≤ k * 6) := fun k => sumUp_le (fun i => Nat.le_trans (hist_len l _ _ _) hl6) k
    have HIT : Hid (∀ i, i < ga.length * colsOf ga → (0 < (hist l ((i / colsOf ga : Nat) : Int) ((i % colsOf ga : Nat) : Int) l.length).length ↔ (i : Int) ∈ sl)) := fun i hi => by rw [HSL.out]; exact hist_cell hs hi
    have CT : Hid (∀ i, i < ga.length * colsOf ga → ∀ L1 : Nat, L1 = (hist l ((i / colsOf ga : Nat) : Int) ((i % colsOf ga : Nat) : Int) l.length).length + 1 → ∀ W, Below w4.heap.size w4 W → Calls Try.prog 14 #[.slice (some ⟨gb, go, none⟩) ga.length gcap, .slice bp l.length cp, .int .i64 ((i / colsOf ga : Nat) : Int), .int .i64 ((i % colsOf ga : Nat) : Int)] W fun e w' => (∃ la lc, e = .returned (.tuple #[.slice la L1 lc, .bool true])) ∧ Below W.heap.size W w') := fun i hi L1 hL1 W hb => by
      have hat : AtOk ga l ((i / colsOf ga : Nat) : Int) ((i % colsOf ga : Nat) : Int) := ⟨HS.out, by
        have h1 : i / colsOf ga < ga.length := Nat.div_lt_of_lt_mul (by rw [Nat.mul_comm]; exact hi)
        have h2 := Nat.mod_lt i (show 0 < colsOf ga by omega)
        exact ⟨Int.natCast_nonneg _, Int.ofNat_lt.2 h1, Int.natCast_nonneg _, Int.ofNat_lt.2 h2⟩⟩
      have h := FixesAt_any (.slice (some ⟨gb, go, none⟩) ga.length gcap) (.slice bp l.length cp) ga l ((i / colsOf ga : Nat) : Int) ((i % colsOf ga : Nat) : Int) W ((A.out.below hb (by omega)).grid (by have := hb.size; omega)) ((L.out.below hb (by omega)).quads (by have := hb.size; omega))
      rw [decide_eq_true hat, atOf_yes hat] at h
      refine h.mono fun e w' ⟨v, he, ho, hb'⟩ => ?_
      obtain ⟨la, lc, rfl, _, _, _⟩ := ho.ints
      exact ⟨⟨la, lc, by rw [he, hL1]; rfl⟩, hb'⟩
    have CC : Hid (∀ W, Below w4.heap.size w4 W → Calls Try.prog 13 #[.slice (some ⟨gb, go, none⟩) ga.length gcap] W fun e w' => e = .returned (.int .i64 ((ga.length * colsOf ga : Nat) : Int)) ∧ Below W.heap.size W w') := fun W hb =>
      cellsOf_any _ ga W ((A.out.below hb (by omega)).grid (by have := hb.size; omega)) OKG.out
    have CH : Hid (∀ (x : Int) W, Below w4.heap.size w4 W → Calls Try.prog 15 #[.slice (some ⟨ob, oo, none⟩) sl.length oc, .int .i64 x] W fun e w' => e = .returned (.bool (decide (x ∈ sl))) ∧ W = w') := fun x W hb =>
      hasInt_any _ sl x W ((OI.out.below hb (by omega)).ints (by have := hb.size; omega))
    obtain ⟨N, hN⟩ : ∃ N, N = ga.length * colsOf ga := ⟨_, rfl⟩
    rw [← hN] at SUM HIT CT CC gs
    obtain ⟨m, hm⟩ : ∃ m, m = colsOf ga := ⟨_, rfl⟩
    rw [← hm] at SUM SB HIT CT hmb g3 x1
    obtain ⟨f, hf⟩ : ∃ f : Nat → Nat, f = fun i => (hist l ((i / m : Nat) : Int) ((i % m : Nat) : Int) l.length).length := ⟨_, rfl⟩
    have hfi : ∀ i, (hist l ((i / m : Nat) : Int) ((i % m : Nat) : Int) l.length).length = f i := fun i => by rw [hf]
    rw [← hf] at SUM SB
    simp only [hfi] at HIT CT
    have F6 : Hid (∀ i, f i ≤ 6) := fun i => by rw [← hfi]; exact Nat.le_trans (hist_len l _ _ _) hl6
    have z1 : ((m : Int) == 0) = false := by simp; omega
    have z2 : (m : Int) ≠ 0 := by omega
    have z3 : 0 < (m : Int) := by omega
    have z4 : ¬ m = 0 := by omega
    have s4' := s4
    clear hfi hf hN hm HC p1 p2 p3 OC0 hg hs g4
    go_wp2_with fail
    go_loopw [8, 9] (fun s i wr => ∃ k S : Nat, k ≤ N ∧ i = .int .i64 k ∧ s = .int .i64 S ∧ S = sumUp f k ∧ Below w4.heap.size w4 wr) (fun _ i _ => N - (intOf i).toNat)
    case atStart => exact ⟨0, 0, by omega, rfl, rfl, rfl, Below.refl _ _⟩
    case round =>
      obtain ⟨k, S, hk, rfl, rfl, hS, hbel⟩ := hrel
      have V := Lib.hid hS
      have BW := Lib.hid hbel
      have sb := SB.out k
      rw [← hS] at sb
      clear hS hbel
      by_cases hlt : k < N
      · have k1 : (k : Int) < (N : Int) := by omega
        obtain ⟨R, hR⟩ : ∃ R, R = k / m := ⟨_, rfl⟩
        obtain ⟨C, hC⟩ : ∃ C, C = k % m := ⟨_, rfl⟩
        have q1 : (k : Int).tdiv (m : Int) = (R : Int) := by rw [Int.tdiv_eq_ediv_of_nonneg (by omega), hR]; simp
        have q2 : (k : Int).tmod (m : Int) = (C : Int) := by rw [Int.tmod_eq_emod_of_nonneg (by omega), hC]; simp
        have q3 : (k : Int) / (m : Int) = (R : Int) := by rw [hR]; simp
        have q4 : (k : Int) % (m : Int) = (C : Int) := by rw [hC]; simp
        have rb : R ≤ k := by rw [hR]; exact Nat.div_le_self _ _
        have cb : C ≤ k := by rw [hC]; exact Nat.mod_le _ _
        have q5 : IntKind.i64.wrap (R : Int) = (R : Int) := IntWalk.i64_in _ (by omega)
        have q6 : IntKind.i64.wrap (C : Int) = (C : Int) := IntWalk.i64_in _ (by omega)
        have f6 := F6.out k
        have hit := HIT.out k hlt
        obtain ⟨h, hh⟩ : ∃ h, h = f k := ⟨_, rfl⟩
        have NX : Hid (S + h = sumUp f (k + 1)) := by show _ = _; rw [sumUp, hh, V.out]
        obtain ⟨L1, hL1⟩ : ∃ L1, L1 = h + 1 := ⟨_, rfl⟩
        have CTk := Lib.hid (CT.out k hlt L1 (by rw [hL1, hh]))
        rw [← hh] at f6 hit
        rw [← hR, ← hC] at CTk
        obtain ⟨S2, hS2⟩ : ∃ S2, S2 = S + h := ⟨_, rfl⟩
        have e1 : IntKind.i64.wrap ((S : Int) + (L1 : Int)) = (S : Int) + (L1 : Int) := IntWalk.i64_in _ (by omega)
        have e2 : IntKind.i64.wrap ((S : Int) + (L1 : Int) - 1) = (S2 : Int) := by rw [IntWalk.i64_in _ (by omega)]; omega
        rw [← hS2] at NX
        have CHk := fun W => fun hb => Lib.hid (CH.out (k : Int) W hb)
        have HL1 := Lib.hid hL1
        clear hR hC hh V hL1 hS2
        go_wp2_with fail
        refine (CC.out _ BW.out).mono ?_
        rintro e w5 ⟨rfl, hb5⟩
        have B5 := Lib.hid (BW.out.trans (hb5.mono BW.out.size))
        clear hb5 BW
        go_wp2_with fail
        go_region_held3 (fun _ => True) (trivial)
          (first | (go_at_call 14; (with_reducible refine (CTk.out _ (first_below B5.out)).mono ?_); rintro e w6 ⟨⟨la, lc, rfl⟩, hb6⟩; have B6 := Lib.hid ((first_below B5.out).trans (hb6.mono (first_below B5.out).size)); clear hb6) | fail)
        all_goals
          by_cases hm : (k : Int) ∈ sl
          · have hp := hit.2 hm
            have l1 : (1 : Int) < (L1 : Int) := by have := HL1.out; omega
            simp only [decide_eq_true hm] at CHk
            clear hm hp hit HL1
            go_wp2_with fail
            refine (CHk _ B6.out).out.mono ?_
            rintro e w7 ⟨rfl, rfl⟩
            go_wp2_with fail
            go_roundw
            case rel => exact ⟨k + 1, S2, by omega, by go_num, rfl, NX.out, B6.out⟩
            case measure => simp [intOf]; omega
          · have hp : ¬ 0 < h := fun hp => hm (hit.1 hp)
            have l1 : ¬ (1 : Int) < (L1 : Int) := by have := HL1.out; omega
            simp only [decide_eq_false hm] at CHk
            clear hm hp hit HL1
            go_wp2_with fail
            refine (CHk _ B6.out).out.mono ?_
            rintro e w7 ⟨rfl, rfl⟩
            go_wp2_with fail
            go_roundw
            case rel => exact ⟨k + 1, S2, by omega, by go_num, rfl, NX.out, B6.out⟩
            case measure => simp [intOf]; omega
      · obtain rfl : k = N := by omega
        have ST : S = l.length := by rw [V.out, SUM.out]
        subst ST
        clear hlt V SUM sb SB HIT CT F6 CH
        go_wp2_with fail
        refine (CC.out _ BW.out).mono ?_
        rintro e w5 ⟨rfl, hb5⟩
        have B5 := Lib.hid (BW.out.trans (hb5.mono BW.out.size))
        clear hb5 BW CC
        go_wp2_with fail
        go_loopw [12] (fun i wr => ∃ k : Nat, 1 ≤ k ∧ k ≤ sl.length ∧ i = .int .i64 k ∧ Below w4.heap.size w4 wr) (fun i _ => sl.length - (intOf i).toNat)
        case atStart => exact ⟨1, by omega, by omega, rfl, B5.out⟩
        case round =>
          clear B5
          obtain ⟨I, hI1, hI, rfl, hbel⟩ := hrel
          have BW := Lib.hid hbel
          by_cases hlt : I < sl.length
          · obtain ⟨K, hK⟩ : ∃ K, K = I - 1 := ⟨_, rfl⟩
            have i1 : (I : Int) < (sl.length : Int) := by omega
            have i2 : (0 : Int) ≤ (I : Int) := by omega
            have i3 : (K : Int) < (sl.length : Int) := by omega
            have i4 : (0 : Int) ≤ (K : Int) := by omega
            have e1 : IntKind.i64.wrap ((I : Int) - 1) = (K : Int) := by rw [IntWalk.i64_in _ (by omega)]; omega
            have y1 : wr.cell? ⟨ob, oo + I, none⟩ = _ := (hbel.cell (p := ⟨ob, oo + I, none⟩) (by show ob < w4.heap.size; omega)).trans (OC.out I hlt)
            have y2 : wr.cell? ⟨ob, oo + K, none⟩ = _ := (hbel.cell (p := ⟨ob, oo + K, none⟩) (by show ob < w4.heap.size; omega)).trans (OC.out K (by omega))
            have lt := ASC.out K I (by omega) hlt
            obtain ⟨X, hX⟩ : ∃ X, X = sl[I]?.getD 0 := ⟨_, rfl⟩
            obtain ⟨Y, hY⟩ : ∃ Y, Y = sl[K]?.getD 0 := ⟨_, rfl⟩
            rw [← hX] at y1 lt
            rw [← hY] at y2 lt
            have le : ¬ X ≤ Y := by omega
            clear hX hY hbel hK lt
            go_wp2_with fail
            go_quiet (fail)
            go_wp2_with fail
            go_roundw
            case rel => exact ⟨I + 1, by omega, by omega, by go_num, below_n BW.out _⟩
            case measure => simp [intOf]; omega
          · obtain rfl : I = sl.length := by omega
            clear hlt hbel
            go_wp2_with fail
            go_ret
            exact ⟨rfl, B.out.trans (BW.out.mono (by omega))⟩
  · have n0 : ((sl.length : Int) == 0) = true := beq_iff_eq.2 (by omega)
    clear hn
    go_wp2_with fail
    with_reducible refine (sameInts_b _ vu sl sl w4 (OI.out.ints (by omega)) (UI.out.ints (by omega))).mono ?_
    rintro e w5 ⟨rfl, hb5⟩
    rw [decide_eq_true (rfl : sl = sl)]
    have s5 := hb5.size
    replace A := Lib.hid (A.out.below hb5 (by omega))
    replace L := Lib.hid (L.out.below hb5 (by omega))
    replace OI := Lib.hid (OI.out.below hb5 (by omega))
    replace UI := Lib.hid (UI.out.below hb5 (by omega))
    replace B := Lib.hid (B.out.trans (hb5.mono (by omega)))
    clear hb5
    go_wp2
    go_ret
    exact ⟨rfl, B.out⟩
end Go.Proofs.Ytdelcebkpdnnjaa
namespace Go.Proofs.Ytdelcebkpdnnjaa.fnFixesCells
open Go.ChangeShapes Go.WideShapes Go.ChangeAt Go.RowKit
set_option linter.unusedVariables false

theorem own : ownKnob Try.prog.godebug = none := by kernel_rfl
theorem laidOut : laidOutB Try.prog = true := fact_laid
set_option maxRecDepth 100000 in
theorem lifted (os : Os) (started : os.Started) (H : Type) (enc : TypeId × Value → H) :
    ReturnsInHanded {} Try.checked os 3 .any (Rows.fnFixesCellsSpec.pre6 enc Try.prog Try.f3 Rows.fnFixesCellsRow.domain false) (Rows.fnFixesCellsSpec.post enc Try.prog Try.f3 false true false false) := by
  refine returnsInHanded_of_change (C := Try.checked) own started (by kernel_rfl) Try.func3
    (ChangeSpec.witness6 (enc := enc) (C := Try.checked) false ⟨#[], #[.slice none 0 0], []⟩ 8 (by kernel_rfl) (by kernel_rfl) (by kernel_rfl) (by kernel_rfl)) ?_
  intro W base args ds gs before hval0 hW hcnd _
  have hval : ∀ (j : Nat) t v, Try.f3.params[j]? = some t → args[j]? = some v → Value.okWide Try.prog W .any base t v := hval0
  have hW' := hW
  obtain ⟨p, q, hA0, hV, rfl, hfz, hnd⟩ := hW
  have hA : DataW.TrodAll enc Try.prog W 0 (fun _ => true) true Try.f3.params.toList args.toList ds p := hA0
  rw [Try.params3] at hA hval
  obtain ⟨v0, vs0, d0, ds0, p0, q0, hargs, rfl, rfl, h0, r0⟩ := trodAll_cons hA
  obtain ⟨rfl, rfl, rfl⟩ := trodAll_nil r0
  obtain rfl : args = #[v0] := by cases args; simp_all
  obtain ⟨rfl, rfl⟩ := trodVars_none hV
  obtain ⟨a0, len0, cap0, rfl⟩ := okWide_slice Try.underlying22 (hval 0 22 v0 rfl rfl)
  have k0 := h0
  have lt0 : ∀ x ∈ p0, x.block < W.heap.size := by obtain ⟨m, hm⟩ := k0; exact DataW.trod_lt m _ _ _ hm
  obtain ⟨z0, w0⟩ : ∃ zs, Bytes W (.slice a0 len0 cap0) zs := bytes_opened h0
  clear hA0 hval0
  refine (FnFixesCells_walk _ z0 W w0).mono fun e W' ⟨he, bel⟩ => ?_
  subst he
  exact ⟨_, rfl, _, _, _, [], _, [], hW', trodAll_mk1 (shut_bool Try.underlying4 _), (trodAll_cons_mk (Below.trod laidOut (by kernel_rfl) (of_decide_eq_true (by kernel_rfl)) k0 bel lt0) trodAll_mk0), rfl, bel.frame _, fun h => by cases h⟩
theorem fact_inPlace : (Rows.fnFixesCellsRow.inPlace == Try.prog.inPlace 3) = true := by kernel_rfl
theorem fact_unfollowed : (Rows.fnFixesCellsRow.unfollowed == Try.prog.unfollowed 3) = true := by kernel_rfl
theorem fact_recurses : (Rows.fnFixesCellsRow.recurses == Try.prog.recurses 3) = true := by kernel_rfl
theorem fact_named : (Rows.fnFixesCellsRow.named == Try.prog.varsNamed 3) = true := by kernel_rfl
theorem fact_plain : (Rows.fnFixesCellsRow.plainKeys == Try.prog.plainKeys) = true := by kernel_rfl
theorem joined : joinedFacts Try.pinned.checked.prog 3 Try.f3 Rows.fnFixesCellsSpec Rows.fnFixesCellsRow = true :=
  joined_of (f := 3) (fn := Try.f3) (s := Rows.fnFixesCellsSpec) (c := Rows.fnFixesCellsRow) (by kernel_rfl) (by kernel_rfl) (by kernel_rfl) (by kernel_rfl) (by kernel_rfl) fact_inPlace fact_unfollowed fact_recurses fact_named (by kernel_rfl) (by kernel_rfl) (by kernel_rfl) (by kernel_rfl) (by kernel_rfl) (by kernel_rfl) (by kernel_rfl) (by kernel_rfl) (by kernel_rfl) fact_plain (by kernel_rfl) rfl rfl (by kernel_rfl) (by kernel_rfl) (by kernel_rfl) (by kernel_rfl)

/-- the statement -/
theorem proved : Rows.FnFixesCellsSaid :=
  OpenClaim.holds_of_wide 3 Try.f3 rfl rfl rfl rfl rfl rfl rfl ⟨rfl, rfl, rfl, rfl, rfl⟩ rfl rfl rfl rfl rfl (by kernel_rfl) Try.func3 joined
    (of_decide_eq_true (by kernel_rfl)) (by unfold Func.isWrapper; first | (rw [if_pos (by decide +kernel)]; kernel_rfl) | (rw [if_neg (by decide +kernel)]; exact ⟨rfl, rfl⟩))
    (fun os started H enc _ => lifted os started H enc)
#print axioms proved
end Go.Proofs.Ytdelcebkpdnnjaa.fnFixesCells
