/-
  Contracts of slices.Clone at labels and of LabelsFlip, the program's and the reference's. Conditions: lengths up to 2^39.
-/
import Derived.Test.YtcjcgbimilglaaaAppQ
import Derived.WalkSpells
namespace Go.Proofs.Ytcjcgbimilglaaa
open Go.RowKit Go.Deep

set_option maxHeartbeats 400000 in
set_option maxRecDepth 100000 in
theorem CloneL_any (v : Value) (l : List Quad) (w : World) (h : Quads w v l) (hn : l.length ≤ 1073741824) :
    Calls Try.prog 101 #[v] w fun e w' => ∃ v', e = .returned v' ∧ OwnQ w.heap.size w'.heap.size w' v' l ∧ Below w.heap.size w w' := by
  obtain ⟨a, cap, rfl, hc1, hc2, hc3⟩ := id h
  have H := Lib.hid h
  have heq := fun (W : World) => Lib.run_eql_slice_nil (P := Try.prog) W 25 40 a l.length cap 0 0 Try.underlying25
  clear h
  cases a with
  | none =>
    have hl : l.length = 0 := by
      rcases Nat.eq_zero_or_pos l.length with h | h
      · exact h
      · obtain ⟨b, off, e, _⟩ := hc3 h; cases e
    obtain rfl : l = [] := List.length_eq_zero_iff.1 hl
    clear hc3 hl
    simp only [Option.isNone_none, List.length_nil] at heq
    go_enter Try.func101, Try.ntmps101
    go_wp2
    go_ret
    exact ⟨_, rfl, .inl ⟨rfl, none, 0, rfl, by omega⟩, Below.refl _ _⟩
  | some ad =>
    simp only [Option.isNone_some] at heq
    clear hc3
    go_enter Try.func101, Try.ntmps101
    go_wp2_with (at_builtin; refine app_quads w _ rfl _ _ rfl w.heap.size _ [] _ l (World.ownsRow_made w #[] 0 (Nat.le_refl _) (by decide) rfl) (H.out.quadsB.below ((Below.refl _ _).alloc (Nat.le_refl _) _) (Nat.le_refl _) |>.quads (by simp)) rfl rfl (by simp; omega) (by simp) ((Below.refl _ _).alloc (Nat.le_refl _) _) ?_; intro v' w1 hown1 hbel1)
    go_ret
    exact ⟨_, rfl, ownQ_of_ownsRow (l := l) (by simpa using hown1) (Nat.le_refl _), hbel1⟩

def flipQ (q : Quad) : Quad := (q.1, 9 - q.2.1, q.2.2.1, q.2.2.2)
def flipL (l : List Quad) : List Quad := l.map flipQ
theorem flipL_length (l : List Quad) : (flipL l).length = l.length := by simp [flipL]
theorem flipL_get (l : List Quad) (j : Nat) (h : j < l.length) : (flipL l)[j]?.getD q0 = flipQ (l[j]?.getD q0) := by simp [flipL, h]
theorem flipL_snoc (l : List Quad) (k : Nat) (h : k < l.length) : flipL (l.take k) ++ [flipQ l[k]] = flipL (l.take (k + 1)) := by
  rw [List.take_succ_eq_append_getElem h, flipL, flipL, List.map_append]; rfl
/-- what LabelsFlip hands back -/
def flipAll (l : List Quad) : List Quad := if ValidL l then flipL l else []

set_option maxHeartbeats 1000000 in
set_option maxRecDepth 100000 in
theorem LabelsFlip_any (v : Value) (l : List Quad) (w : World) (h : Quads w v l) :
    Calls Try.prog 65 #[v] w fun e w' => ∃ v', e = .returned (.tuple #[v', .bool (decide (ValidL l))]) ∧ OwnQ w.heap.size w'.heap.size w' v' (flipAll l) ∧ Below w.heap.size w w' := by
  obtain ⟨a, cap, rfl, hc1, hc2, hc3⟩ := id h
  have H := Lib.hid h
  clear h hc3
  by_cases hv : ValidL l
  · have HV := Lib.hid (decide_eq_true hv)
    have HF := Lib.hid (show flipAll l = flipL l from if_pos hv)
    have hl6 := hv.1
    have HG := Lib.hid hv.2
    clear hv
    go_enter Try.func65, Try.ntmps65
    go_wp2_with fail
    refine (LabelsValid_any _ l _ H.out).mono ?_
    rintro e w1 ⟨rfl, hb1⟩
    have hs1 := hb1.size
    have H1 := Lib.hid ((H.out.quadsB.below hb1 (Nat.le_refl _)).quads hs1)
    have HB1 := Lib.hid hb1
    clear hb1
    rw [HV.out]
    go_wp2_with fail
    refine (CloneL_any _ l _ H1.out (by omega)).mono ?_
    rintro e w2 ⟨v2, rfl, hO, hb2⟩
    have HB2 := Lib.hid (HB1.out.trans (hb2.mono hs1))
    clear hb2
    rcases hO with ⟨rfl, a2, cap2, rfl, hcap2⟩ | ⟨b, off, cap2, t, n, f, rfl, hk1, hk2, hlo, hhi, hrow, hlen, hf⟩
    · go_wp2
      refine wp_loop_rounds 1 ?_
      rw [rounds_succ]
      go_wp2
      go_ret2
      exact ⟨_, tup_bool HV.out.symm, by rw [HF.out]; exact .inl ⟨rfl, a2, cap2, rfl, hcap2⟩, HB2.out⟩
    · have HROW := Lib.hid hrow
      have HFF := Lib.hid hf
      clear hrow hf
      go_wp2
      go_loopw [5, 13] (fun _ i wr => ∃ k : Nat, k ≤ l.length ∧ i = .int .i64 k ∧ (∃ g, wr.rowIs b t n g ∧ ∀ j, j < l.length → QIs g (off + j * 4) (if j < k then flipQ (l[j]?.getD q0) else l[j]?.getD q0)) ∧ Touch b (b + 1) w2 wr) (fun _ i _ => l.length - (intOf i).toNat)
      case atStart => exact ⟨0, Nat.zero_le _, rfl, ⟨f, HROW.out, fun j hj => HFF.out j hj⟩, Touch.refl _ _ _⟩
      case round =>
        obtain ⟨k, hk, rfl, ⟨g, hg, hgv⟩, ht⟩ := hrel
        by_cases hlt : k < l.length
        · have d1 := hg.cell (i := off + k * 4 + 1) (by omega)
          have f1 := hg.frozen (off + k * 4 + 1)
          have hq := hgv k hlt
          rw [if_neg (by omega), getQ_eq hlt] at hq
          have hok := (HG.out k hlt).1
          rw [getQ_eq hlt] at hok
          have E := Lib.hid (getQ_eq hlt)
          obtain ⟨q, hqq⟩ : ∃ q, q = l[k] := ⟨_, rfl⟩
          rw [← hqq] at hq hok E
          obtain ⟨_, _, o3, o4, _, _, _, _⟩ := hok
          obtain ⟨e0, e1, e2, e3⟩ := hq
          rw [e1] at d1
          have HQ := Lib.hid (And.intro e0 (And.intro e2 e3))
          have HG2 := Lib.hid (hg.set (off + k * 4 + 1) (.int .i64 (9 - q.2.1)))
          have HV2 := Lib.hid hgv
          have HT := Lib.hid ht
          clear hg hgv ht e0 e1 e2 e3 hqq
          go_wp2
          go_roundw
          case rel =>
            refine ⟨k + 1, by omega, by go_num, ⟨_, HG2.out, fun j hj => ?_⟩, HT.out.setCell (Nat.le_refl _) (by simp) _⟩
            by_cases e : j = k
            · subst e
              rw [if_pos (by omega), E.out]
              obtain ⟨x0, x2, x3⟩ := HQ.out
              exact ⟨(if_neg (by omega)).trans x0, (if_pos rfl).trans rfl, (if_neg (by omega)).trans x2, (if_neg (by omega)).trans x3⟩
            · have hh := HV2.out j hj
              by_cases e2 : j < k
              · rw [if_pos e2] at hh
                rw [if_pos (by omega)]
                exact ⟨(if_neg (by omega)).trans hh.1, (if_neg (by omega)).trans hh.2.1, (if_neg (by omega)).trans hh.2.2.1, (if_neg (by omega)).trans hh.2.2.2⟩
              · rw [if_neg e2] at hh
                rw [if_neg (by omega)]
                exact ⟨(if_neg (by omega)).trans hh.1, (if_neg (by omega)).trans hh.2.1, (if_neg (by omega)).trans hh.2.2.1, (if_neg (by omega)).trans hh.2.2.2⟩
          case measure => simp [intOf]; omega
        · have HG2 := Lib.hid hg
          have HV2 := Lib.hid hgv
          have HT := Lib.hid ht
          clear hg hgv ht
          obtain rfl : k = l.length := by omega
          go_wp2
          go_ret2
          have hfl := flipL_length l
          have hsz := HT.out.size
          refine ⟨_, tup_bool HV.out.symm, ?_, HB2.out.trans (HT.out.below (by omega) (by have := HROW.out.lt; omega))⟩
          rw [HF.out]
          refine .inr ⟨b, off, cap2, t, n, g, by rw [hfl]; rfl, by omega, hk2, by omega, by omega, HG2.out, by omega, fun j hj => ?_⟩
          have hh := HV2.out j (by omega)
          rw [if_pos (by omega)] at hh
          rw [flipL_get _ _ (by omega)]
          exact hh
  · have HV := Lib.hid (decide_eq_false hv)
    have HF := Lib.hid (show flipAll l = [] from if_neg hv)
    clear hv
    go_enter Try.func65, Try.ntmps65
    go_wp2_with fail
    refine (LabelsValid_any _ l _ H.out).mono ?_
    rintro e w1 ⟨rfl, hb1⟩
    have HB1 := Lib.hid hb1
    clear hb1
    rw [HV.out]
    go_wp2
    go_ret2
    exact ⟨_, tup_bool HV.out.symm, by rw [HF.out]; exact .inl ⟨rfl, none, 0, rfl, by omega⟩, HB1.out⟩

set_option maxHeartbeats 1000000 in
set_option maxRecDepth 100000 in
theorem specLabelsFlip_any (v : Value) (l : List Quad) (w : World) (h : Quads w v l) :
    Calls Try.prog 66 #[v] w fun e w' => ∃ v', e = .returned (.tuple #[v', .bool (decide (ValidL l))]) ∧ OwnQ w.heap.size w'.heap.size w' v' (flipAll l) ∧ Below w.heap.size w w' := by
  obtain ⟨a, cap, rfl, hc1, hc2, hc3⟩ := id h
  have H := Lib.hid h.quadsB
  clear h
  by_cases hv : ValidL l
  · have HV := Lib.hid (decide_eq_true hv)
    have HF := Lib.hid (show flipAll l = flipL l from if_pos hv)
    have hl6 := hv.1
    have HG := Lib.hid hv.2
    clear hv
    go_enter Try.func66, Try.ntmps66
    go_wp2
    go_loopw [4, 5, 6] (fun v i _ wr => ∃ k : Nat, k ≤ l.length ∧ i = .int .i64 k ∧ wr.ownsRow w.heap.size 40 4 v (flipL (l.take k)).length (flat (flipL (l.take k))) ∧ Below w.heap.size w wr) (fun _ i _ _ => l.length - (intOf i).toNat)
    case atStart => exact ⟨0, Nat.zero_le _, rfl, World.ownsRow_made w #[] 0 (Nat.le_refl _) (by decide) rfl, (Below.refl _ _).alloc (Nat.le_refl _) _⟩
    case round =>
      obtain ⟨k, hk, rfl, hown, hbel⟩ := hrel
      have hs := hbel.size
      have H1 := Lib.hid (H.out.below hbel (Nat.le_refl _))
      have HO := Lib.hid hown
      have HB := Lib.hid hbel
      clear hown hbel
      by_cases hlt : k < l.length
      · obtain ⟨b, off, rfl, hb, hcell⟩ := hc3 (by omega)
        have HC := Lib.hid (hcell k hlt)
        have E := Lib.hid (flipL_snoc l k hlt)
        have hfl : (flipL (l.take k)).length ≤ 1099511627775 := by rw [flipL_length]; simp; omega
        have hok := (HG.out k hlt).1
        rw [getQ_eq hlt] at hok
        have hC2 := HC.out
        rw [getQ_eq hlt] at hC2
        obtain ⟨q, hq⟩ : ∃ q, q = l[k] := ⟨_, rfl⟩
        obtain ⟨fl, hfl'⟩ : ∃ fl, fl = flipL (l.take k) := ⟨_, rfl⟩
        rw [← hq] at E hok hC2
        rw [← hfl'] at E hfl
        have hO2 := HO.out
        rw [← hfl'] at hO2
        have HO2 := Lib.hid hO2
        have HC2 := Lib.hid hC2
        obtain ⟨_, _, o3, o4, _, _, _, _⟩ := hok
        clear hc3 hcell HC hq hfl' hC2 HO hO2
        go_wp2_with fail
        refine (specLabelsValid_any _ l _ (H1.out.quads hs)).mono ?_
        rintro e w1 ⟨rfl, hb1⟩
        have hs1 := hb1.size
        have HO3 := Lib.hid (ownsRow_below HO2.out hb1)
        have HB1 := Lib.hid (HB.out.trans (hb1.mono hs))
        obtain ⟨c0, c1, c2, c3⟩ := HC2.out.below (HB.out.trans (hb1.mono hs)) hb
        rw [HV.out]
        clear hb1
        go_wp2_with (at_builtin; refine app_quad w _ rfl _ _ rfl w.heap.size _ fl (q.1, 9 - q.2.1, q.2.2.1, q.2.2.2) (HO3.out.alloc _) rfl (w1.heap.size + 1) (by simp) rfl hfl (by simp; omega) (HB1.out.alloc (by omega) _) ?_; intro v' w2 hown2 hbel2)
        go_roundw
        case rel => exact ⟨k + 1, by omega, by go_num, by rw [← E.out]; exact hown2, hbel2⟩
        case measure => simp [intOf]; omega
      · obtain rfl : k = l.length := by omega
        clear hc3
        go_wp2_with fail
        refine (specLabelsValid_any _ l _ (H1.out.quads hs)).mono ?_
        rintro e w1 ⟨rfl, hb1⟩
        have HO3 := Lib.hid (ownsRow_below HO.out hb1)
        have HB1 := Lib.hid (HB.out.trans (hb1.mono hs))
        rw [HV.out]
        clear hb1
        go_wp2
        go_ret2
        refine ⟨_, tup_bool HV.out.symm, ?_, HB1.out⟩
        rw [HF.out]
        have hh := HO3.out
        rw [List.take_length] at hh
        exact ownQ_of_ownsRow hh (Nat.le_refl _)
  · have HV := Lib.hid (decide_eq_false hv)
    have HF := Lib.hid (show flipAll l = [] from if_neg hv)
    clear hv
    go_enter Try.func66, Try.ntmps66
    by_cases h0 : 0 < l.length
    · have hd : decide ((0 : Int) < (l.length : Int)) = true := decide_eq_true (by omega)
      have HB0 := Lib.hid ((Below.refl w.heap.size w).alloc (Nat.le_refl _) (.cells #[] 40))
      have H1 := Lib.hid (H.out.below HB0.out (Nat.le_refl _))
      clear hc3
      go_wp2
      refine wp_loop_rounds 1 ?_
      rw [rounds_succ]
      go_wp2_with fail
      refine (specLabelsValid_any _ l _ (H1.out.quads (by simp))).mono ?_
      rintro e w1 ⟨rfl, hb1⟩
      have hs1 := hb1.size
      simp at hs1
      have HB1 := Lib.hid (HB0.out.trans (hb1.mono (by simp)))
      have H2 := Lib.hid (H1.out.below hb1 (by simp))
      rw [HV.out]
      clear hb1
      go_wp2_with fail
      refine (specLabelsValid_any _ l _ (H2.out.quads (by omega))).mono ?_
      rintro e w2 ⟨rfl, hb2⟩
      have HB2 := Lib.hid (HB1.out.trans (hb2.mono (by omega)))
      rw [HV.out]
      clear hb2
      go_wp2
      go_ret2
      exact ⟨_, tup_bool HV.out.symm, by rw [HF.out]; exact .inl ⟨rfl, _, _, rfl, by omega⟩, HB2.out⟩
    · exfalso
      obtain rfl : l = [] := List.length_eq_zero_iff.1 (by omega)
      have := HV.out
      simp [ValidL, GoodUpTo] at this
end Go.Proofs.Ytcjcgbimilglaaa
