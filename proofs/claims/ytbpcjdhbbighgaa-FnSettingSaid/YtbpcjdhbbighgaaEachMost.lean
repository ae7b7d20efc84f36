/-
  Contract of eachSetting with SettingMost's closure: it is called with each setting, in order. Conditions: the labels are valid, the closure keeps its frame.
-/
import Derived.Test.YtbpcjdhbbighgaaEachKit
namespace Go.Proofs.Ytbpcjdhbbighgaa
open Go.RowKit Go.Deep Go.Sort
set_option linter.unusedVariables false

set_option maxHeartbeats 4000000 in
set_option maxRecDepth 100000 in
theorem eachMost_any (P1 P2 : Nat) (l : List Quad) (la : Option Addr) (lc lo hi : Nat) (J : List (List Int) → World → Prop) (hv : ValidL l) (hlo : lo ≤ hi)
    (hstep : ∀ done s sv W, J done W → W.ownsRow hi 3 1 sv s.length (s.map (Value.int .i64)) → s.length = l.length → hi ≤ W.heap.size → QuadsB lo W (.slice la l.length lc) l →
      Calls Try.prog 75 (#[sv] ++ #[.pointer (some ⟨P1, 0, none⟩), .pointer (some ⟨P2, 0, none⟩)]) W fun e W' => e = .returned (.tuple #[]) ∧ J (done ++ [s]) W' ∧ Touch lo hi W W')
    (hstab : ∀ done W W', J done W → Below hi W W' → J done W') :
    ∀ n k M pre sv L w done, k + n = l.length → pre.length = k → L = bdL M → QuadsB lo w (.slice la l.length lc) l → hi ≤ w.heap.size → w.ownsRow hi 3 1 sv k (pre.map (Value.int .i64)) → J done w →
      Calls Try.prog 73 #[.slice la l.length lc, .agg L.toArray, sv, .func (.func 75) #[] #[.pointer (some ⟨P1, 0, none⟩), .pointer (some ⟨P2, 0, none⟩)]] w fun e w' => e = .returned (.tuple #[]) ∧ J (done ++ each l n k M pre) w' ∧ Fr lo hi sv.ownBlock w w' ∧ w'.ownsRow hi 3 1 sv k (pre.map (Value.int .i64)) := by
  have HV := Lib.hid hv
  have hl6 := hv.1
  have HST := Lib.hid hstep
  have HSB := Lib.hid hstab
  clear hv hstep hstab
  intro n
  induction n with
  | zero =>
    intro k M pre sv L w done hkn hpre hL hq hhi hown hJ
    obtain ⟨sa, sc, rfl⟩ := ownsRow_slice hown
    have hkl : k = l.length := by omega
    subst hkl
    have hf := (Fr.of_below (lo := lo) (hi := hi) (row := Value.ownBlock (.slice sa l.length sc)) ((Below.refl w.heap.size w).alloc (Nat.le_refl _) (.cells L.toArray 60)))
    have HF := Lib.hid hf
    have C := HST.out done pre _ (w.alloc (.cells L.toArray 60)) (HSB.out _ _ _ hJ ((Below.refl hi w).alloc hhi _)) (by rw [hpre]; exact hown.alloc _) hpre (by simp; omega) (hq.below ((Below.refl lo w).alloc (by omega) _) (Nat.le_refl _))
    have HC := Lib.hid C
    have HO := Lib.hid (show (w.alloc (.cells L.toArray 60)).ownsRow hi 3 1 _ l.length (pre.map (Value.int .i64)) from hown.alloc _)
    clear C hf hL hq hown hJ hpre hkn
    go_enter Try.func73, Try.ntmps73
    go_wp2_with fail
    refine HC.out.mono ?_
    rintro e w1 ⟨rfl, hJ1, ht1⟩
    have HJ1 := Lib.hid hJ1
    have HT1 := Lib.hid ht1
    clear hJ1 ht1
    go_wp2_with fail
    refine bodyPost_ret (v := .tuple #[]) (by simp [results, Try.results73, go_sem]) rfl ⟨rfl, HJ1.out, HF.out.trans (Fr.of_touch HT1.out), ?_⟩
    exact ownsRow_touch' HO.out HT1.out
  | succ n ih =>
    intro k M pre sv L w done hkn hpre hL hq hhi hown hJ
    have hkl : k < l.length := by omega
    obtain ⟨sa, sc, rfl⟩ := ownsRow_slice hown
    obtain ⟨SV, hSV⟩ : ∃ SV, SV = Value.slice sa k sc := ⟨_, rfl⟩
    obtain ⟨RW, hRW⟩ : ∃ R, R = Value.ownBlock (.slice sa k sc) := ⟨_, rfl⟩
    have hRlt : ∀ g, RW = some g → hi ≤ g ∧ g < w.heap.size := by rw [hRW]; exact hown.lt
    obtain ⟨W0, hW0⟩ : ∃ W, W = w.alloc (.cells L.toArray 60) := ⟨_, rfl⟩
    have s0 : W0.heap.size = w.heap.size + 1 := by rw [hW0]; simp
    have S0 := Lib.hid s0
    have s0' : w.heap.size + 1 ≤ W0.heap.size := by omega
    have FW : Hid (Fr lo hi RW w W0) := by show Fr _ _ _ _ _; rw [hW0]; exact Fr.of_below ((Below.refl w.heap.size w).alloc (Nat.le_refl _) _)
    have Q0 : Hid (QuadsB lo W0 (.slice la l.length lc) l) := by show QuadsB _ _ _ _; rw [hW0]; exact hq.below ((Below.refl lo w).alloc (by omega) _) (Nat.le_refl _)
    have O0 : Hid (W0.ownsRow hi 3 1 (.slice sa k sc) k (pre.map (Value.int .i64))) := by show World.ownsRow _ _ _ _ _ _ _; rw [hW0]; exact hown.alloc _
    have J0 : Hid (J done W0) := by show J _ _; rw [hW0]; exact HSB.out _ _ _ hJ ((Below.refl hi w).alloc hhi _)
    have RG0 : Hid (W0.rangeAt w.heap.size 0 L) := by show World.rangeAt _ _ _ _; rw [hW0]; exact range_new w L _
    obtain ⟨F, hF⟩ : ∃ F, F = w.heap.size := ⟨_, rfl⟩
    rw [← hF] at RG0 hRlt s0' hhi
    have HFE := Lib.hid hF
    have HRLT := Lib.hid hRlt
    have HRW := Lib.hid hRW
    have HL := Lib.hid hL
    have HP := Lib.hid hpre
    have HKN := Lib.hid hkn
    have HIH := Lib.hid ih
    have hq1 := (HV.out.2 k hkl).1
    obtain ⟨q, hqe⟩ : ∃ q, q = l[k]?.getD q0 := ⟨_, rfl⟩
    rw [← hqe] at hq1
    have HQ := Lib.hid hq1
    have HQE := Lib.hid hqe
    have x1 : (k : Int) < (l.length : Int) := by omega
    have x3 : (0 : Int) ≤ (k : Int) := by omega
    have tk : ((k : Int) == (l.length : Int)) = false := by simp only [beq_eq_false_iff_ne, ne_eq]; omega
    have L1 := Lib.hid (show (Try.prog.info? 60).map (·.size) = some L.length by rw [hL]; exact board_info M)
    have HW0 := Lib.hid hW0
    have HSV := Lib.hid hSV
    clear hL hq hown hJ ih hq1 hqe hRW hRlt s0 hF hW0 hSV hkn hpre
    go_enter Try.func73, Try.ntmps73
    go_wp2_with fail
    rw [← HW0.out, ← HFE.out]
    go_loopw [9, 10, 11, 21] (fun _ _ _ i wr => ∃ j : Nat, j ≤ 4 ∧ i = .int .i64 j ∧ J (done ++ upS l n k M pre j) wr ∧ Fr lo hi RW W0 wr ∧ wr.ownsRow hi 3 1 (.slice sa k sc) k (pre.map (Value.int .i64))) (fun _ _ _ i _ => 4 - (intOf i).toNat)
    case atStart => exact ⟨0, by omega, rfl, by rw [upS_zero, List.append_nil]; exact J0.out, Fr.refl _ _ _ _, O0.out⟩
    case round =>
      obtain ⟨j, hj, rfl, hJ, hfr, hown⟩ := hrel
      have HJ := Lib.hid hJ
      have HFR := Lib.hid hfr
      have HO := Lib.hid hown
      have hs := hfr.size
      have hF1 : F < wr.heap.size := by omega
      have HRG : Hid (wr.rangeAt F 0 L) := range_fr RG0.out hfr (by omega) (by omega) (fun e => by have := HRLT.out F e.symm; omega)
      have HLOW : Hid (Below lo W0 wr) := hfr.low (fun g hg => by have := (HRLT.out g hg).1; omega) (by omega)
      have HQB : Hid (QuadsB lo wr (.slice la l.length lc) l) := Q0.out.below HLOW.out (Nat.le_refl _)
      obtain ⟨_, _, he, _, _, h3⟩ := HQB.out
      simp only [Value.slice.injEq] at he
      obtain ⟨rfl, _, rfl⟩ := he
      obtain ⟨b, off, rfl, hb, hcell⟩ := h3 (by omega)
      obtain ⟨c0, c1, c2', c3'⟩ := hcell k hkl
      rw [← HQE.out] at c0 c1 c2' c3'
      have hbw : b < wr.heap.size := by omega
      clear hJ hfr hown hcell h3
      by_cases hlt : j < 4
      · have d0 := HRG.out
        have d : HB5 F b (off + k * 4) L q wr := ⟨d0, c0, c1, c2', c3'⟩
        have dd : HB5 F b (off + k * 4) L q wr.drew := d
        have dn : HB5 F b (off + k * 4) L q (wr.alloc (.cells Try.zeroCells60 60)).drew := held_new d
        have hu8 := Try.underlying60
        have hM1 := L1.out
        have hj4 : (j : Int) < 4 := by omega
        go_wp2_with fail
        go_region_held3 (fun w' => w'.rangeAt F 0 L ∧ w'.cell? ⟨b, off + k * 4, none⟩ = some (.int .i64 q.1) ∧ w'.cell? ⟨b, off + k * 4 + 1, none⟩ = some (.int .i64 q.2.1) ∧ w'.cell? ⟨b, off + k * 4 + 2, none⟩ = some (.int .i64 q.2.2.1) ∧ w'.cell? ⟨b, off + k * 4 + 3, none⟩ = some (.int .i64 q.2.2.2))
          (first | with_reducible exact dd | with_reducible exact dn | with_reducible exact r1 | with_reducible exact r2 | with_reducible exact r3 | fail)
          (first | (go_at_call 65; refine (signOf_any k _ (by omega)).mono ?_; rintro e w5 ⟨rfl, rfl⟩) | (go_at_call 64; refine (with_L L M HL.out q (j : Int) ((k : Int) + 1) _ _ HQ.out (by omega) rfl).mono ?_; rintro e w5 ⟨cs, M', rfl, HCS, HM', hb5⟩; have i1 : (Try.prog.info? 60).map (·.size) = some cs.length := (by rw [HCS.out]; exact board_info M'); have i2 : cs.length = 100 := (by rw [HCS.out]; exact bdL_length M'); have i3 : ∀ v ∈ cs, v.oneCell' = true := (by rw [HCS.out]; exact bdL_one M'); (first | ((with_reducible refine next_a cs i2 d hF1 hbw hb5 ?_); intro r1 r2 tb LA) | ((with_reducible refine next_b cs i2 d hF1 hbw hb5 ?_); intro r1 r2 r3 tb LA) | fail)))
        all_goals
          rename_i hh
          have CI := Lib.hid i1
          clear hh r1 r2 tb i1 i2 i3 hb5 hu8 hM1 dd dn d0 d
          try clear r3
        all_goals first
          | (generalize (w5.alloc (.cells Try.zeroCells60 60)).setCells w5.heap.size 0 cs = WE at LA ⊢; guard_hyp LA : Laid wr w5.heap.size cs WE; generalize w5.heap.size = NB at LA ⊢)
          | (generalize w5.setCells wr.heap.size 0 cs = WE at LA ⊢; guard_hyp LA : Laid wr wr.heap.size cs WE; generalize wr.heap.size = NB at LA ⊢)
        all_goals
          obtain ⟨hbW, hRg, hNB, hNB2⟩ := LA
          have HBW := Lib.hid hbW
          have RG := Lib.hid hRg
          have hWE := hbW.size
          have HJ2 : Hid (J (done ++ upS l n k M pre j) WE) := HSB.out _ _ _ HJ.out (hbW.mono (by omega))
          have HO2 : Hid (WE.ownsRow hi 3 1 (.slice sa k sc) k (pre.map (Value.int .i64))) := ownsRow_kb HO.out hbW
          have HFR2 : Hid (Fr lo hi RW W0 WE) := HFR.out.trans (Fr.of_below hbW)
          clear hbW hRg c0 c1 c2' c3'
          by_cases hc : CanSet M q (j : Int)
          · rw [decide_eq_true hc]
            have HUP := Lib.hid (upS_yes (l := l) (n := n) (pre := pre) (k := k) (M := M) (i := j) (by rw [← HQE.out]; exact hc))
            have CSM : Hid (cs = bdL (setOn M (l[k]?.getD q0) (j : Int) ((k : Int) + 1))) := by show _ = _; rw [HCS.out, HM'.out hc, ← HQE.out]
            clear hc HM' HCS
            go_wp2_with fail
            have e0 : WE.drew.rangeAt NB 0 cs := RG.out
            have e1 : (WE.alloc (.cells #[.int .i64 (j : Int)] 3)).drew.rangeAt NB 0 cs := World.rangeAt_alloc RG.out _
            have hu8 := Try.underlying60
            have hM1 := CI.out
            have LP : Hid ((pre ++ [(j : Int)]).length = k + 1) := by show _ = _; simp [HP.out]
            have HRR : Hid (∀ g, Value.ownBlock (.slice sa k sc) = some g → hi ≤ g ∧ g < F) := by show ∀ g, _; rw [← HRW.out]; exact HRLT.out
            have NR : Hid (some NB ≠ Value.ownBlock (.slice sa k sc)) := fun e => by have := (HRR.out NB e.symm).2; omega
            have HO9 : (WE.alloc (.cells #[.int .i64 (j : Int)] 3)).drew.ownsRow hi 3 1 (.slice sa k sc) pre.length (pre.map (Value.int .i64)) := by rw [HP.out]; exact HO2.out.alloc _
            have HS9 : hi ≤ (WE.alloc (.cells #[.int .i64 (j : Int)] 3)).drew.heap.size := by simp; omega
            have HP6 : pre.length ≤ 1000 := by rw [HP.out]; omega
            have HC9 := side_cell WE (j : Int)
            have HFRW : Hid (Fr lo hi (Value.ownBlock (.slice sa k sc)) W0 WE) := by show Fr _ _ _ _ _; rw [← HRW.out]; exact HFR2.out
            have HIW : hi ≤ WE.heap.size := by omega
            have HNI : hi ≤ NB := by omega
            have HLW : lo ≤ wr.heap.size := by omega
            have HLO : lo ≤ hi := hlo
            have HK1 : k + 1 + n = l.length := by have := HKN.out; omega
            go_region_held3 (fun w' => w'.rangeAt NB 0 cs)
              (first | with_reducible exact e0 | with_reducible exact e1 | with_reducible exact e2 | with_reducible exact e3 | fail)
              (first | (refine step_app_keep _ rfl (.tmp 39) (.tmp 41) rfl hi _ pre (j : Int) WE.heap.size HO9 HC9 rfl rfl HP6 HS9 ?_; intro v' w9 o1 o2 g1 xt; have e2 := rec_range RG.out g1 hNB2 NR.out; have hb9 := rec_below g1 (fun g hg => (HRR.out g hg).1) HIW) | (go_at_call 73; (refine (HIH.out (k + 1) (setOn M (l[k]?.getD q0) (j : Int) ((k : Int) + 1)) (pre ++ [(j : Int)]) v' cs w9 (done ++ upS l n k M pre j) HK1 LP.out CSM.out (HQB.out.below ((HBW.out.mono HLW).trans (hb9.1.mono HLO)) (Nat.le_refl _)) (Nat.le_trans HIW hb9.2) (by rw [← LP.out]; exact o1) (HSB.out _ _ _ HJ2.out hb9.1)).mono ?_); rintro e w10 ⟨rfl, hJ10, hf10, ho10⟩; have e3 := rec_range2 e2 hf10 xt hNB2 hb9.2 HNI NR.out) | fail)
            have HD := Lib.hid (rec_done HFRW.out g1 xt o2 hf10 ho10 HP.out (fun g hg => by have := (HRR.out g hg).2; omega))
            have HJ10 := Lib.hid hJ10
            rename_i hh
            clear hh e0 e1 e2 e3 hu8 hM1 o1 o2 g1 xt hb9 hJ10 hf10 ho10 HO9 HC9
            go_wp2_with fail
            go_roundw
            case rel => exact ⟨j + 1, by omega, by go_num, by rw [HUP.out, ← List.append_assoc]; exact HJ10.out, by rw [HRW.out]; exact HD.out.1, HD.out.2⟩
            case measure => simp [intOf]; omega
          · rw [decide_eq_false hc]
            have HUP := Lib.hid (upS_no (l := l) (n := n) (pre := pre) (k := k) (M := M) (i := j) (by rw [← HQE.out]; exact hc))
            clear hc HM' HCS
            go_wp2_with fail
            go_roundw
            case rel => exact ⟨j + 1, by omega, by go_num, by rw [HUP.out]; exact HJ2.out, HFR2.out, HO2.out⟩
            case measure => simp [intOf]; omega
      · obtain rfl : j = 4 := by omega
        have HRG9 : Hid (wr.rangeAt F 0 L) := HRG.out
        have e0 : wr.drew.rangeAt F 0 L := HRG.out
        have e1 : (wr.alloc (.cells #[.int .i64 (-1)] 3)).drew.rangeAt F 0 L := World.rangeAt_alloc HRG.out _
        have hu8 := Try.underlying60
        have hM1 := L1.out
        have LP : Hid ((pre ++ [(-1 : Int)]).length = k + 1) := by show _ = _; simp [HP.out]
        have HRR : Hid (∀ g, Value.ownBlock (.slice sa k sc) = some g → hi ≤ g ∧ g < F) := by show ∀ g, _; rw [← HRW.out]; exact HRLT.out
        have NR : Hid (some F ≠ Value.ownBlock (.slice sa k sc)) := fun e => by have := (HRR.out F e.symm).2; omega
        have HO9 : (wr.alloc (.cells #[.int .i64 (-1)] 3)).drew.ownsRow hi 3 1 (.slice sa k sc) pre.length (pre.map (Value.int .i64)) := by rw [HP.out]; exact HO.out.alloc _
        have HS9 : hi ≤ (wr.alloc (.cells #[.int .i64 (-1)] 3)).drew.heap.size := by simp; omega
        have HP6 : pre.length ≤ 1000 := by rw [HP.out]; omega
        have HC9 := side_cell wr (-1)
        have HFRW : Hid (Fr lo hi (Value.ownBlock (.slice sa k sc)) W0 wr) := by show Fr _ _ _ _ _; rw [← HRW.out]; exact HFR.out
        have HIW : hi ≤ wr.heap.size := by omega
        have HLO : lo ≤ hi := hlo
        have HK1 : k + 1 + n = l.length := by have := HKN.out; omega
        have HJA : Hid (J (done ++ upS l n k M pre 4) wr) := HJ.out
        clear c0 c1 c2' c3'
        go_wp2_with fail
        go_region_held3 (fun w' => w'.rangeAt F 0 L)
          (first | with_reducible exact e0 | with_reducible exact e1 | with_reducible exact e2 | with_reducible exact e3 | fail)
          (first | (refine step_app_keep _ rfl (.tmp 48) (.tmp 49) rfl hi _ pre (-1) wr.heap.size HO9 HC9 rfl rfl HP6 HS9 ?_; intro v' w9 o1 o2 g1 xt; have e2 := rec_range HRG.out g1 hF1 NR.out; have hb9 := rec_below g1 (fun g hg => (HRR.out g hg).1) HIW) | (go_at_call 73; (refine (HIH.out (k + 1) M (pre ++ [(-1 : Int)]) v' L w9 (done ++ upS l n k M pre 4) HK1 LP.out HL.out (HQB.out.below (hb9.1.mono HLO) (Nat.le_refl _)) (Nat.le_trans HIW hb9.2) (by rw [← LP.out]; exact o1) (HSB.out _ _ _ HJA.out hb9.1)).mono ?_); rintro e w10 ⟨rfl, hJ10, hf10, ho10⟩; have e3 := rec_range2 e2 hf10 xt hF1 hb9.2 hhi NR.out) | fail)
        have HD := Lib.hid (rec_done HFRW.out g1 xt o2 hf10 ho10 HP.out (fun g hg => by have := (HRR.out g hg).2; omega))
        have HJ10 := Lib.hid hJ10
        rename_i hh
        clear hh e0 e1 e2 e3 hu8 hM1 o1 o2 g1 xt hb9 hJ10 hf10 ho10 HO9 HC9
        go_wp2_with fail
        go_end0
        refine ⟨rfl, by rw [upS_all, ← List.append_assoc]; exact HJ10.out, ?_, HD.out.2⟩
        exact (by rw [← HRW.out]; exact FW.out : Fr lo hi (Value.ownBlock (.slice sa k sc)) w W0).trans HD.out.1
end Go.Proofs.Ytbpcjdhbbighgaa
