/-
  Contracts of spec.l6Dec at a digit and of spec.SettingText. No condition but that the slices read as the lists.
-/
import Derived.Test.YtbpcjdhbbighgaaL8
import Derived.Test.YtbpcjdhbbighgaaPlan2
import Derived.Laws.Concat
import Derived.Laws.BytesArg
namespace Go.Proofs.Ytbpcjdhbbighgaa
open Go.RowKit Go.Deep
set_option linter.unusedSimpArgs false
set_option linter.unusedVariables false

theorem l6Dec_digit (k : Nat) (w : World) (hk : k ≤ 9) :
    Calls Try.prog 68 #[.int .i64 (k : Int)] w fun e w' => e = .returned (.string ⟨#[UInt8.ofNat (48 + k)]⟩) ∧ Below w.heap.size w w' := by
  have t1 : ¬ (k : Int) < -9223372036854775807 := by omega
  have t2 : ¬ (k : Int) < 0 := by omega
  have t3 : (k : Int) < 10 := by omega
  have e1 : IntKind.i64.wrap (48 + (k : Int)) = 48 + (k : Int) := IntWalk.i64_in _ (by omega)
  have e2 : IntKind.u8.wrap (48 + (k : Int)) = 48 + (k : Int) := by
    rcases (show k = 0 ∨ k = 1 ∨ k = 2 ∨ k = 3 ∨ k = 4 ∨ k = 5 ∨ k = 6 ∨ k = 7 ∨ k = 8 ∨ k = 9 by omega) with rfl | rfl | rfl | rfl | rfl | rfl | rfl | rfl | rfl | rfl <;> rfl
  obtain ⟨z, hz⟩ : ∃ z : Int, z = 48 + (k : Int) := ⟨_, rfl⟩
  have hcv := run_convert_bytes_arg (P := Try.prog) (w.alloc (.cells #[.int .u8 z] 5)) 22 5 Try.underlying22 Try.underlying5 w.heap.size 0 1 1 [z] rfl (fun i hi => by
    obtain rfl : i = 0 := by omega
    simp) 9 Try.underlying9
  have E : Hid (strOfNums [z] = ⟨#[UInt8.ofNat (48 + k)]⟩) := by
    show _ = _
    rw [strOfNums, hz, List.map_cons, List.map_nil, show (48 + (k : Int)).toNat = 48 + k by omega]
  have HB : Hid (Below w.heap.size w (w.alloc (.cells #[.int .u8 z] 5))) := (Below.refl _ _).alloc (Nat.le_refl _) _
  rw [← hz] at e1 e2
  have e0 := hz.symm
  clear hz
  obtain ⟨ch, hch⟩ : ∃ ch, ch = UInt8.ofNat (48 + k) := ⟨_, rfl⟩
  rw [← hch] at E ⊢
  clear hch
  rw [E.out] at hcv
  go_enter Try.func68, Try.ntmps68
  go_wp2
  go_ret
  exact ⟨rfl, HB.out⟩

theorem textUp_next (M : Plan) (k : Nat) : textUp M (k + 1) = textUp M k ++ UInt8.ofNat (chrOf (M k)) :: if k % 10 = 9 then [10] else [] := rfl

set_option maxHeartbeats 2000000 in
set_option maxRecDepth 100000 in
theorem specSettingText_any (v u : Value) (l : List Quad) (s : List Int) (w : World) (h : Quads w v l) (hu : Ints w u s) :
    Calls Try.prog 31 #[v, u] w fun e w' => e = .returned (.string ⟨(textOf l s).toArray⟩) ∧ Below w.heap.size w w' := by
  obtain ⟨a, cap, rfl, h1, h2, h3⟩ := id h
  obtain ⟨a', cap', rfl, h1', h2', h3'⟩ := id hu
  have H := Lib.hid h.quadsB
  have HU := Lib.hid hu.intsB
  clear h hu h3 h3'
  by_cases hs : SetOk l s
  · have HS := Lib.hid hs
    have HT : Hid (textOf l s = textUp (planUp l s l.length) 100) := if_pos hs
    have HM := Lib.hid (plan_small hs.1 s)
    have HO := Lib.hid hs.2.2
    have HL := Lib.hid hs.2.1
    have HR : Hid (∀ i, i < s.length → -1 ≤ s[i]?.getD 0 ∧ s[i]?.getD 0 ≤ 3) := fun i hi => by
      have := ((okUp_iff l s _).1 hs.2.2 i (by rw [← hs.2.1]; exact hi)).side
      omega
    clear hs
    go_enter Try.func31, Try.ntmps31
    go_wp2_with fail
    refine (specSettingValid_any _ _ l s _ (H.out.quads (Nat.le_refl _)) (HU.out.ints (Nat.le_refl _))).mono ?_
    rintro e w1 ⟨rfl, hb⟩
    have hs1 := hb.size
    have HB := Lib.hid hb
    clear hb
    rw [decide_eq_true HS.out]
    go_wp2_with fail
    refine (l8All_any _ _ l s w1 ((H.out.below HB.out (Nat.le_refl _)).quads hs1) ((HU.out.below HB.out (Nat.le_refl _)).ints hs1) HS.out.1 HL.out HR.out).mono ?_
    rintro e w2 ⟨am, nm, cm, rfl, hm, hb⟩
    obtain ⟨b, off, c, he, hc1, hc2, hb1, hcell⟩ := (hm HO.out).mapB
    obtain ⟨rfl, rfl, rfl⟩ : am = some ⟨b, off, none⟩ ∧ nm = 100 ∧ cm = c := by simpa using he
    rw [decide_eq_true HO.out]
    have HB2 := Lib.hid (HB.out.trans (hb.mono (by omega)))
    obtain ⟨M, hM⟩ : ∃ M, M = planUp l s l.length := ⟨_, rfl⟩
    rw [← hM] at HM HT hcell
    have CM := Lib.hid hcell
    clear hb hm he hcell hM
    go_wp2_with fail
    go_loopw [7, 8] (fun t i wr => ∃ k : Nat, k ≤ 100 ∧ i = .int .i64 k ∧ t = .string ⟨(textUp M k).toArray⟩ ∧ Below w2.heap.size w2 wr) (fun _ i _ => 100 - (intOf i).toNat)
    case atStart => exact ⟨0, by omega, rfl, rfl, Below.refl _ _⟩
    case round =>
      obtain ⟨k, hk, rfl, rfl, hbel⟩ := hrel
      have HBR := Lib.hid hbel
      by_cases hlt : k < 100
      · have c9 := (hbel.cell (p := ⟨b, off + k, none⟩) hb1).trans (CM.out k hlt)
        have ⟨m1, m2⟩ := HM.out k
        have TN := Lib.hid (textUp_next M k)
        have tl := textUp_length M k
        obtain ⟨T, hT⟩ : ∃ T, T = textUp M k := ⟨_, rfl⟩
        rw [← hT] at TN tl ⊢
        obtain ⟨m, hm⟩ : ∃ m, m = M k := ⟨_, rfl⟩
        rw [← hm] at TN m1 m2 c9
        have x1 : (k : Int) < 100 := by omega
        have x3 : (0 : Int) ≤ (k : Int) := by omega
        clear hT hm hbel
        have hadd : ∀ (W : World) (x y : List UInt8), x.length ≤ 200 → y.length ≤ 200 → (Op.stringOp .add ⟨x.toArray⟩ ⟨y.toArray⟩).run Try.prog W = .ok (.string ⟨(x ++ y).toArray⟩) W := fun W x y hx hy => run_string_add_lists W x y (by omega) (by omega)
        have A1 := fun W => hadd W T [42] (by omega) (by simp)
        have A2 := fun W => hadd W T [46] (by omega) (by simp)
        have HA := Lib.hid hadd
        clear hadd
        have dv : ∀ ch : Nat, chrOf m = ch → (k % 10 = 9 → textUp M (k + 1) = (T ++ [UInt8.ofNat ch]) ++ [10]) ∧ (k % 10 ≠ 9 → textUp M (k + 1) = T ++ [UInt8.ofNat ch]) := fun ch hc => by
          rw [TN.out, hc]
          constructor
          · intro h; rw [if_pos h]; simp
          · intro h; rw [if_neg h]
        rcases (show m < 0 ∨ m = 0 ∨ 0 < m by omega) with hmm | hmm | hmm
        · have D := Lib.hid (dv 42 (by simp [chrOf, hmm]))
          clear dv
          have A3 := fun W => HA.out W (T ++ [42]) [10] (by simp; omega) (by simp)
          by_cases h9 : k % 10 = 9
          · have r9 : (k : Int) % 10 = 9 := by omega
            have D' := Lib.hid (D.out.1 h9)
            clear h9 D
            go_wp2
            go_roundw
            case rel => exact ⟨k + 1, by omega, by go_num, by rw [D'.out]; first | done | simp, HBR.out⟩
            case measure => simp [intOf]; omega
          · have r9 : ¬ (k : Int) % 10 = 9 := by omega
            have D' := Lib.hid (D.out.2 h9)
            clear h9 D
            go_wp2
            go_roundw
            case rel => exact ⟨k + 1, by omega, by go_num, by rw [D'.out]; first | done | simp, HBR.out⟩
            case measure => simp [intOf]; omega
        · subst hmm
          have D := Lib.hid (dv 46 (by simp [chrOf]))
          clear dv
          have A3 := fun W => HA.out W (T ++ [46]) [10] (by simp; omega) (by simp)
          by_cases h9 : k % 10 = 9
          · have r9 : (k : Int) % 10 = 9 := by omega
            have D' := Lib.hid (D.out.1 h9)
            clear h9 D
            go_wp2
            go_roundw
            case rel => exact ⟨k + 1, by omega, by go_num, by rw [D'.out]; first | done | simp, HBR.out⟩
            case measure => simp [intOf]; omega
          · have r9 : ¬ (k : Int) % 10 = 9 := by omega
            have D' := Lib.hid (D.out.2 h9)
            clear h9 D
            go_wp2
            go_roundw
            case rel => exact ⟨k + 1, by omega, by go_num, by rw [D'.out]; first | done | simp, HBR.out⟩
            case measure => simp [intOf]; omega
        · obtain ⟨n, rfl⟩ : ∃ n : Nat, m = (n : Int) + 1 := ⟨(m - 1).toNat, by omega⟩
          have hn : n ≤ 9 := by omega
          have q1 : ¬ (n : Int) + 1 < 0 := by omega
          have q2 : ¬ (n : Int) + 1 = 0 := by omega
          have q3 : IntKind.i64.wrap ((n : Int) + 1 - 1) = (n : Int) := by rw [IntWalk.i64_in _ (by omega)]; omega
          have D := Lib.hid (dv (48 + n) (by simp only [chrOf]; rw [if_neg q1, if_neg q2]; omega))
          obtain ⟨ch, hch⟩ : ∃ ch, ch = UInt8.ofNat (48 + n) := ⟨_, rfl⟩
          rw [← hch] at D
          have A3 := fun W => HA.out W (T ++ [ch]) [10] (by simp; omega) (by simp)
          have A4 := fun W => HA.out W T [ch] (by omega) (by simp)
          have HC := Lib.hid hch
          clear hch dv A1 A2
          by_cases h9 : k % 10 = 9
          · have r9 : (k : Int) % 10 = 9 := by omega
            have D' := Lib.hid (D.out.1 h9)
            clear h9 D
            go_wp2_with fail
            refine (l6Dec_digit n _ hn).mono ?_
            rintro e w4 ⟨rfl, hb4⟩
            rw [← HC.out]
            have HB4 := Lib.hid (HBR.out.trans (hb4.mono HBR.out.size))
            clear hb4
            go_wp2
            go_roundw
            case rel => exact ⟨k + 1, by omega, by go_num, by rw [D'.out]; first | done | simp, HB4.out⟩
            case measure => simp [intOf]; omega
          · have r9 : ¬ (k : Int) % 10 = 9 := by omega
            have D' := Lib.hid (D.out.2 h9)
            clear h9 D
            go_wp2_with fail
            refine (l6Dec_digit n _ hn).mono ?_
            rintro e w4 ⟨rfl, hb4⟩
            rw [← HC.out]
            have HB4 := Lib.hid (HBR.out.trans (hb4.mono HBR.out.size))
            clear hb4
            go_wp2
            go_roundw
            case rel => exact ⟨k + 1, by omega, by go_num, by rw [D'.out]; first | done | simp, HB4.out⟩
            case measure => simp [intOf]; omega
      · obtain rfl : k = 100 := by omega
        rw [← HT.out]
        obtain ⟨T, hT⟩ : ∃ T, T = textOf l s := ⟨_, rfl⟩
        rw [← hT]
        have HF := Lib.hid (HB2.out.trans (HBR.out.mono HB2.out.size))
        have HTT := Lib.hid hT
        clear hT hlt hbel
        go_wp2_with fail
        go_ret
        exact ⟨by show Ending.returned (.string ⟨T.toArray⟩) = _; rw [HTT.out], HF.out⟩
  · have HS := Lib.hid hs
    have HT : Hid (textOf l s = []) := if_neg hs
    clear hs
    go_enter Try.func31, Try.ntmps31
    go_wp2_with fail
    refine (specSettingValid_any _ _ l s _ (H.out.quads (Nat.le_refl _)) (HU.out.ints (Nat.le_refl _))).mono ?_
    rintro e w1 ⟨rfl, hb⟩
    have HB := Lib.hid hb
    clear hb
    rw [decide_eq_false HS.out]
    go_wp2_with fail
    go_ret
    exact ⟨by rw [HT.out]; rfl, HB.out⟩
end Go.Proofs.Ytbpcjdhbbighgaa
