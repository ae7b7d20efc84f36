/-
  Contract of the reference's LabelsDrop. No condition.
-/
import Derived.Test.YtcjcgbimilglaaaLabDrop
namespace Go.Proofs.Ytcjcgbimilglaaa
open Go.RowKit Go.Deep

set_option maxHeartbeats 2000000 in
set_option maxRecDepth 100000 in
theorem specLabelsDrop_any (v : Value) (l : List Quad) (k : Int) (w : World) (h : Quads w v l) :
    Calls Try.prog 62 #[v, .int .i64 k] w fun e w' => ∃ v', e = .returned (.tuple #[v', .bool (decide (DropOk l k))]) ∧ OwnQ w.heap.size w'.heap.size w' v' (dropAll l k) ∧ Below w.heap.size w w' := by
  obtain ⟨a, cap, rfl, hc1, hc2, hc3⟩ := id h
  have H := Lib.hid h.quadsB
  clear h
  by_cases hv : ValidL l
  · have HV := Lib.hid (decide_eq_true hv)
    have hl6 := hv.1
    by_cases hk : 0 ≤ k ∧ k < (l.length : Int)
    · have HD := Lib.hid (decide_eq_true (p := DropOk l k) ⟨hv, hk.1, hk.2⟩)
      have HF := Lib.hid (show dropAll l k = l.take k.toNat ++ l.drop (k.toNat + 1) from if_pos ⟨hv, hk.1, hk.2⟩)
      obtain ⟨k0, k1⟩ := hk
      obtain ⟨n, rfl⟩ : ∃ n : Nat, k = (n : Int) := ⟨k.toNat, by omega⟩
      rw [Int.toNat_natCast] at HF
      obtain ⟨b, off, rfl, hb, _⟩ := hc3 (by omega)
      clear hv hc3
      go_enter Try.func62, Try.ntmps62
      go_wp2_with fail
      refine (specLabelsValid_any _ l _ (H.out.quads (Nat.le_refl _))).mono ?_
      rintro e w1 ⟨rfl, hb1⟩
      have hs1 := hb1.size
      have HB1 := Lib.hid hb1
      clear hb1
      rw [HV.out]
      go_wp2_with (go_at_call 81; refine (l6In_yes _ _ _ _ (by omega) (by omega)).mono ?_; rintro e w' ⟨rfl, rfl⟩)
      have g1 : n ≤ cap := by omega
      have g2 : n + 1 ≤ l.length := by omega
      have g3 : IntKind.i64.wrap ((n : Int) + 1) = (n : Int) + 1 := IntWalk.i64_in _ (by omega)
      have g4 : (0 : Int) ≤ (n : Int) + 1 := by omega
      have g5 : ((n : Int) + 1).toNat = n + 1 := by omega
      have g6 : (n : Int) + 1 ≤ (l.length : Int) := by omega
      obtain ⟨ad, had, hadd⟩ : ∃ ad : Addr, (if cap = n + 1 then some (⟨b, off, none⟩ : Addr) else some ⟨b, off + (n + 1) * 4, none⟩) = some ad ∧ (n + 1 < cap → ad = ⟨b, off + (n + 1) * 4, none⟩) := by
        by_cases e : cap = n + 1
        · exact ⟨_, if_pos e, fun h => by omega⟩
        · exact ⟨_, if_neg e, fun _ => rfl⟩
      have HA := Lib.hid hadd
      clear hadd
      have HQ := Lib.hid (H.out.below HB1.out (Nat.le_refl _) |>.mono hs1)
      have HT := Lib.hid (quads_take HQ.out n (by omega))
      have HDr := Lib.hid (quads_drop HQ.out (n + 1) (by omega) ad HA.out)
      have HB0 := Lib.hid (((Below.refl w1.heap.size w1).alloc (Nat.le_refl _) (.cells #[] 40)).drew)
      have HO0 := Lib.hid ((World.ownsRow_made (base := w1.heap.size) (e := 40) (size := 4) w1 #[] 0 (Nat.le_refl _) (by decide) rfl).drew)
      go_region_law (first | (refine step_app_quads w1 _ rfl (.tmp 18) (.tmp 21) rfl w1.heap.size _ [] _ (l.take n) HO0.out ((HT.out.below HB0.out (Nat.le_refl _)).quads (by simp)) rfl rfl (by simp; omega) (by simp) HB0.out ?_; intro v' w2 hown1 hbel1) | (refine step_app_quads w1 _ rfl (.tmp 22) (.tmp 26) rfl w1.heap.size _ _ _ (l.drop (n + 1)) hown1 ((HDr.out.below hbel1 (Nat.le_refl _)).quads hbel1.size) rfl rfl (by simp; omega) hbel1.size hbel1 ?_; intro v'' w3 hown2 hbel2))
      all_goals
        have HO3 := Lib.hid hown2
        have HB3 := Lib.hid hbel2
        clear hown1 hbel1 hown2 hbel2
        go_wp2
        go_ret2
        exact ⟨_, tup_bool HD.out.symm, by rw [HF.out]; exact (ownQ_of_ownsRow (l := l.take n ++ l.drop (n + 1)) HO3.out (Nat.le_refl _)).mono hs1 (Nat.le_refl _), HB1.out.trans (HB3.out.mono hs1)⟩
    · have HD := Lib.hid (decide_eq_false (p := DropOk l k) (fun h => hk ⟨h.2.1, h.2.2⟩))
      have HF := Lib.hid (show dropAll l k = [] from if_neg (fun h => hk ⟨h.2.1, h.2.2⟩))
      have HN := Lib.hid (show k < 0 ∨ (l.length : Int) - 1 < k by omega)
      clear hv hc3 hk
      go_enter Try.func62, Try.ntmps62
      go_wp2_with fail
      refine (specLabelsValid_any _ l _ (H.out.quads (Nat.le_refl _))).mono ?_
      rintro e w1 ⟨rfl, hb1⟩
      have HB1 := Lib.hid hb1
      clear hb1
      rw [HV.out]
      go_wp2_with (go_at_call 81; refine (l6In_no _ _ _ _ HN.out).mono ?_; rintro e w' ⟨rfl, rfl⟩)
      go_ret2
      exact ⟨_, tup_bool HD.out.symm, by rw [HF.out]; exact .inl ⟨rfl, _, _, rfl, by omega⟩, HB1.out.alloc HB1.out.size _⟩
  · have HV := Lib.hid (decide_eq_false hv)
    have HD := Lib.hid (decide_eq_false (p := DropOk l k) (fun h => hv h.1))
    have HF := Lib.hid (show dropAll l k = [] from if_neg (fun h => hv h.1))
    clear hv hc3
    go_enter Try.func62, Try.ntmps62
    go_wp2_with fail
    refine (specLabelsValid_any _ l _ (H.out.quads (Nat.le_refl _))).mono ?_
    rintro e w1 ⟨rfl, hb1⟩
    have HB1 := Lib.hid hb1
    clear hb1
    rw [HV.out]
    go_wp2
    go_ret2
    exact ⟨_, tup_bool HD.out.symm, by rw [HF.out]; exact .inl ⟨rfl, _, _, rfl, by omega⟩, HB1.out.alloc HB1.out.size _⟩
end Go.Proofs.Ytcjcgbimilglaaa
