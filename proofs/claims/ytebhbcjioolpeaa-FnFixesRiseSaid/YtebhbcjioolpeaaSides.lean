/-
  l91Grid, l92Sides: drawn grids. Conditions: the reader has picked fewer than fifty thousand times.
-/
import Derived.Test.YtebhbcjioolpeaaRough
import Derived.StillTailTactics
namespace Go.Proofs.Ytebhbcjioolpeaa
open Go.RowKit Go.Deep

/-- lists of rows that a draw gives: some rows, none of them empty, all short -/
def Drawn (g : Rows) : Prop := 1 ≤ g.length ∧ g.length ≤ 8 ∧ ∀ j, j < g.length → 1 ≤ (g[j]?.getD []).length ∧ (g[j]?.getD []).length ≤ 9

set_option maxHeartbeats 1000000 in
set_option maxRecDepth 100000 in
theorem l91Grid_any (R P : Nat) (w : World) (h : Rd w R P) (hP : P ≤ 50000) :
    Calls Try.prog 97 #[.pointer (some ⟨R, 0, none⟩)] w fun e w' => ∃ v g P', e = .returned v ∧ OwnG w.heap.size w'.heap.size w' v g ∧ Drawn g ∧ Rd w' R P' ∧ P' ≤ P + 110 ∧ Touch R (R + 1) w w' := by
  have HR := Lib.hid h
  clear h
  go_enter Try.func97, Try.ntmps97
  go_wp2_with fail
  refine (pick_i R P _ _ HR.out (by omega) (by omega) (by omega)).mono ?_
  rintro e w1 ⟨x, rfl, hx0, hx1, hrd1, ht1⟩
  obtain ⟨xn, rfl⟩ : ∃ n : Nat, x = (n : Int) := ⟨x.toNat, by omega⟩
  have HR1 := Lib.hid hrd1
  have HT1 := Lib.hid ht1
  have z1 := ht1.size
  clear hrd1 ht1
  go_wp2_with fail
  refine (pick_i R (P + 1) _ _ HR1.out (by omega) (by omega) (by omega)).mono ?_
  rintro e w2 ⟨y, rfl, hy0, hy1, hrd2, ht2⟩
  obtain ⟨yn, rfl⟩ : ∃ n : Nat, y = (n : Int) := ⟨y.toNat, by omega⟩
  have HR2 := Lib.hid hrd2
  have HT2 := Lib.hid (HT1.out.trans ht2)
  have z2 := ht2.size
  clear hrd2 ht2
  have C := Lib.hid (l91Rough_any R (P + 1 + 1) (1 + xn) (1 + yn) w2 HR2.out (by omega) (by omega) (by omega) (by omega) (by omega))
  have e1 : ((1 + xn : Nat) : Int) = 1 + (xn : Int) := by omega
  have e2 : ((1 + yn : Nat) : Int) = 1 + (yn : Int) := by omega
  rw [e1, e2] at C
  go_wp2_with fail
  refine C.out.mono ?_
  rintro e w3 ⟨v, g, P', rfl, hO, hgl, hlens, hrd3, hP', ht3⟩
  have z3 := ht3.size
  go_wp2
  go_ret
  exact ⟨v, g, P', rfl, hO.mono (by omega) (Nat.le_refl _), ⟨by omega, by omega, fun j hj => hlens j (by omega)⟩, hrd3, by omega, HT2.out.trans ht3⟩

set_option maxHeartbeats 2000000 in
set_option maxRecDepth 100000 in
theorem l92Sides_any (R P : Nat) (w : World) (h : Rd w R P) (hP : P ≤ 10000) :
    Calls Try.prog 75 #[.pointer (some ⟨R, 0, none⟩)] w fun e w' => ∃ va vb ga gb, e = .returned (.tuple #[va, vb]) ∧ Grid w' va ga ∧ Grid w' vb gb ∧ Drawn ga ∧ Drawn gb ∧ Touch R (R + 1) w w' := by
  have HR := Lib.hid h
  have hRw := h.lt
  clear h
  go_enter Try.func75, Try.ntmps75
  go_wp2_with fail
  refine (pick_i R P _ _ HR.out (by omega) (by omega) (by omega)).mono ?_
  rintro e w1 ⟨x, rfl, hx0, hx1, hrd1, ht1⟩
  obtain ⟨xn, rfl⟩ : ∃ n : Nat, x = (n : Int) := ⟨x.toNat, by omega⟩
  have HR1 := Lib.hid hrd1
  have HT1 := Lib.hid ht1
  have z1 := ht1.size
  clear hrd1 ht1
  obtain ⟨n, hn⟩ : ∃ n, n = 1 + xn := ⟨_, rfl⟩
  have e1 : 1 + (xn : Int) = (n : Int) := by omega
  have e1' : IntKind.i64.wrap (1 + (xn : Int)) = (n : Int) := by rw [e1]; exact IntWalk.i64_in _ (by omega)
  have e1n : IntKind.i64.wrap (n : Int) = (n : Int) := IntWalk.i64_in _ (by omega)
  have HN := Lib.hid hn
  have hn4 : 1 ≤ n ∧ n ≤ 4 := by omega
  clear hn
  go_wp2_with fail
  refine (pick_i R (P + 1) _ _ HR1.out (by omega) (by omega) (by omega)).mono ?_
  rintro e w2 ⟨y, rfl, hy0, hy1, hrd2, ht2⟩
  obtain ⟨yn, rfl⟩ : ∃ n : Nat, y = (n : Int) := ⟨y.toNat, by omega⟩
  have HR2 := Lib.hid hrd2
  have HT2 := Lib.hid (HT1.out.trans ht2)
  have z2 := ht2.size
  clear hrd2 ht2
  have C := Lib.hid (l91Rough_any R (P + 1 + 1) n (1 + yn) w2 HR2.out (by omega) (by omega) (by omega) (by omega) (by omega))
  have e2 : ((1 + yn : Nat) : Int) = 1 + (yn : Int) := by omega
  rw [e2] at C
  go_wp2_with fail
  refine C.out.mono ?_
  rintro e w3 ⟨va, ga, P3, rfl, hOa, hgal, hla, hrd3, hP3, ht3⟩
  have HR3 := Lib.hid hrd3
  have HT3 := Lib.hid (HT2.out.trans ht3)
  have z3 := ht3.size
  have HA3 := Lib.hid hOa
  have HLA := Lib.hid hla
  clear hrd3 ht3 hOa hla C
  go_wp2_with fail
  refine (pick_i R P3 _ _ HR3.out (by omega) (by omega) (by omega)).mono ?_
  rintro e w4 ⟨t, rfl, ht0, ht1', hrd4, ht4⟩
  obtain ⟨tn, rfl⟩ : ∃ n : Nat, t = (n : Int) := ⟨t.toNat, by omega⟩
  have HR4 := Lib.hid hrd4
  have HT4 := Lib.hid (HT3.out.trans ht4)
  have z4 := ht4.size
  have HA4 := Lib.hid (HA3.out.touch ht4 (.inr (by omega)))
  clear hrd4 ht4
  have C := Lib.hid (l91Rough_any R (P3 + 1) n (1 + tn) w4 HR4.out (by omega) (by omega) (by omega) (by omega) (by omega))
  have e3 : ((1 + tn : Nat) : Int) = 1 + (tn : Int) := by omega
  rw [e3] at C
  go_wp2_with fail
  refine C.out.mono ?_
  rintro e w5 ⟨vb, gb, P5, rfl, hOb, hgbl, hlb, hrd5, hP5, ht5⟩
  have HR5 := Lib.hid hrd5
  have HT5 := Lib.hid (HT4.out.trans ht5)
  have z5 := ht5.size
  have HA5 := Lib.hid (HA4.out.touch ht5 (.inr (by omega)))
  have HB5 := Lib.hid hOb
  have HLB := Lib.hid hlb
  clear hrd5 ht5 hOb hlb C
  have DA : Hid (Drawn ga) := ⟨by omega, by omega, fun j hj => HLA.out j (by omega)⟩
  have DB : Hid (Drawn gb) := ⟨by omega, by omega, fun j hj => HLB.out j (by omega)⟩
  go_wp2_with fail
  refine (pick_i R P5 _ _ HR5.out (by omega) (by omega) (by omega)).mono ?_
  rintro e w6 ⟨c, rfl, hc0, hc1, hrd6, ht6⟩
  have HR6 := Lib.hid hrd6
  have HT6 := Lib.hid (HT5.out.trans ht6)
  have z6 := ht6.size
  have HA6 := Lib.hid (HA5.out.touch ht6 (.inr (by omega)))
  have HB6 := Lib.hid (HB5.out.touch ht6 (.inr (by omega)))
  clear hrd6 ht6
  by_cases c0 : c = 0
  · subst c0
    go_wp2_with fail
    refine (l91Grid_any R (P5 + 1) _ HR6.out (by omega)).mono ?_
    rintro e w7 ⟨v, g, P7, rfl, hO, hD, hrd7, hP7, ht7⟩
    have z7 := ht7.size
    go_wp2
    go_ret2
    exact ⟨va, v, ga, g, rfl, (HA6.out.touch ht7 (.inr (by omega))).grid (by omega), hO.grid (Nat.le_refl _), DA.out, hD, HT6.out.trans ht7⟩
  · have q0 : (c == 0) = false := by simp [c0]
    clear c0
    go_wp2_with fail
    refine (pick_i R (P5 + 1) _ _ HR6.out (by omega) (by omega) (by omega)).mono ?_
    rintro e w7 ⟨d, rfl, hd0, hd1, hrd7, ht7⟩
    have HT7 := Lib.hid (HT6.out.trans ht7)
    have z7 := ht7.size
    have HA7 := Lib.hid (HA6.out.touch ht7 (.inr (by omega)))
    have HB7 := Lib.hid (HB6.out.touch ht7 (.inr (by omega)))
    clear hrd7 ht7
    by_cases d0 : 0 < d
    · obtain ⟨L1, hL1⟩ : ∃ L, L = w3.heap.size := ⟨_, rfl⟩
      obtain ⟨L2, hL2⟩ : ∃ L, L = w4.heap.size := ⟨_, rfl⟩
      obtain ⟨L3, hL3⟩ : ∃ L, L = w5.heap.size := ⟨_, rfl⟩
      obtain ⟨L0, hL0⟩ : ∃ L, L = w2.heap.size := ⟨_, rfl⟩
      rw [← hL0, ← hL1] at HA7
      rw [← hL2, ← hL3] at HB7
      rw [← hL0] at z2 z3
      rw [← hL1] at z3 z4
      rw [← hL2] at z4 z5
      rw [← hL3] at z5 z6
      clear hL0 hL1 hL2 hL3
      go_wp2
      go_loopw [7] (fun i wr => ∃ (k : Nat) (g : Rows), k ≤ n ∧ i = .int .i64 k ∧ OwnG L0 L1 wr va ga ∧ OwnG L2 L3 wr vb g ∧ g.length = n ∧ (∀ j, j < n → 1 ≤ (g[j]?.getD []).length ∧ (g[j]?.getD []).length ≤ 9) ∧ w7.heap.size ≤ wr.heap.size ∧ Touch R (R + 1) w wr) (fun i _ => n - (intOf i).toNat)
      case atStart => exact ⟨0, gb, Nat.zero_le _, rfl, HA7.out, HB7.out, hgbl, HLB.out, Nat.le_refl _, HT7.out⟩
      case round =>
        obtain ⟨k, g, hk, rfl, hOa, hOb, hgl, hlg, hw7, ht⟩ := hrel
        by_cases hlt : k < n
        · obtain ⟨q1, q2⟩ := HLA.out k hlt
          obtain ⟨q3, q4⟩ := hlg k hlt
          obtain ⟨la, hla⟩ : ∃ l, l = (ga[k]?.getD []).length := ⟨_, rfl⟩
          obtain ⟨m, hm⟩ : ∃ m, la = m + 1 := ⟨la - 1, by omega⟩
          obtain ⟨lb, hlb⟩ : ∃ l, l = (g[k]?.getD []).length := ⟨_, rfl⟩
          obtain ⟨ba, oa, ca, ba2, oa2, ca2, hva, s1, s2, s3, s4, s5, s6, s7, s8⟩ := hOa.cell (r := k) (c := m) (by omega) (by omega)
          obtain ⟨bb, ob, cb, bb2, ob2, cb2, hvb, t1, t2, t3, t4, t5, t6, t7, t8⟩ := hOb.cell (r := k) (c := 0) (by omega) (by omega)
          rw [hgal] at hva
          rw [hgl] at hvb
          subst hva
          subst hvb
          rw [← hla] at s1 s6
          rw [← hlb] at t1 t6
          subst hm
          rw [Nat.add_zero] at t2 t3
          obtain ⟨u, hu⟩ : ∃ u, u = (ga[k]?.getD [])[m]?.getD 0 := ⟨_, rfl⟩
          obtain ⟨o, ho⟩ : ∃ o, o = (g[k]?.getD [])[0]?.getD 0 := ⟨_, rfl⟩
          rw [← hu] at s2
          rw [← ho] at t2
          have S8 := Lib.hid (t8 u)
          have OA := Lib.hid hOa
          have HT := Lib.hid ht
          have HLG := Lib.hid hlg
          have j1 : (k : Int) < (n : Int) := by omega
          have j2 : (0 : Int) ≤ (k : Int) := by omega
          have j3 : (0 : Int) < (lb : Int) := by omega
          have j4 : 0 < lb := by omega
          have w1' : IntKind.i64.wrap ((m : Int) + 1 - 1) = (m : Int) := by rw [Int.add_sub_cancel]; exact IntWalk.i64_in _ (by omega)
          have w2' : IntKind.i64.wrap (m : Int) = (m : Int) := IntWalk.i64_in _ (by omega)
          have j5 : (m : Int) < (m : Int) + 1 := by omega
          have j6 : (0 : Int) ≤ (m : Int) := by omega
          have hRb : R < bb2 := by omega
          clear hOa hOb ht s8 t8 hlg hla hlb hu ho
          go_wp2
          go_still_tail 17, (by kernel_rfl)
          change wpList _ _ _ _ _ wr.drew
          have t2' : wr.drew.cell? ⟨bb2, ob2, none⟩ = _ := t2
          have t3' : wr.drew.frozen? ⟨bb2, ob2, none⟩ = _ := t3
          go_wp2
          go_roundw
          case rel =>
            have hTB : Touch L2 L3 wr (wr.setCell ⟨bb2, ob2, none⟩ (.int .i64 u)).drew := ((Touch.refl L2 L3 wr).setCell t4 t5 _).drew
            have hzB : wr.heap.size ≤ (wr.setCell ⟨bb2, ob2, none⟩ (.int .i64 u)).drew.heap.size := hTB.size
            refine ⟨k + 1, _, by omega, by go_num, OA.out.touch hTB (.inl (by omega)), S8.out, by rw [List.length_set]; exact hgl, fun j hj => ?_, by omega, HT.out.then (((Below.refl w.heap.size wr).setCell (p := ⟨bb2, ob2, none⟩) (by show w.heap.size ≤ bb2; omega) _).drew)⟩
            rw [setR_get (by omega)]
            have := HLG.out j hj
            by_cases e : j = k
            · subst e; rw [if_pos rfl, List.length_set]; exact this
            · rw [if_neg e]; exact this
          case measure => simp [intOf]; omega
        · have hkn : k = n := by omega
          have OA := Lib.hid hOa
          have OB := Lib.hid hOb
          have HT := Lib.hid ht
          have HLG := Lib.hid hlg
          clear hOa hOb ht hlg
          go_wp2
          go_ret2
          exact ⟨va, vb, ga, g, rfl, OA.out.grid (by omega), OB.out.grid (by omega), DA.out, ⟨by omega, by omega, fun j hj => HLG.out j (by omega)⟩, HT.out⟩
    · go_wp2
      go_ret2
      exact ⟨va, vb, ga, gb, rfl, HA7.out.grid (by omega), HB7.out.grid (by omega), DA.out, DB.out, HT7.out⟩

end Go.Proofs.Ytebhbcjioolpeaa
