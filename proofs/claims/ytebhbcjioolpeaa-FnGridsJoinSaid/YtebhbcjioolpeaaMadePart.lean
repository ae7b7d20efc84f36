/-
  made: the lists of a new field whose heights a closure tells. Conditions: the closure tells heights, and turns nothing that was there.
-/
import Derived.Test.YtebhbcjioolpeaaMend
namespace Go.Proofs.Ytebhbcjioolpeaa
open Go.RowKit Go.Deep Go.Sort BigFrame

set_option maxHeartbeats 4000000 in
set_option maxRecDepth 100000 in
theorem made_part (P1 P2 P3 : Nat) (r c : Nat) (h : Nat → Nat → Int) (w : World) (hr1 : 1 ≤ r) (hr : r ≤ 7) (hc1 : 1 ≤ c) (hc : c ≤ 7)
    (hK : ∀ W i j, Below w.heap.size w W → i < r → j < c → Calls Try.prog 87 (#[.int .i64 (i : Int), .int .i64 (j : Int)] ++ #[.pointer (some ⟨P1, 0, none⟩), .pointer (some ⟨P2, 0, none⟩), .pointer (some ⟨P3, 0, none⟩)]) W fun e w' => e = .returned (.int .i64 (h i j)) ∧ Below W.heap.size W w')
    (hh : ∀ i j, i < r → j < c → 0 ≤ h i j ∧ h i j ≤ 99) :
    Calls Try.prog 79 #[.int .i64 r, .int .i64 c, .func (.func 87) #[] #[.pointer (some ⟨P1, 0, none⟩), .pointer (some ⟨P2, 0, none⟩), .pointer (some ⟨P3, 0, none⟩)]] w fun e w' => ∃ v, e = .returned (.tuple #[v, .bool true]) ∧ OwnG w.heap.size w'.heap.size w' v (rowsOf (fun n => h (n / c) (n % c)) r c) ∧ Below w.heap.size w w' := by
  have t1 : decide ((r : Int) < 1) = false := decide_eq_false (by omega)
  have t2 : decide ((7 : Int) < (r : Int)) = false := decide_eq_false (by omega)
  have t3 : decide ((c : Int) < 1) = false := decide_eq_false (by omega)
  have t4 : decide ((7 : Int) < (c : Int)) = false := decide_eq_false (by omega)
  have HK := Lib.hid hK
  have HH := Lib.hid hh
  obtain ⟨N, hN⟩ : ∃ N, N = r * c := ⟨_, rfl⟩
  have HN := Lib.hid hN
  have CB := Lib.hid (blank_any r c w (by omega) (by omega))
  rw [← hN] at CB
  clear hK hh hN
  go_enter Try.func79, Try.ntmps79
  go_wp2_with (go_at_call 98; refine CB.out.mono ?_; rintro e w1 ⟨rfl, hrow, hbl⟩)
  have B1 := Lib.hid hbl
  have HR := Lib.hid (hrow.alloc (.cells #[.int .i64 r, .int .i64 c, .slice (some ⟨w.heap.size + 1, 0, none⟩) N N] 61))
  have hlt1 := hrow.lt
  have hz1 := hbl.size
  have BX := Lib.hid (Box3.row (field_row w1 (.int .i64 r) (.int .i64 c) (.slice (some ⟨w.heap.size + 1, 0, none⟩) N N)))
  obtain ⟨F, hF⟩ : ∃ F, F = w1.heap.size := ⟨_, rfl⟩
  rw [← hF] at hlt1 hz1 ⊢
  have HFE := Lib.hid hF
  clear hF hrow hbl CB
  go_loopw [9, 10, 11, 30, 34] (fun _ _ _ i _ wr => ∃ k : Nat, k ≤ r ∧ i = .int .i64 k ∧ Box3 wr F (.int .i64 r) (.int .i64 c) (.slice (some ⟨w.heap.size + 1, 0, none⟩) N N) ∧ wr.rowIs (w.heap.size + 1) 3 N (fun n => .int .i64 (if n < k * c then h (n / c) (n % c) else 0)) ∧ Below w.heap.size w wr) (fun _ _ _ i _ _ => r - (intOf i).toNat)
  case atStart => exact ⟨0, Nat.zero_le _, rfl, by rw [HFE.out]; exact BX.out, HR.out.congr (fun j _ => by simp), B1.out.alloc (by rw [← HFE.out]; exact hz1) _⟩
  case round =>
    obtain ⟨k, hk, rfl, bx, hrow, hbel⟩ := hrel
    by_cases hlt : k < r
    · have HRW := Lib.hid hrow
      have HBX := Lib.hid bx
      have HB := Lib.hid hbel
      clear hrow bx hbel
      go_wp2
      obtain ⟨wo, rfl⟩ : ∃ wo : World, wo = wr := ⟨_, rfl⟩
      go_loopw [10, 11, 34] (fun _ _ i wi => ∃ j : Nat, j ≤ c ∧ i = .int .i64 j ∧ Box3 wi F (.int .i64 r) (.int .i64 c) (.slice (some ⟨w.heap.size + 1, 0, none⟩) N N) ∧ wi.rowIs (w.heap.size + 1) 3 N (fun n => .int .i64 (if n < k * c + j then h (n / c) (n % c) else 0)) ∧ Below w.heap.size w wi) (fun _ _ i _ => c - (intOf i).toNat)
      case atStart => exact ⟨0, Nat.zero_le _, rfl, HBX.out, by simpa using HRW.out, HB.out⟩
      case round =>
        obtain ⟨wi, rfl⟩ : ∃ wi : World, wi = wr := ⟨_, rfl⟩
        obtain ⟨j, hj, rfl, bx, hrow, hbel⟩ := hrel
        by_cases hjl : j < c
        · have CK := Lib.hid (HK.out wi k j hbel hlt hjl)
          obtain ⟨y1, y2⟩ := HH.out k j hlt hjl
          have HRW2 := Lib.hid hrow
          have HBX2 := Lib.hid bx
          have HB2 := Lib.hid hbel
          have hsz := hbel.size
          obtain ⟨y, hy⟩ : ∃ y, y = h k j := ⟨_, rfl⟩
          rw [← hy] at CK y1 y2
          have HY := Lib.hid hy
          clear hrow bx hbel hy
          rw [show (#[.int .i64 (k : Int), .int .i64 (j : Int)] ++ #[.pointer (some ⟨P1, 0, none⟩), .pointer (some ⟨P2, 0, none⟩), .pointer (some ⟨P3, 0, none⟩)] : Array Value) = _ from rfl] at CK
          go_wp2_with (go_at_call 87; refine CK.out.mono ?_; rintro e w5 ⟨rfl, hb5⟩; have HB5 := Lib.hid hb5; clear hb5)
          refine (isHeight_yes _ _ y1 y2).mono ?_
          rintro e w6 ⟨rfl, rfl⟩
          have HRW3 := Lib.hid (HRW2.out.of_block (HB5.out.block _ HRW2.out.lt))
          have hFl : F < wi.heap.size := World.block_lt_of_cell? wi _ HBX2.out.1
          have bx3 := HBX2.out.block (HB5.out.block F hFl)
          have HBX3 := Lib.hid bx3
          obtain ⟨d0, d1, d2⟩ := bx3
          have hz5 : wi.heap.size ≤ w6.heap.size := HB5.out.size
          have hFl5 : F < w6.heap.size := by omega
          have HB6 := Lib.hid (HB2.out.trans (HB5.out.mono hsz))
          have hidx := idx_lt hlt hjl
          rw [← HN.out] at hidx
          obtain ⟨m, hm⟩ : ∃ m, m = k * c + j := ⟨_, rfl⟩
          rw [← hm] at hidx
          have ix1 : (0 : Int) ≤ (m : Int) := by omega
          have ix2 : (m : Int) < (N : Int) := by exact_mod_cast hidx
          have HM := Lib.hid hm
          have hne : F ≠ w.heap.size + 1 := by omega
          clear hm
          go_wp2
          go_region_held3 (fun w' => w'.cell? ⟨F, 0, none⟩ = some (.int .i64 r) ∧ w'.cell? ⟨F, 1, none⟩ = some (.int .i64 c) ∧ w'.cell? ⟨F, 2, none⟩ = some (.slice (some ⟨w.heap.size + 1, 0, none⟩) N N))
            (first | exact ⟨d0, d1, d2⟩ | exact ⟨k0, k1, k2⟩ | exact ⟨(World.cell?_of_block (blk_setCell_other _ _ _ _ hne)).trans k0, (World.cell?_of_block (blk_setCell_other _ _ _ _ hne)).trans k1, (World.cell?_of_block (blk_setCell_other _ _ _ _ hne)).trans k2⟩ | go_keep)
            (first | (go_at_call 71; refine (index_any _ c k j m _ ⟨_, _, _, rfl⟩ _ (by omega) (by omega) (by omega) HM.out).mono ?_; rintro e w7 ⟨rfl, hb7⟩; have k0 := (hb7.cell (p := ⟨F, 0, none⟩) hFl5).trans d0; have k1 := (hb7.cell (p := ⟨F, 1, none⟩) hFl5).trans d1; have k2 := (hb7.cell (p := ⟨F, 2, none⟩) hFl5).trans d2; have HR7 := Lib.hid (HRW3.out.drew.of_block (hb7.block _ HRW3.out.lt)); have r1 := HR7.out.cell hidx; have r2 := HR7.out.frozen m; have HB7 := Lib.hid hb7) | fail)
          go_wp2
          go_roundw
          case rel =>
            refine ⟨j + 1, by omega, by go_num, Box3.other ⟨k0, k1, k2⟩ hne _, (HR7.out.set _ _).congr (fun n hn => ?_), (HB6.out.drew.trans (HB7.out.mono (by show w.heap.size ≤ w6.heap.size; omega))).setCell (by simp) _⟩
            have hm := HM.out
            by_cases e : n = m
            · subst e
              rw [if_pos rfl, if_pos (by omega), hm, HY.out, div_row hjl, mod_row hjl]
            · rw [if_neg e]
              by_cases e2 : n < k * c + j
              · rw [if_pos e2, if_pos (by omega)]
              · rw [if_neg e2, if_neg (by omega)]
          case measure => simp [intOf]; omega
        · have HRW2 := Lib.hid hrow
          have HBX2 := Lib.hid bx
          have HB2 := Lib.hid hbel
          clear hrow bx hbel
          go_wp2
          go_roundw
          case rel =>
            refine ⟨k + 1, by omega, by go_num, HBX2.out, HRW2.out.congr (fun n hn => ?_), HB2.out⟩
            have e : k * c + j = (k + 1) * c := by rw [Nat.add_mul, Nat.one_mul]; omega
            rw [e]
          case measure => simp [intOf]; omega
    · obtain rfl : k = r := by omega
      have CL : Hid (∀ W, W.rowIs (w.heap.size + 1) 3 N (fun n => .int .i64 (h (n / c) (n % c))) → Calls Try.prog 72 #[fv k c (.slice (some ⟨w.heap.size + 1, 0, none⟩) N N)] W fun e w' => ∃ v, e = .returned v ∧ OwnG W.heap.size w'.heap.size w' v (rowsOf (fun n => h (n / c) (n % c)) k c) ∧ Below W.heap.size W w') := fun W h => by
        rw [HN.out] at h ⊢
        exact lists_any k c (w.heap.size + 1) _ W (by omega) (by omega) hc1 h
      have hr2 := hrow.congr (g := fun n => .int .i64 (h (n / c) (n % c))) (fun n hn => by rw [if_pos (by rw [HN.out] at hn; exact hn)])
      obtain ⟨d0, d1, d2⟩ := bx
      have HR2 := Lib.hid hr2
      have HB := Lib.hid hbel
      have hsz := hbel.size
      clear hrow hr2 hbel
      go_wp2_with fail
      refine (CL.out _ HR2.out).mono ?_
      rintro e w5 ⟨x, rfl, hO5, hb5⟩
      have HO5 := Lib.hid hO5
      have HB5 := Lib.hid (HB.out.trans (hb5.mono hsz))
      clear hO5 hb5
      go_wp2
      go_ret2
      exact ⟨x, rfl, HO5.out.mono hsz (Nat.le_refl _), HB5.out⟩

set_option maxHeartbeats 400000 in
theorem made_part_no (P1 P2 P3 : Nat) (r c : Nat) (w : World) (hr1 : 1 ≤ r) (hr : r ≤ 7) (hc1 : 7 < c) :
    Calls Try.prog 79 #[.int .i64 r, .int .i64 c, .func (.func 87) #[] #[.pointer (some ⟨P1, 0, none⟩), .pointer (some ⟨P2, 0, none⟩), .pointer (some ⟨P3, 0, none⟩)]] w fun e w' => e = .returned (.tuple #[.slice none 0 0, .bool false]) ∧ w' = w := by
  have t1 : decide ((r : Int) < 1) = false := decide_eq_false (by omega)
  have t2 : decide ((7 : Int) < (r : Int)) = false := decide_eq_false (by omega)
  have t3 : decide ((c : Int) < 1) = false := decide_eq_false (by omega)
  have t4 : decide ((7 : Int) < (c : Int)) = true := decide_eq_true (by omega)
  go_enter Try.func79, Try.ntmps79
  go_wp2
  go_ret2
  exact ⟨rfl, rfl⟩
end Go.Proofs.Ytebhbcjioolpeaa
