/-
  lists, at and between of a field whose row may have spare room behind its cells. Conditions: a grid; sizes.
-/
import Derived.Test.YtdelcebkpdnnjaaHas2
import Derived.Test.YtdelcebkpdnnjaaMake2
import Derived.Deep.RegionHeld3
namespace Go.Proofs.Ytdelcebkpdnnjaa
open Go.RowKit Go.Deep Go.Sort BigFrame

/-- the cells of a field's row -/
def FldOk (n cap m : Nat) (f : Nat → Value) (h : Nat → Int) : Prop := n ≤ m ∧ n ≤ cap ∧ cap ≤ 9223372036854775807 ∧ ∀ i, i < n → f i = .int .i64 (h i)
theorem ints_of_part {w : World} {a n cap m : Nat} {f : Nat → Value} {h : Nat → Int} {t : TypeId} (hr : w.rowIs a t m f) (hf : FldOk n cap m f h) : Ints w (.slice (some ⟨a, 0, none⟩) n cap) ((List.range n).map h) := by
  obtain ⟨h1, h2, h3, h4⟩ := hf
  refine ⟨some ⟨a, 0, none⟩, cap, by simp, by simpa using h2, h3, fun _ => ⟨a, 0, rfl, hr.lt, fun j hj => ?_⟩⟩
  have hj' : j < n := by simpa using hj
  rw [Nat.zero_add, range_get hj', ← h4 j hj']
  exact hr.cell (by omega)
theorem at_part (g : Rows) (r : Int) (a cap m : Nat) (f : Nat → Value) (i j : Nat) (w : World) (hg : GridOk g) (hr : w.rowIs a 3 m f) (hf : FldOk (g.length * colsOf g) cap m f (cellOf g)) (hi : i < g.length) (hj : j < colsOf g) :
    Calls Try.prog 53 #[fv r (colsOf g) (.slice (some ⟨a, 0, none⟩) (g.length * colsOf g) cap), .int .i64 i, .int .i64 j] w fun e w' => e = .returned (.int .i64 ((g[i]?.getD [])[j]?.getD 0)) ∧ Below w.heap.size w w' := by
  have h1 := idx_lt hi hj
  have h2 := hg.2.1
  have h3 := hg.2.2.2.1
  have := at_any r (colsOf g) i j _ _ w (ints_of_part hr hf) (by omega) (by omega) (by omega) (by simpa using h1)
  rw [range_get h1, cell_at rfl hj] at this
  exact this
/-- what a row made by append is -/
theorem row_of_ownsRow {base n : Nat} {e : TypeId} {w : World} {v : Value} {h : Nat → Int} (hn : 1 ≤ n) (ho : w.ownsRow base e 1 v n (((List.range n).map h).map (Value.int .i64))) :
    ∃ b cap m f, v = .slice (some ⟨b, 0, none⟩) n cap ∧ base ≤ b ∧ w.rowIs b e m f ∧ FldOk n cap m f h := by
  obtain ⟨h1, h2⟩ := ho
  rcases h2 with ⟨rfl, hn0⟩ | ⟨g, cap, cur, rfl, hg, hh, hc, hm, hs, ht⟩
  · omega
  · unfold maxLen at hm
    refine ⟨g, cap, cur.size, fun j => cur[j]?.getD undef, rfl, hg, ⟨cur, hh, rfl, fun i hi => by simp [hi]⟩, by omega, hc, hm, fun j hj => ?_⟩
    have e : (cur.toList.take (n * 1))[j]? = (((List.range n).map h).map (Value.int .i64))[j]? := by rw [ht]
    rw [List.getElem?_take, if_pos (by omega)] at e
    have e2 : cur[j]? = some (Value.int .i64 (h j)) := by
      rw [← Array.getElem?_toList, e]; simp [hj]
    show cur[j]?.getD _ = _
    rw [e2]; rfl

set_option maxHeartbeats 2000000 in
set_option maxRecDepth 100000 in
theorem lists_row (r c a C m : Nat) (f0 : Nat → Value) (h : Nat → Int) (w : World) (hr : r ≤ 100) (hc : c ≤ 100) (hc1 : 1 ≤ c) (hrow : w.rowIs a 3 m f0) (hf : FldOk (r * c) C m f0 h) :
    Calls Try.prog 63 #[fv r c (.slice (some ⟨a, 0, none⟩) (r * c) C)] w fun e w' => ∃ v, e = .returned v ∧ OwnG w.heap.size w'.heap.size w' v (rowsOf h r c) ∧ Below w.heap.size w w' := by
  have HROW := Lib.hid hrow
  have hal := hrow.lt
  have hmk1 := run_make_row' (P := Try.prog) 23 27 (.slice none 0 0) 24 Try.underlying23 info_islice rfl .i64 .i64 r (by omega) (by omega)
  have hmk2 := run_make_row' (P := Try.prog) 27 3 (.int .i64 0) 8 Try.underlying27 info_int rfl .i64 .i64 c (by omega) (by omega)
  have hN1 := Nat.mul_le_mul hr hc
  obtain ⟨N, hN⟩ : ∃ N, N = r * c := ⟨_, rfl⟩
  rw [← hN] at hf hN1 ⊢
  obtain ⟨hm1, hm2, hm3, hf4⟩ := hf
  have HF := Lib.hid hf4
  clear hf4
  have HNN := Lib.hid hN
  clear hN hrow
  go_enter Try.func63, Try.ntmps63
  go_wp2
  go_loopw [4, 10] (fun _ i wr => ∃ (k : Nat) (f : Nat → Value) (bs : Nat → Nat), k ≤ r ∧ i = .int .i64 k ∧
      wr.cell? ⟨w.heap.size, 1, none⟩ = some (.int .i64 c) ∧ wr.cell? ⟨w.heap.size, 2, none⟩ = some (.slice (some ⟨a, 0, none⟩) N C) ∧
      wr.rowIs (w.heap.size + 1) 27 r f ∧ w.heap.size + 1 < bs 0 ∧ bs k ≤ wr.heap.size ∧ (∀ j, j < k → bs j ≤ bs (j + 1)) ∧ (∀ j, j < k → Own (bs j) (bs (j + 1)) wr (f j) ((List.range c).map fun i => h (j * c + i))) ∧ Below w.heap.size w wr) (fun _ i _ => r - (intOf i).toNat)
  case atStart =>
    have B0 := (Below.refl w.heap.size w).alloc (Nat.le_refl _) (.cells #[.int .i64 r, .int .i64 c, .slice (some ⟨a, 0, none⟩) N C] 64)
    have r1 := (field_row w (.int .i64 r) (.int .i64 c) (.slice (some ⟨a, 0, none⟩) N C)).alloc (.cells (madeCells #[.slice none 0 0] r) 27)
    have r2 := World.rowIs_made (w.alloc (.cells #[.int .i64 r, .int .i64 c, .slice (some ⟨a, 0, none⟩) N C] 64)) (.slice none 0 0) r 27
    rw [World.size_alloc] at r2
    exact ⟨0, _, fun _ => w.heap.size + 1 + 1, Nat.zero_le _, rfl, r1.cell (i := 1) (by decide), r1.cell (i := 2) (by decide), r2, Nat.lt_succ_self _, by simp, fun j hj => absurd hj (Nat.not_lt_zero _), fun j hj => absurd hj (Nat.not_lt_zero _), B0.alloc (by simp) _⟩
  case round =>
    obtain ⟨k, f, bs, hk, rfl, c1, c2, hrow, hb0, hbk, hst, hown, hbel⟩ := hrel
    by_cases hlt : k < r
    · have hd := hrow.cell hlt
      have hfr := hrow.frozen k
      obtain ⟨u, hu⟩ : ∃ u, u = f k := ⟨_, rfl⟩
      rw [← hu] at hd
      have hsz := hbel.size
      have hH := hrow.lt
      have HR := Lib.hid hrow
      have HO := Lib.hid hown
      have HST := Lib.hid hst
      have HM := Lib.hid (mono_steps hst)
      have HB := Lib.hid hbel
      have C1 := Lib.hid c1
      have C2 := Lib.hid c2
      obtain ⟨W, hW⟩ : ∃ W, W = wr.heap.size := ⟨_, rfl⟩
      clear hrow hown hst hbel hu
      go_wp2_with fail
      have T0 := (Touch.refl w.heap.size (w.heap.size + 2) wr).setCell (p := ⟨w.heap.size + 1, k, none⟩) (by simp) (by simp) (.slice (some ⟨wr.heap.size, 0, none⟩) c c)
      have e1 : (wr.setCell ⟨w.heap.size + 1, k, none⟩ (.slice (some ⟨wr.heap.size, 0, none⟩) c c)).heap.size = wr.heap.size := by simp [World.setCell]
      have HBX := Lib.hid ((HB.out.setCell (p := ⟨w.heap.size + 1, k, none⟩) (by simp) (.slice (some ⟨wr.heap.size, 0, none⟩) c c)).alloc (by rw [e1]; exact hsz) (.cells (madeCells #[.int .i64 0] c) 3))
      have x1 : ((wr.setCell ⟨w.heap.size + 1, k, none⟩ (.slice (some ⟨wr.heap.size, 0, none⟩) c c)).alloc (.cells (madeCells #[.int .i64 0] c) 3)).cell? ⟨w.heap.size, 1, none⟩ = some (.int .i64 c) := (World.cell?_alloc_past _ _ _ (by rw [e1]; show w.heap.size < _; omega)).trans ((World.cell?_of_block (blk_setCell_other _ _ _ _ (by simp))).trans C1.out)
      have x2 : ((wr.setCell ⟨w.heap.size + 1, k, none⟩ (.slice (some ⟨wr.heap.size, 0, none⟩) c c)).alloc (.cells (madeCells #[.int .i64 0] c) 3)).cell? ⟨w.heap.size, 2, none⟩ = some (.slice (some ⟨a, 0, none⟩) N C) := (World.cell?_alloc_past _ _ _ (by rw [e1]; show w.heap.size < _; omega)).trans ((World.cell?_of_block (blk_setCell_other _ _ _ _ (by simp))).trans C2.out)
      have hR2 := (HR.out.set k (.slice (some ⟨wr.heap.size, 0, none⟩) c c)).alloc (.cells (madeCells #[.int .i64 0] c) 3)
      have x3 := hR2.cell hlt
      rw [if_pos rfl] at x3
      have hR3 := World.rowIs_made (wr.setCell ⟨w.heap.size + 1, k, none⟩ (.slice (some ⟨wr.heap.size, 0, none⟩) c c)) (.int .i64 0) c 3
      rw [e1] at hR3
      have hA := (((HROW.out.of_block (HB.out.block _ hal)).setOther (a := ⟨w.heap.size + 1, k, none⟩) (by show a ≠ w.heap.size + 1; omega) (.slice (some ⟨wr.heap.size, 0, none⟩) c c)).alloc (.cells (madeCells #[.int .i64 0] c) 3))
      have hold : Hid (∀ j, j < k → Own (bs j) (bs (j + 1)) ((wr.setCell ⟨w.heap.size + 1, k, none⟩ (.slice (some ⟨wr.heap.size, 0, none⟩) c c)).alloc (.cells (madeCells #[.int .i64 0] c) 3)) (f j) ((List.range c).map fun i => h (j * c + i))) := fun j hj => by
        have h0 := HM.out 0 j (Nat.zero_le _) (by omega)
        have h1 := HM.out (j + 1) k (by omega) (Nat.le_refl _)
        exact ((HO.out j hj).touch T0 (by omega)).below ((Below.refl wr.heap.size _).alloc (by rw [e1]; exact Nat.le_refl _) _) (by omega)
      obtain ⟨G, hG⟩ : ∃ G, G = wr.heap.size := ⟨_, rfl⟩
      obtain ⟨X, hX⟩ : ∃ X, X = (wr.setCell ⟨w.heap.size + 1, k, none⟩ (.slice (some ⟨wr.heap.size, 0, none⟩) c c)).alloc (.cells (madeCells #[.int .i64 0] c) 3) := ⟨_, rfl⟩
      have hXs : X.heap.size = G + 1 := by rw [hX, hG]; simp [World.setCell]
      rw [← hX] at x1 x2 x3 hR2 hR3 hA hold HBX ⊢
      rw [← hG] at x3 hR2 hR3 hbk hsz ⊢
      have HR2 := Lib.hid hR2
      have HA := Lib.hid hA
      obtain ⟨arr, harr, hsize, hget⟩ := hR3
      have HARR := Lib.hid harr
      have hlen : arr.toList.length = c := by simpa using hsize
      have hH2 : w.heap.size + 1 < G := by rw [hG]; exact hH
      have hm0 : 0 ≤ (k : Int) * (c : Int) ∧ (k : Int) * (c : Int) ≤ 10000 := mul_small k c (by omega) hc
      have hm1 : 0 ≤ ((k : Int) + 1) * (c : Int) ∧ ((k : Int) + 1) * (c : Int) ≤ 10000 := by
        have := mul_small (k + 1) c (by omega) hc
        simpa using this
      obtain ⟨n1, hn1⟩ : ∃ n, n = k * c := ⟨_, rfl⟩
      have i1 : (k : Int) * (c : Int) = (n1 : Int) := by rw [hn1]; simp
      have i2 : ((k : Int) + 1) * (c : Int) = (n1 : Int) + (c : Int) := by rw [hn1, Int.add_mul, Int.one_mul]; simp
      rw [i1] at hm0
      rw [i2] at hm1
      obtain ⟨n2, hn2⟩ : ∃ n, n = n1 + c := ⟨_, rfl⟩
      have i3 : ((k : Int) + 1) * (c : Int) = (n2 : Int) := by rw [i2, hn2]; simp
      have w1' : IntKind.i64.wrap ((k : Int) * (c : Int)) = (n1 : Int) := (wrap_small (by omega) (by omega)).trans i1
      have w2' : IntKind.i64.wrap (((k : Int) + 1) * (c : Int)) = (n2 : Int) := (wrap_small (by omega) (by omega)).trans i3
      have w3' := wrap_small (x := (k : Int) + 1) (by omega) (by omega)
      have w4' := wrap_small (x := (n1 : Int)) (by omega) (by omega)
      have w5' := wrap_small (x := (n2 : Int)) (by omega) (by omega)
      have hbn : n1 + c ≤ N := by
        have := Nat.mul_le_mul_right c (show k + 1 ≤ r by omega)
        rw [Nat.add_mul, Nat.one_mul, ← hn1, ← HNN.out] at this
        exact this
      have j1 : (0 : Int) ≤ (n1 : Int) := by omega
      have j2 : (0 : Int) ≤ (n2 : Int) := by omega
      have j3 : (n2 : Int) ≤ (N : Int) := by omega
      have j4 : (n1 : Int) ≤ (n2 : Int) := by omega
      have j5 : max (n2 : Int) 0 = (n2 : Int) := by omega
      have j6 : n1 < N := by omega
      have j7 : ¬ C = n1 := by omega
      have j8 : (n2 : Int) ≤ (C : Int) := by omega
      have CS : Hid (((List.range c).map fun j => Value.int .i64 (h (n1 + j))).length = Nat.min (n2 - n1) c) := by show ((List.range c).map _).length = min (n2 - n1) c; rw [List.length_map, List.length_range]; omega
      have PS : Hid (∀ (j : Nat) (v : Value), ((List.range c).map fun j => Value.int .i64 (h (n1 + j)))[j]? = some v → X.drew.cell? ((⟨a, n1, none⟩ : Addr).add j) = some v) := fun j v hv => by
        have hj : j < c := by have := (List.getElem?_eq_some_iff.1 hv).1; simpa using this
        have hv2 : v = .int .i64 (h (n1 + j)) := by simp [hj] at hv; exact hv.symm
        rw [hv2, addr_add]
        rw [← HF.out _ (by omega)]
        exact HA.out.cell (by omega)
      have OC : Hid (∀ u ∈ (List.range c).map fun j => Value.int .i64 (h (n1 + j)), u.oneCell' = true) := fun u hu => by obtain ⟨z, _, rfl⟩ := List.mem_map.1 hu; rfl
      have HG2 : Hid (X.drew.heap[G]? = some (.cells arr.toList.toArray 3 (0, 0))) := by show X.heap[G]? = _; rw [Array.toArray_toList]; exact HARR.out
      obtain ⟨cs, hcs⟩ : ∃ cs, cs = (List.range c).map fun j => Value.int .i64 (h (n1 + j)) := ⟨_, rfl⟩
      rw [← hcs] at CS PS OC
      have hcl : cs.length = c := by rw [hcs]; simp
      have HCS := Lib.hid hcs
      have HN2 := Lib.hid hn2
      have HN1 := Lib.hid hn1
      have HG := Lib.hid hG
      clear hR2 harr hA hX hG hn1 hn2 hcs i1 i2 i3 T0 e1 hmk1 hmk2 hd hfr c1 c2
      go_region_held3 (fun w' => w'.cell? ⟨w.heap.size, 1, none⟩ = some (.int .i64 c) ∧ w'.cell? ⟨w.heap.size, 2, none⟩ = some (.slice (some ⟨a, 0, none⟩) N C) ∧ w'.cell? ⟨w.heap.size + 1, k, none⟩ = some (.slice (some ⟨G, 0, none⟩) c c))
        (first | exact ⟨x1, x2, x3⟩ | exact ⟨g1, g2, g3⟩ | go_keep)
        (first | (refine step_copy_splice rfl _ _ _ _ rfl 3 Try.underlying27 (by kernel_rfl) _ _ _ _ _ _ rfl rfl G 0 arr.toList 3 HG2.out cs CS.out (fun _ => ⟨rfl, _, rfl, PS.out⟩) (by omega) OC.out G X ((Below.refl G X).drew) (Nat.le_refl _) ?_; intro w7 hg7 hb7; have HG7 := Lib.hid hg7; have HB7 := Lib.hid hb7; have g1 := (hb7.cell (p := ⟨w.heap.size, 1, none⟩) (by show w.heap.size < G; omega)).trans x1; have g2 := (hb7.cell (p := ⟨w.heap.size, 2, none⟩) (by show w.heap.size < G; omega)).trans x2; have g3 := (hb7.cell (p := ⟨w.heap.size + 1, k, none⟩) (by show w.heap.size + 1 < G; omega)).trans x3) | fail)
      go_wp2
      go_roundw
      case rel =>
        have z7 : G + 1 ≤ w7.heap.size := by have : X.heap.size ≤ w7.heap.size := HB7.out.size; omega
        have hrow7 : w7.rowIs G 3 c (fun j => .int .i64 (h (n1 + j))) := by
          have h7 := HG7.out
          rw [splice_all _ _ (by rw [hcl, hlen])] at h7
          refine ⟨cs.toArray, h7, by simp [hcl], fun i hi => ?_⟩
          rw [HCS.out]
          simp [hi]
        refine ⟨k + 1, _, fun j => if j ≤ k then bs j else w7.heap.size, by omega, by go_num, g1, g2, HR2.out.of_block (HB7.out.block _ hH2), by dsimp only; rw [if_pos (Nat.zero_le _)]; exact hb0, by dsimp only; rw [if_neg (by omega)]; exact Nat.le_refl _, fun j hj => ?_, fun j hj => ?_, HBX.out.trans (HB7.out.mono hsz)⟩
        · dsimp only
          by_cases e : j = k
          · subst e; rw [if_pos (Nat.le_refl _), if_neg (by omega)]; omega
          · rw [if_pos (by omega), if_pos (by omega)]; exact HST.out j (by omega)
        · dsimp only
          by_cases e : j = k
          · subst e
            rw [if_pos rfl, if_pos (Nat.le_refl _), if_neg (by omega)]
            have hll : ((List.range c).map fun i => h (j * c + i)).length = c := by simp
            refine .inr ⟨G, 0, c, 3, c, _, by rw [hll], by omega, by omega, hbk, by omega, hrow7, by omega, fun i hi => ?_⟩
            rw [hll] at hi
            rw [Nat.zero_add, HN1.out]
            simp [hi]
          · have h1 := HM.out (j + 1) k (by omega) (Nat.le_refl _)
            rw [if_neg e, if_pos (by omega), if_pos (by omega)]
            exact (hold.out j (by omega)).below HB7.out (by omega)
      case measure => simp [intOf]; omega
    · obtain rfl : k = r := by omega
      have HR := Lib.hid hrow
      have HO := Lib.hid hown
      have HB := Lib.hid hbel
      clear hrow hown hbel hmk1 hmk2
      go_wp2
      go_ret
      exact ⟨_, rfl, OwnG_steps (by omega) hb0 (by rw [rowsOf_length]; exact hbk) (by rw [rowsOf_length]; exact hst) HR.out (by rw [rowsOf_length]; exact Nat.le_refl _) (by omega) (fun j hj => by rw [rowsOf_length] at hj; rw [rowsOf_get _ _ _ _ hj]; exact HO.out j hj) _ (rowsOf_length ..).symm, HB.out⟩

set_option maxHeartbeats 2000000 in
set_option maxRecDepth 100000 in
theorem between_row (ga gb : Rows) (a b cb mb : Nat) (fb : Nat → Value) (w : World) (hs : Like ga gb) (ha : w.rowIs a 3 (ga.length * colsOf ga) (fun i => .int .i64 (cellOf ga i))) (hb : w.rowIs b 3 mb fb) (hf : FldOk (gb.length * colsOf gb) cb mb fb (cellOf gb)) :
    Calls Try.prog 65 #[fv ga.length (colsOf ga) (.slice (some ⟨a, 0, none⟩) (ga.length * colsOf ga) (ga.length * colsOf ga)), fv gb.length (colsOf gb) (.slice (some ⟨b, 0, none⟩) (gb.length * colsOf gb) cb)] w fun e w' => ∃ v, e = .returned v ∧ w'.ownsRow (w.heap.size + 2) 41 4 v (diffsOf ga gb).length (flat (diffsOf ga gb)) ∧ Below w.heap.size w w' := by
  obtain ⟨⟨s1, s2, s3⟩, s4⟩ := hs
  have hn := s1.2.1
  have hca := s1.2.2.1
  have hca2 := s1.2.2.2.1
  have HA := Lib.hid ha
  have HB := Lib.hid hb
  have CA : Hid (∀ W k j, k < ga.length → j < colsOf ga → W.rowIs a 3 (ga.length * colsOf ga) (fun i => .int .i64 (cellOf ga i)) → Calls Try.prog 53 #[fv ga.length (colsOf ga) (.slice (some ⟨a, 0, none⟩) (ga.length * colsOf ga) (ga.length * colsOf ga)), .int .i64 (k : Int), .int .i64 (j : Int)] W fun e w' => e = .returned (.int .i64 ((ga[k]?.getD [])[j]?.getD 0)) ∧ Below W.heap.size W w') := fun W k j hk hj hr => at_grid ga ga.length a k j W s1 hr hk hj
  have CB : Hid (∀ W k j, k < ga.length → j < colsOf ga → W.rowIs b 3 mb fb → Calls Try.prog 53 #[fv gb.length (colsOf gb) (.slice (some ⟨b, 0, none⟩) (gb.length * colsOf gb) cb), .int .i64 (k : Int), .int .i64 (j : Int)] W fun e w' => e = .returned (.int .i64 ((gb[k]?.getD [])[j]?.getD 0)) ∧ Below W.heap.size W w') := fun W k j hk hj hr => at_part gb gb.length b cb mb fb k j W s2 hr hf (by omega) (by omega)
  have HDL := Lib.hid (diffs_len ga gb)
  have HRL := Lib.hid (rowDiff_len ga gb)
  have HDS := Lib.hid (diffs_succ ga gb)
  have HEnd : Hid (diffsOf ga gb = diffs ga gb ga.length) := rfl
  obtain ⟨na, hna⟩ : ∃ n, n = ga.length * colsOf ga := ⟨_, rfl⟩
  obtain ⟨nb, hnb⟩ : ∃ n, n = gb.length * colsOf gb := ⟨_, rfl⟩
  rw [← hna] at HA CA ⊢
  rw [← hnb] at CB ⊢
  clear ha hb hf s1 s2 hna hnb
  rw [← s3, ← s4] at CB ⊢
  clear s3 s4
  obtain ⟨n, hnn⟩ : ∃ n, n = ga.length := ⟨_, rfl⟩
  rw [← hnn] at CA CB hn HEnd ⊢
  clear hnn
  obtain ⟨c, hc⟩ : ∃ c, c = colsOf ga := ⟨_, rfl⟩
  rw [← hc] at CA CB hca hca2 HDL HDS ⊢
  clear hc
  go_enter Try.func65, Try.ntmps65
  go_wp2
  go_loopw [5, 6, 7, 11, 16] (fun v _ _ i _ wr => ∃ k : Nat, k ≤ n ∧ i = .int .i64 k ∧ wr.ownsRow (w.heap.size + 2) 41 4 v (diffs ga gb k).length (flat (diffs ga gb k)) ∧ Below w.heap.size w wr ∧
      wr.cell? ⟨w.heap.size, 0, none⟩ = some (.int .i64 n) ∧ wr.cell? ⟨w.heap.size, 1, none⟩ = some (.int .i64 c) ∧ wr.cell? ⟨w.heap.size, 2, none⟩ = some (.slice (some ⟨a, 0, none⟩) na na) ∧
      wr.cell? ⟨w.heap.size + 1, 0, none⟩ = some (.int .i64 n) ∧ wr.cell? ⟨w.heap.size + 1, 1, none⟩ = some (.int .i64 c) ∧ wr.cell? ⟨w.heap.size + 1, 2, none⟩ = some (.slice (some ⟨b, 0, none⟩) nb cb)) (fun _ _ _ i _ _ => n - (intOf i).toNat)
  case atStart =>
    have B0 := ((Below.refl w.heap.size w).alloc (Nat.le_refl _) (.cells #[.int .i64 n, .int .i64 c, .slice (some ⟨a, 0, none⟩) na na] 64)).alloc (by simp) (.cells #[.int .i64 n, .int .i64 c, .slice (some ⟨b, 0, none⟩) nb cb] 64)
    have r1 := ((field_row w (.int .i64 n) (.int .i64 c) (.slice (some ⟨a, 0, none⟩) na na)).alloc (.cells #[.int .i64 n, .int .i64 c, .slice (some ⟨b, 0, none⟩) nb cb] 64)).alloc (.cells #[] 41)
    have r2 := (field_row (w.alloc (.cells #[.int .i64 n, .int .i64 c, .slice (some ⟨a, 0, none⟩) na na] 64)) (.int .i64 n) (.int .i64 c) (.slice (some ⟨b, 0, none⟩) nb cb)).alloc (.cells #[] 41)
    rw [World.size_alloc] at r2
    have r3 := World.ownsRow_made (base := w.heap.size + 2) (e := 41) (size := 4) ((w.alloc (.cells #[.int .i64 n, .int .i64 c, .slice (some ⟨a, 0, none⟩) na na] 64)).alloc (.cells #[.int .i64 n, .int .i64 c, .slice (some ⟨b, 0, none⟩) nb cb] 64)) #[] 0 (by simp) (by decide) rfl
    simp only [World.size_alloc] at r3
    exact ⟨0, Nat.zero_le _, rfl, r3, B0.alloc (by simp; omega) _, r1.cell (i := 0) (by decide), r1.cell (i := 1) (by decide), r1.cell (i := 2) (by decide), r2.cell (i := 0) (by decide), r2.cell (i := 1) (by decide), r2.cell (i := 2) (by decide)⟩
  case round =>
    obtain ⟨k, hk, rfl, hown, hbel, k0, k1, k2, m0, m1, m2⟩ := hrel
    by_cases hlt : k < n
    · have HO := Lib.hid hown
      have HBE := Lib.hid hbel
      have K0 := Lib.hid k0
      have K1 := Lib.hid k1
      have K2 := Lib.hid k2
      have M := Lib.hid (And.intro m0 (And.intro m1 m2))
      clear hown hbel k0 k2 m0 m1 m2
      go_wp2
      clear k1
      obtain ⟨wo, rfl⟩ : ∃ wo : World, wo = wr := ⟨_, rfl⟩
      go_loopw [5, 7, 16] (fun v _ i wi => ∃ j : Nat, j ≤ c ∧ i = .int .i64 j ∧ wi.ownsRow (w.heap.size + 2) 41 4 v (diffs ga gb k ++ rowDiff ga gb k j).length (flat (diffs ga gb k ++ rowDiff ga gb k j)) ∧ Below w.heap.size w wi ∧
          wi.cell? ⟨w.heap.size, 0, none⟩ = some (.int .i64 n) ∧ wi.cell? ⟨w.heap.size, 1, none⟩ = some (.int .i64 c) ∧ wi.cell? ⟨w.heap.size, 2, none⟩ = some (.slice (some ⟨a, 0, none⟩) na na) ∧
          wi.cell? ⟨w.heap.size + 1, 0, none⟩ = some (.int .i64 n) ∧ wi.cell? ⟨w.heap.size + 1, 1, none⟩ = some (.int .i64 c) ∧ wi.cell? ⟨w.heap.size + 1, 2, none⟩ = some (.slice (some ⟨b, 0, none⟩) nb cb)) (fun _ _ i _ => c - (intOf i).toNat)
      case atStart => exact ⟨0, Nat.zero_le _, rfl, by simpa [rowDiff] using HO.out, HBE.out, K0.out, K1.out, K2.out, M.out.1, M.out.2.1, M.out.2.2⟩
      case round =>
        obtain ⟨wi, rfl⟩ : ∃ wi : World, wi = wr := ⟨_, rfl⟩
        obtain ⟨j, hj, rfl, hown, hbel, d0, d1, d2, d3, d4, d5⟩ := hrel
        have hw2 := Lib.hid (show w.heap.size + 2 ≤ wi.heap.size from World.block_lt_of_cell? wi _ d3)
        by_cases hjl : j < c
        · have HO2 := Lib.hid hown
          have HB2 := Lib.hid hbel
          have hsz := hbel.size
          obtain ⟨x, hx⟩ : ∃ x, x = (ga[k]?.getD [])[j]?.getD 0 := ⟨_, rfl⟩
          obtain ⟨y, hy⟩ : ∃ y, y = (gb[k]?.getD [])[j]?.getD 0 := ⟨_, rfl⟩
          have HX := Lib.hid hx
          have HY := Lib.hid hy
          have HI1 : Hid (∀ d os, (grow (redrawn wi d) os).rowIs a 3 na (fun i => .int .i64 (cellOf ga i))) := fun d os => row_regrown (HA.out.of_block (hbel.block _ HA.out.lt)) d os
          have HI2 : Hid (∀ d os, (grow (redrawn wi d) os).rowIs b 3 mb fb) := fun d os => row_regrown (HB.out.of_block (hbel.block _ HB.out.lt)) d os
          have cA : ∀ d os, Calls Try.prog 53 #[fv n c (.slice (some ⟨a, 0, none⟩) na na), .int .i64 k, .int .i64 j] (grow (redrawn wi d) os) fun e w'' => e = .returned (.int .i64 x) ∧ ∃ p : Regrown, w'' = grow (redrawn wi p.d) p.os := fun d os => by rw [HX.out]; exact Calls.regrown_of (CA.out _ k j hlt hjl (HI1.out d os))
          have cB : ∀ d os, Calls Try.prog 53 #[fv n c (.slice (some ⟨b, 0, none⟩) nb cb), .int .i64 k, .int .i64 j] (grow (redrawn wi d) os) fun e w'' => e = .returned (.int .i64 y) ∧ ∃ p : Regrown, w'' = grow (redrawn wi p.d) p.os := fun d os => by rw [HY.out]; exact Calls.regrown_of (CB.out _ k j hlt hjl (HI2.out d os))
          clear hown hbel hx hy
          go_wp2
          have q0 := cell_regrown (w := wi) d0
          have q1 := cell_regrown (w := wi) d1
          have q2 := cell_regrown (w := wi) d2
          have p0 := cell_regrown (w := wi) d3
          have p1 := cell_regrown (w := wi) d4
          have p2 := cell_regrown (w := wi) d5
          by_cases hxy : x = y
          · have hne : (x != y) = false := by simp [hxy]
            have HXY := Lib.hid hxy
            clear hxy
            refine wp_region_quiet_below (by kernel_rfl) (by kernel_rfl) ?_
            repeat (quiet_step (first | with_reducible exact cA _ _ | with_reducible exact cB _ _))
            refine wpQuiet_nil ?_
            intro _ hw'
            obtain ⟨⟨dq, osq⟩, hw''⟩ := hw'
            subst hw''
            have HBQ := Lib.hid (below_regrown wi dq osq)
            clear cA cB
            have o0 := q0 dq osq
            have o1 := q1 dq osq
            have o2 := q2 dq osq
            have o3 := p0 dq osq
            have o4 := p1 dq osq
            have o5 := p2 dq osq
            clear q0 q1 q2 p0 p1 p2 d0 d1 d2 d3 d4 d5
            go_wp2
            go_roundw
            case rel =>
              refine ⟨j + 1, by omega, by go_num, ?_, HB2.out.trans (HBQ.out.mono hsz), o0, o1, o2, o3, o4, o5⟩
              rw [rowDiff_same (by rw [← HX.out, ← HY.out]; exact HXY.out)]
              exact ownsRow_below HO2.out HBQ.out
            case measure => simp [intOf]; omega
          · have hne : (x != y) = true := by simp [hxy]
            have HXY := Lib.hid hxy
            clear hxy
            refine wp_region_quiet_below (by kernel_rfl) (by kernel_rfl) ?_
            repeat (quiet_step (first | with_reducible exact cA _ _ | with_reducible exact cB _ _))
            refine wpQuiet_nil ?_
            intro _ hw'
            obtain ⟨⟨dq, osq⟩, hw''⟩ := hw'
            have HBQ := Lib.hid (below_regrown wi dq osq)
            rw [← hw''] at HBQ
            subst hw''
            have o0 := q0 dq osq
            have o1 := q1 dq osq
            have o2 := q2 dq osq
            have o3 := p0 dq osq
            have o4 := p1 dq osq
            have o5 := p2 dq osq
            clear q0 q1 q2 p0 p1 p2 d0 d1 d2 d3 d4 d5 cA cB
            obtain ⟨wq, hwq⟩ : ∃ wq, wq = grow (redrawn wi dq) osq := ⟨_, rfl⟩
            rw [← hwq] at o0 o1 o2 o3 o4 o5 HBQ ⊢
            have HWQ := Lib.hid hwq
            clear hwq
            go_wp2
            have HB3 := Lib.hid (HB2.out.trans (HBQ.out.mono hsz))
            have hz3 := HB3.out.size
            have hw3 : w.heap.size + 2 ≤ wq.heap.size := by have h1 := hw2.out; have h2 := HBQ.out.size; omega
            have hzq := HBQ.out.size
            have HO3 := Lib.hid (ownsRow_below HO2.out HBQ.out)
            have hr1 := HA.out.of_block (HB3.out.block _ HA.out.lt)
            have hr2 := HB.out.of_block (HB3.out.block _ HB.out.lt)
            have HR1 := Lib.hid hr1
            have HR2 := Lib.hid hr2
            have CX : Hid (∀ W, W.rowIs a 3 na (fun i => .int .i64 (cellOf ga i)) → Calls Try.prog 53 #[fv n c (.slice (some ⟨a, 0, none⟩) na na), .int .i64 k, .int .i64 j] W fun e w' => e = .returned (.int .i64 x) ∧ Below W.heap.size W w') := fun W h => by rw [HX.out]; exact CA.out W k j hlt hjl h
            have CY : Hid (∀ W, W.rowIs b 3 mb fb → Calls Try.prog 53 #[fv n c (.slice (some ⟨b, 0, none⟩) nb cb), .int .i64 k, .int .i64 j] W fun e w' => e = .returned (.int .i64 y) ∧ Below W.heap.size W w') := fun W h => by rw [HY.out]; exact CB.out W k j hlt hjl h
            obtain ⟨L, hL⟩ : ∃ L, L = diffs ga gb k ++ rowDiff ga gb k j := ⟨_, rfl⟩
            rw [← hL] at HO3
            have hLn : L.length ≤ 1000 := by
              rw [hL, List.length_append]
              have h1 := HDL.out k
              have h2 := HRL.out k j
              have h3 := Nat.mul_le_mul (show k ≤ 7 by omega) hca2
              omega
            have HLE := Lib.hid hL
            clear hL hr1 hr2
            go_region_held3 (fun w' => w'.cell? ⟨w.heap.size, 0, none⟩ = some (.int .i64 n) ∧ w'.cell? ⟨w.heap.size, 1, none⟩ = some (.int .i64 c) ∧ w'.cell? ⟨w.heap.size, 2, none⟩ = some (.slice (some ⟨a, 0, none⟩) na na) ∧ w'.cell? ⟨w.heap.size + 1, 0, none⟩ = some (.int .i64 n) ∧ w'.cell? ⟨w.heap.size + 1, 1, none⟩ = some (.int .i64 c) ∧ w'.cell? ⟨w.heap.size + 1, 2, none⟩ = some (.slice (some ⟨b, 0, none⟩) nb cb))
              (first | exact ⟨o0, o1, o2, o3, o4, o5⟩ | exact ⟨e0, e1, e2, e3, e4, e5⟩ | exact ⟨f0, f1, f2, f3, f4, f5⟩ | exact ⟨g0, g1, g2, g3, g4, g5⟩ | go_keep)
              (first | (go_at_call 53; (with_reducible refine (CX.out _ HR1.out.drew).mono ?_); rintro e w5 ⟨rfl, hb5⟩; have z5 : wq.heap.size ≤ w5.heap.size := hb5.size; have e0 := (hb5.cell (p := ⟨w.heap.size, 0, none⟩) (by show w.heap.size < wq.heap.size; omega)).trans o0; have e1 := (hb5.cell (p := ⟨w.heap.size, 1, none⟩) (by show w.heap.size < wq.heap.size; omega)).trans o1; have e2 := (hb5.cell (p := ⟨w.heap.size, 2, none⟩) (by show w.heap.size < wq.heap.size; omega)).trans o2; have e3 := (hb5.cell (p := ⟨w.heap.size + 1, 0, none⟩) (by show w.heap.size + 1 < wq.heap.size; omega)).trans o3; have e4 := (hb5.cell (p := ⟨w.heap.size + 1, 1, none⟩) (by show w.heap.size + 1 < wq.heap.size; omega)).trans o4; have e5 := (hb5.cell (p := ⟨w.heap.size + 1, 2, none⟩) (by show w.heap.size + 1 < wq.heap.size; omega)).trans o5) | (go_at_call 53; have hr5 := HR2.out.drew.of_block (hb5.block _ HR2.out.lt); (with_reducible refine (CY.out _ hr5).mono ?_); rintro e w6 ⟨rfl, hb6⟩; have f0 := (hb6.cell (p := ⟨w.heap.size, 0, none⟩) (by show w.heap.size < w5.heap.size; omega)).trans e0; have f1 := (hb6.cell (p := ⟨w.heap.size, 1, none⟩) (by show w.heap.size < w5.heap.size; omega)).trans e1; have f2 := (hb6.cell (p := ⟨w.heap.size, 2, none⟩) (by show w.heap.size < w5.heap.size; omega)).trans e2; have f3 := (hb6.cell (p := ⟨w.heap.size + 1, 0, none⟩) (by show w.heap.size + 1 < w5.heap.size; omega)).trans e3; have f4 := (hb6.cell (p := ⟨w.heap.size + 1, 1, none⟩) (by show w.heap.size + 1 < w5.heap.size; omega)).trans e4; have f5 := (hb6.cell (p := ⟨w.heap.size + 1, 2, none⟩) (by show w.heap.size + 1 < w5.heap.size; omega)).trans e5; have z6 : w5.heap.size ≤ w6.heap.size := hb6.size; have HO6 := Lib.hid (ownsRow_below (ownsRow_below (show wq.drew.ownsRow _ _ _ _ _ _ from HO3.out.drew) hb5) hb6); have HB6 := Lib.hid (((HB3.out.drew).trans (hb5.mono (by show w.heap.size ≤ wq.heap.size; omega))).trans (hb6.mono (by omega)))) | (refine step_app_quads w6 _ rfl _ _ rfl (w.heap.size + 2) _ L _ [((k : Int), (j : Int), x, y)] (HO6.out.alloc _) quads_one rfl rfl (by simp; omega) (by simp; omega) ((Below.refl (w.heap.size + 2) w6).alloc (by omega) _) ?_; intro v7 w7 hown7 hb7; have g0 := (hb7.cell (p := ⟨w.heap.size, 0, none⟩) (by show w.heap.size < w.heap.size + 2; omega)).trans f0; have g1 := (hb7.cell (p := ⟨w.heap.size, 1, none⟩) (by show w.heap.size < w.heap.size + 2; omega)).trans f1; have g2 := (hb7.cell (p := ⟨w.heap.size, 2, none⟩) (by show w.heap.size < w.heap.size + 2; omega)).trans f2; have g3 := (hb7.cell (p := ⟨w.heap.size + 1, 0, none⟩) (by show w.heap.size + 1 < w.heap.size + 2; omega)).trans f3; have g4 := (hb7.cell (p := ⟨w.heap.size + 1, 1, none⟩) (by show w.heap.size + 1 < w.heap.size + 2; omega)).trans f4; have g5 := (hb7.cell (p := ⟨w.heap.size + 1, 2, none⟩) (by show w.heap.size + 1 < w.heap.size + 2; omega)).trans f5; have HO7 := Lib.hid hown7; have HB7 := Lib.hid hb7) | fail)
            go_wp2
            go_roundw
            case rel =>
              refine ⟨j + 1, by omega, by go_num, ?_, HB6.out.trans (HB7.out.mono (by omega)), g0, g1, g2, g3, g4, g5⟩
              rw [rowDiff_other HX.out HY.out HXY.out, ← List.append_assoc, ← HLE.out]
              exact HO7.out
            case measure => simp [intOf]; omega
        · obtain rfl : j = c := by omega
          have HO2 := Lib.hid hown
          have HB2 := Lib.hid hbel
          clear hown hbel
          go_wp2
          go_roundw
          case rel => exact ⟨k + 1, by omega, by go_num, by rw [HDS.out]; exact HO2.out, HB2.out, d0, d1, d2, d3, d4, d5⟩
          case measure => simp [intOf]; omega
    · obtain rfl : k = n := by omega
      go_wp2
      go_ret
      exact ⟨_, rfl, by rw [HEnd.out]; exact hown, hbel⟩
end Go.Proofs.Ytdelcebkpdnnjaa
