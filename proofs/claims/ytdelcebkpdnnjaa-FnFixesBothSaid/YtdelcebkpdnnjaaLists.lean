/-
  lists: the field as new lists. Conditions: rows and columns up to 100, at least one column.
-/
import Derived.Test.YtdelcebkpdnnjaaCopy
import Derived.Test.YtdelcebkpdnnjaaGap
import Derived.Laws.CopyOwn
namespace Go.Proofs.Ytdelcebkpdnnjaa
open Go.RowKit Go.Deep Go.Sort

/-- the rows of heights told by a function of the index -/
def rowsOf (h : Nat → Int) (r c : Nat) : Rows := (List.range r).map fun i => (List.range c).map fun j => h (i * c + j)
theorem rowsOf_length (h : Nat → Int) (r c : Nat) : (rowsOf h r c).length = r := by simp [rowsOf]
theorem rowsOf_get (h : Nat → Int) (r c i : Nat) (hi : i < r) : (rowsOf h r c)[i]?.getD [] = (List.range c).map fun j => h (i * c + j) := by simp [rowsOf, hi]
theorem rowsOf_cell (h : Nat → Int) (r c i j : Nat) (hi : i < r) (hj : j < c) : ((rowsOf h r c)[i]?.getD [])[j]?.getD 0 = h (i * c + j) := by rw [rowsOf_get h r c i hi]; simp [hj]
/-- a grid is the rows of its own heights -/
theorem rowsOf_self {g : Rows} (hg : GridOk g) : rowsOf (cellOf g) g.length (colsOf g) = g := by
  refine rows_eq (by rw [rowsOf_length]) fun i hi => ?_
  rw [rowsOf_length] at hi
  rw [rowsOf_get _ _ _ _ hi]
  have hl := (hg.2.2.2.2 i hi).1
  refine List.ext_getElem (by simp [hl]) fun j h1 h2 => ?_
  have hj : j < colsOf g := by simpa using h1
  have := cell_at (g := g) (c := colsOf g) (k := i) (j := j) rfl hj
  simp [this, h2]

theorem addr_add (a o j : Nat) : (⟨a, o, none⟩ : Addr).add j = ⟨a, o + j, none⟩ := by unfold Addr.add; split <;> simp_all
theorem splice_all {α : Type} (cur cs : List α) (h : cs.length = cur.length) : splice cur 0 cs = cs := by
  unfold splice; simp [h]

set_option maxHeartbeats 2000000 in
set_option maxRecDepth 100000 in
theorem lists_any (r c a : Nat) (h : Nat → Int) (w : World) (hr : r ≤ 100) (hc : c ≤ 100) (hc1 : 1 ≤ c) (hrow : w.rowIs a 3 (r * c) (fun i => .int .i64 (h i))) :
    Calls Try.prog 63 #[fv r c (.slice (some ⟨a, 0, none⟩) (r * c) (r * c))] w fun e w' => ∃ v, e = .returned v ∧ OwnG w.heap.size w'.heap.size w' v (rowsOf h r c) ∧ Below w.heap.size w w' := by
  have HROW := Lib.hid hrow
  have hal := hrow.lt
  have hmk1 := run_make_row' (P := Try.prog) 23 27 (.slice none 0 0) 24 Try.underlying23 info_islice rfl .i64 .i64 r (by omega) (by omega)
  have hmk2 := run_make_row' (P := Try.prog) 27 3 (.int .i64 0) 8 Try.underlying27 info_int rfl .i64 .i64 c (by omega) (by omega)
  have hN1 := Nat.mul_le_mul hr hc
  obtain ⟨N, hN⟩ : ∃ N, N = r * c := ⟨_, rfl⟩
  rw [← hN] at HROW hN1 ⊢
  have HNN := Lib.hid hN
  clear hN hrow
  go_enter Try.func63, Try.ntmps63
  go_wp2
  go_loopw [4, 10] (fun _ i wr => ∃ (k : Nat) (f : Nat → Value) (bs : Nat → Nat), k ≤ r ∧ i = .int .i64 k ∧
      wr.cell? ⟨w.heap.size, 1, none⟩ = some (.int .i64 c) ∧ wr.cell? ⟨w.heap.size, 2, none⟩ = some (.slice (some ⟨a, 0, none⟩) N N) ∧
      wr.rowIs (w.heap.size + 1) 27 r f ∧ w.heap.size + 1 < bs 0 ∧ bs k ≤ wr.heap.size ∧ (∀ j, j < k → bs j ≤ bs (j + 1)) ∧ (∀ j, j < k → Own (bs j) (bs (j + 1)) wr (f j) ((List.range c).map fun i => h (j * c + i))) ∧ Below w.heap.size w wr) (fun _ i _ => r - (intOf i).toNat)
  case atStart =>
    have B0 := (Below.refl w.heap.size w).alloc (Nat.le_refl _) (.cells #[.int .i64 r, .int .i64 c, .slice (some ⟨a, 0, none⟩) N N] 64)
    have r1 := (field_row w (.int .i64 r) (.int .i64 c) (.slice (some ⟨a, 0, none⟩) N N)).alloc (.cells (madeCells #[.slice none 0 0] r) 27)
    have r2 := World.rowIs_made (w.alloc (.cells #[.int .i64 r, .int .i64 c, .slice (some ⟨a, 0, none⟩) N N] 64)) (.slice none 0 0) r 27
    rw [World.size_alloc] at r2
    exact ⟨0, _, fun _ => w.heap.size + 1 + 1, Nat.zero_le _, rfl, r1.cell (i := 1) (by decide), r1.cell (i := 2) (by decide), r2, Nat.lt_succ_self _, by simp, fun j hj => absurd hj (Nat.not_lt_zero _), fun j hj => absurd hj (Nat.not_lt_zero _), B0.alloc (by simp) _⟩
  case round =>
    obtain ⟨k, f, bs, hk, rfl, c1, c2, hrow, hb0, hbk, hst, hown, hbel⟩ := hrel
    by_cases hlt : k < r
    · have hd := hrow.cell hlt
      have hfr := hrow.frozen k
      obtain ⟨u, hu⟩ : ∃ u, u = f k := ⟨_, rfl⟩
      rw [← hu] at hd
      have hsz := hbel.size
      have hH := hrow.lt
      have HR := Lib.hid hrow
      have HO := Lib.hid hown
      have HST := Lib.hid hst
      have HM := Lib.hid (mono_steps hst)
      have HB := Lib.hid hbel
      have C1 := Lib.hid c1
      have C2 := Lib.hid c2
      obtain ⟨W, hW⟩ : ∃ W, W = wr.heap.size := ⟨_, rfl⟩
      clear hrow hown hst hbel hu
      go_wp2_with fail
      have T0 := (Touch.refl w.heap.size (w.heap.size + 2) wr).setCell (p := ⟨w.heap.size + 1, k, none⟩) (by simp) (by simp) (.slice (some ⟨wr.heap.size, 0, none⟩) c c)
      have e1 : (wr.setCell ⟨w.heap.size + 1, k, none⟩ (.slice (some ⟨wr.heap.size, 0, none⟩) c c)).heap.size = wr.heap.size := by simp [World.setCell]
      have HBX := Lib.hid ((HB.out.setCell (p := ⟨w.heap.size + 1, k, none⟩) (by simp) (.slice (some ⟨wr.heap.size, 0, none⟩) c c)).alloc (by rw [e1]; exact hsz) (.cells (madeCells #[.int .i64 0] c) 3))
      have x1 : ((wr.setCell ⟨w.heap.size + 1, k, none⟩ (.slice (some ⟨wr.heap.size, 0, none⟩) c c)).alloc (.cells (madeCells #[.int .i64 0] c) 3)).cell? ⟨w.heap.size, 1, none⟩ = some (.int .i64 c) := (World.cell?_alloc_past _ _ _ (by rw [e1]; show w.heap.size < _; omega)).trans ((World.cell?_of_block (blk_setCell_other _ _ _ _ (by simp))).trans C1.out)
      have x2 : ((wr.setCell ⟨w.heap.size + 1, k, none⟩ (.slice (some ⟨wr.heap.size, 0, none⟩) c c)).alloc (.cells (madeCells #[.int .i64 0] c) 3)).cell? ⟨w.heap.size, 2, none⟩ = some (.slice (some ⟨a, 0, none⟩) N N) := (World.cell?_alloc_past _ _ _ (by rw [e1]; show w.heap.size < _; omega)).trans ((World.cell?_of_block (blk_setCell_other _ _ _ _ (by simp))).trans C2.out)
      have hR2 := (HR.out.set k (.slice (some ⟨wr.heap.size, 0, none⟩) c c)).alloc (.cells (madeCells #[.int .i64 0] c) 3)
      have x3 := hR2.cell hlt
      rw [if_pos rfl] at x3
      have hR3 := World.rowIs_made (wr.setCell ⟨w.heap.size + 1, k, none⟩ (.slice (some ⟨wr.heap.size, 0, none⟩) c c)) (.int .i64 0) c 3
      rw [e1] at hR3
      have hA := (((HROW.out.of_block (HB.out.block _ hal)).setOther (a := ⟨w.heap.size + 1, k, none⟩) (by show a ≠ w.heap.size + 1; omega) (.slice (some ⟨wr.heap.size, 0, none⟩) c c)).alloc (.cells (madeCells #[.int .i64 0] c) 3))
      have hold : Hid (∀ j, j < k → Own (bs j) (bs (j + 1)) ((wr.setCell ⟨w.heap.size + 1, k, none⟩ (.slice (some ⟨wr.heap.size, 0, none⟩) c c)).alloc (.cells (madeCells #[.int .i64 0] c) 3)) (f j) ((List.range c).map fun i => h (j * c + i))) := fun j hj => by
        have h0 := HM.out 0 j (Nat.zero_le _) (by omega)
        have h1 := HM.out (j + 1) k (by omega) (Nat.le_refl _)
        exact ((HO.out j hj).touch T0 (by omega)).below ((Below.refl wr.heap.size _).alloc (by rw [e1]; exact Nat.le_refl _) _) (by omega)
      obtain ⟨G, hG⟩ : ∃ G, G = wr.heap.size := ⟨_, rfl⟩
      obtain ⟨X, hX⟩ : ∃ X, X = (wr.setCell ⟨w.heap.size + 1, k, none⟩ (.slice (some ⟨wr.heap.size, 0, none⟩) c c)).alloc (.cells (madeCells #[.int .i64 0] c) 3) := ⟨_, rfl⟩
      have hXs : X.heap.size = G + 1 := by rw [hX, hG]; simp [World.setCell]
      rw [← hX] at x1 x2 x3 hR2 hR3 hA hold HBX ⊢
      rw [← hG] at x3 hR2 hR3 hbk hsz ⊢
      have HR2 := Lib.hid hR2
      have HA := Lib.hid hA
      obtain ⟨arr, harr, hsize, hget⟩ := hR3
      have HARR := Lib.hid harr
      have hlen : arr.toList.length = c := by simpa using hsize
      have hH2 : w.heap.size + 1 < G := by rw [hG]; exact hH
      have hm0 : 0 ≤ (k : Int) * (c : Int) ∧ (k : Int) * (c : Int) ≤ 10000 := mul_small k c (by omega) hc
      have hm1 : 0 ≤ ((k : Int) + 1) * (c : Int) ∧ ((k : Int) + 1) * (c : Int) ≤ 10000 := by
        have := mul_small (k + 1) c (by omega) hc
        simpa using this
      obtain ⟨n1, hn1⟩ : ∃ n, n = k * c := ⟨_, rfl⟩
      have i1 : (k : Int) * (c : Int) = (n1 : Int) := by rw [hn1]; simp
      have i2 : ((k : Int) + 1) * (c : Int) = (n1 : Int) + (c : Int) := by rw [hn1, Int.add_mul, Int.one_mul]; simp
      rw [i1] at hm0
      rw [i2] at hm1
      obtain ⟨n2, hn2⟩ : ∃ n, n = n1 + c := ⟨_, rfl⟩
      have i3 : ((k : Int) + 1) * (c : Int) = (n2 : Int) := by rw [i2, hn2]; simp
      have w1' : IntKind.i64.wrap ((k : Int) * (c : Int)) = (n1 : Int) := (wrap_small (by omega) (by omega)).trans i1
      have w2' : IntKind.i64.wrap (((k : Int) + 1) * (c : Int)) = (n2 : Int) := (wrap_small (by omega) (by omega)).trans i3
      have w3' := wrap_small (x := (k : Int) + 1) (by omega) (by omega)
      have w4' := wrap_small (x := (n1 : Int)) (by omega) (by omega)
      have w5' := wrap_small (x := (n2 : Int)) (by omega) (by omega)
      have hbn : n1 + c ≤ N := by
        have := Nat.mul_le_mul_right c (show k + 1 ≤ r by omega)
        rw [Nat.add_mul, Nat.one_mul, ← hn1, ← HNN.out] at this
        exact this
      have j1 : (0 : Int) ≤ (n1 : Int) := by omega
      have j2 : (0 : Int) ≤ (n2 : Int) := by omega
      have j3 : (n2 : Int) ≤ (N : Int) := by omega
      have j4 : (n1 : Int) ≤ (n2 : Int) := by omega
      have j5 : max (n2 : Int) 0 = (n2 : Int) := by omega
      have j6 : n1 < N := by omega
      have j7 : ¬ N = n1 := by omega
      have CS : Hid (((List.range c).map fun j => Value.int .i64 (h (n1 + j))).length = Nat.min (n2 - n1) c) := by show ((List.range c).map _).length = min (n2 - n1) c; rw [List.length_map, List.length_range]; omega
      have PS : Hid (∀ (j : Nat) (v : Value), ((List.range c).map fun j => Value.int .i64 (h (n1 + j)))[j]? = some v → X.drew.cell? ((⟨a, n1, none⟩ : Addr).add j) = some v) := fun j v hv => by
        have hj : j < c := by have := (List.getElem?_eq_some_iff.1 hv).1; simpa using this
        have hv2 : v = .int .i64 (h (n1 + j)) := by simp [hj] at hv; exact hv.symm
        rw [hv2, addr_add]
        exact HA.out.cell (by omega)
      have OC : Hid (∀ u ∈ (List.range c).map fun j => Value.int .i64 (h (n1 + j)), u.oneCell' = true) := fun u hu => by obtain ⟨z, _, rfl⟩ := List.mem_map.1 hu; rfl
      have HG2 : Hid (X.drew.heap[G]? = some (.cells arr.toList.toArray 3 (0, 0))) := by show X.heap[G]? = _; rw [Array.toArray_toList]; exact HARR.out
      obtain ⟨cs, hcs⟩ : ∃ cs, cs = (List.range c).map fun j => Value.int .i64 (h (n1 + j)) := ⟨_, rfl⟩
      rw [← hcs] at CS PS OC
      have hcl : cs.length = c := by rw [hcs]; simp
      have HCS := Lib.hid hcs
      have HN2 := Lib.hid hn2
      have HN1 := Lib.hid hn1
      have HG := Lib.hid hG
      clear hR2 harr hA hX hG hn1 hn2 hcs i1 i2 i3 T0 e1 hmk1 hmk2 hd hfr c1 c2
      go_region_held3 (fun w' => w'.cell? ⟨w.heap.size, 1, none⟩ = some (.int .i64 c) ∧ w'.cell? ⟨w.heap.size, 2, none⟩ = some (.slice (some ⟨a, 0, none⟩) N N) ∧ w'.cell? ⟨w.heap.size + 1, k, none⟩ = some (.slice (some ⟨G, 0, none⟩) c c))
        (first | exact ⟨x1, x2, x3⟩ | exact ⟨g1, g2, g3⟩ | go_keep)
        (first | (refine step_copy_splice rfl _ _ _ _ rfl 3 Try.underlying27 (by kernel_rfl) _ _ _ _ _ _ rfl rfl G 0 arr.toList 3 HG2.out cs CS.out (fun _ => ⟨rfl, _, rfl, PS.out⟩) (by omega) OC.out G X ((Below.refl G X).drew) (Nat.le_refl _) ?_; intro w7 hg7 hb7; have HG7 := Lib.hid hg7; have HB7 := Lib.hid hb7; have g1 := (hb7.cell (p := ⟨w.heap.size, 1, none⟩) (by show w.heap.size < G; omega)).trans x1; have g2 := (hb7.cell (p := ⟨w.heap.size, 2, none⟩) (by show w.heap.size < G; omega)).trans x2; have g3 := (hb7.cell (p := ⟨w.heap.size + 1, k, none⟩) (by show w.heap.size + 1 < G; omega)).trans x3) | fail)
      go_wp2
      go_roundw
      case rel =>
        have z7 : G + 1 ≤ w7.heap.size := by have : X.heap.size ≤ w7.heap.size := HB7.out.size; omega
        have hrow7 : w7.rowIs G 3 c (fun j => .int .i64 (h (n1 + j))) := by
          have h7 := HG7.out
          rw [splice_all _ _ (by rw [hcl, hlen])] at h7
          refine ⟨cs.toArray, h7, by simp [hcl], fun i hi => ?_⟩
          rw [HCS.out]
          simp [hi]
        refine ⟨k + 1, _, fun j => if j ≤ k then bs j else w7.heap.size, by omega, by go_num, g1, g2, HR2.out.of_block (HB7.out.block _ hH2), by dsimp only; rw [if_pos (Nat.zero_le _)]; exact hb0, by dsimp only; rw [if_neg (by omega)]; exact Nat.le_refl _, fun j hj => ?_, fun j hj => ?_, HBX.out.trans (HB7.out.mono hsz)⟩
        · dsimp only
          by_cases e : j = k
          · subst e; rw [if_pos (Nat.le_refl _), if_neg (by omega)]; omega
          · rw [if_pos (by omega), if_pos (by omega)]; exact HST.out j (by omega)
        · dsimp only
          by_cases e : j = k
          · subst e
            rw [if_pos rfl, if_pos (Nat.le_refl _), if_neg (by omega)]
            have hll : ((List.range c).map fun i => h (j * c + i)).length = c := by simp
            refine .inr ⟨G, 0, c, 3, c, _, by rw [hll], by omega, by omega, hbk, by omega, hrow7, by omega, fun i hi => ?_⟩
            rw [hll] at hi
            rw [Nat.zero_add, HN1.out]
            simp [hi]
          · have h1 := HM.out (j + 1) k (by omega) (Nat.le_refl _)
            rw [if_neg e, if_pos (by omega), if_pos (by omega)]
            exact (hold.out j (by omega)).below HB7.out (by omega)
      case measure => simp [intOf]; omega
    · obtain rfl : k = r := by omega
      have HR := Lib.hid hrow
      have HO := Lib.hid hown
      have HB := Lib.hid hbel
      clear hrow hown hbel hmk1 hmk2
      go_wp2
      go_ret
      exact ⟨_, rfl, OwnG_steps (by omega) hb0 (by rw [rowsOf_length]; exact hbk) (by rw [rowsOf_length]; exact hst) HR.out (by rw [rowsOf_length]; exact Nat.le_refl _) (by omega) (fun j hj => by rw [rowsOf_length] at hj; rw [rowsOf_get _ _ _ _ hj]; exact HO.out j hj) _ (rowsOf_length ..).symm, HB.out⟩
end Go.Proofs.Ytdelcebkpdnnjaa
