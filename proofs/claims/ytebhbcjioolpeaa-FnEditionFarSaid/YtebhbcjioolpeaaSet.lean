/-
  GridSet of the program: a grid with one height set. Conditions: a grid that has the cell; a height.
-/
import Derived.Test.YtebhbcjioolpeaaHas
import Derived.Test.YtebhbcjioolpeaaFar
import Derived.Deep.RegionHeld3
namespace Go.Proofs.Ytebhbcjioolpeaa
open Go.RowKit Go.Deep Go.Sort BigFrame

def setOf (g : Rows) (r c : Nat) (x : Int) : Rows := rowsOf (fun n => if n = r * colsOf g + c then x else cellOf g n) g.length (colsOf g)
theorem setOf_len (g : Rows) (r c : Nat) (x : Int) : (setOf g r c x).length = g.length := rowsOf_length _ _ _
theorem setOf_rowlen {g : Rows} {r c : Nat} {x : Int} {i : Nat} (hi : i < g.length) : ((setOf g r c x)[i]?.getD []).length = colsOf g := by
  unfold setOf
  rw [rowsOf_get _ _ _ _ hi]
  simp
theorem setOf_cols {g : Rows} {r c : Nat} {x : Int} (h : 0 < g.length) : colsOf (setOf g r c x) = colsOf g := by
  have := setOf_rowlen (r := r) (c := c) (x := x) h
  unfold colsOf at this ⊢
  exact this
theorem setOf_ok {g : Rows} {r c : Nat} {x : Int} (h : GridOk g) (hx : 0 ≤ x ∧ x ≤ 99) : GridOk (setOf g r c x) := by
  refine ⟨by rw [setOf_len]; exact h.1, by rw [setOf_len]; exact h.2.1, by rw [setOf_cols h.1]; exact h.2.2.1, by rw [setOf_cols h.1]; exact h.2.2.2.1, fun i hi => ?_⟩
  rw [setOf_len] at hi
  rw [setOf_cols h.1]
  refine ⟨setOf_rowlen hi, fun j hj => ?_⟩
  rw [setOf_rowlen hi] at hj
  unfold setOf
  rw [rowsOf_cell _ _ _ _ _ hi hj]
  split
  · exact hx
  · unfold cellOf
    rw [div_row hj, mod_row hj]
    exact h.cell hi hj
theorem setOf_like {g : Rows} {r c : Nat} {x : Int} (h : GridOk g) (hx : 0 ≤ x ∧ x ≤ 99) : Like g (setOf g r c x) := ⟨⟨h, setOf_ok h hx, (setOf_len _ _ _ _).symm⟩, (setOf_cols h.1).symm⟩

set_option maxHeartbeats 4000000 in
set_option maxRecDepth 100000 in
theorem GridSet_any (v : Value) (g : Rows) (r c : Nat) (x : Int) (w : World) (h : Grid w v g) (hg : GridOk g) (hr : r < g.length) (hc : c < colsOf g) (hx0 : 0 ≤ x) (hx1 : x ≤ 99) :
    Calls Try.prog 39 #[v, .int .i64 r, .int .i64 c, .int .i64 x] w fun e w' => ∃ v, e = .returned (.tuple #[v, .bool true]) ∧ OwnG w.heap.size w'.heap.size w' v (setOf g r c x) ∧ Below w.heap.size w w' := by
  have C := Lib.hid (fieldOf_yes v g w h hg)
  clear h
  have hgl := hg.1
  have hgl2 := hg.2.1
  have hca := hg.2.2.1
  have hca2 := hg.2.2.2.1
  have HE : Hid (∀ n, (if n = r * colsOf g + c then x else cellOf g n) = (fun n => if n = r * colsOf g + c then x else cellOf g n) n) := fun _ => rfl
  have hidx := idx_lt hr hc
  go_enter Try.func39, Try.ntmps39
  go_wp2_with fail
  refine C.out.mono ?_
  rintro e w1 ⟨a, rfl, hA, hra, hbel⟩
  have ra := hra.alloc (.cells #[.int .i64 g.length, .int .i64 (colsOf g), .slice (some ⟨a, 0, none⟩) (g.length * colsOf g) (g.length * colsOf g)] 61)
  have hz := hbel.size
  have haw := hra.lt
  have HB := Lib.hid (hbel.alloc (by omega) (.cells #[.int .i64 g.length, .int .i64 (colsOf g), .slice (some ⟨a, 0, none⟩) (g.length * colsOf g) (g.length * colsOf g)] 61))
  have b1 := Box3.row (field_row w1 (.int .i64 g.length) (.int .i64 (colsOf g)) (.slice (some ⟨a, 0, none⟩) (g.length * colsOf g) (g.length * colsOf g)))
  have RA := Lib.hid ra
  have BX := Lib.hid b1
  obtain ⟨k0, k1, k2⟩ := b1
  clear hra hbel ra C
  go_wp2_with fail
  refine (has_yes g.length (colsOf g) _ r c _ hr hc).mono ?_
  rintro e w2 ⟨rfl, hb2⟩
  have z2 := hb2.size
  rw [World.size_alloc] at z2
  have HB2 := Lib.hid (HB.out.trans (hb2.mono (by simp; omega)))
  have BX2 := Lib.hid (BX.out.block (hb2.block w1.heap.size (by simp)))
  have RA2 := Lib.hid (RA.out.of_block (hb2.block _ RA.out.lt))
  obtain ⟨F, hF⟩ : ∃ F, F = w1.heap.size := ⟨_, rfl⟩
  rw [← hF] at BX2 z2 haw hz ⊢
  clear hb2 k0 k1 k2 BX RA HB hF
  go_wp2_with fail
  refine (isHeight_yes _ _ hx0 hx1).mono ?_
  rintro e w3 ⟨rfl, rfl⟩
  obtain ⟨d0, d1, d2⟩ := BX2.out
  obtain ⟨N, hN⟩ : ∃ N, N = g.length * colsOf g := ⟨_, rfl⟩
  obtain ⟨m, hm⟩ : ∃ m, m = r * colsOf g + c := ⟨_, rfl⟩
  rw [← hN] at d2 RA2 hidx
  rw [← hm] at hidx
  have HN := Lib.hid hN
  have HM := Lib.hid hm
  have ix1 : (0 : Int) ≤ (m : Int) := by omega
  have ix2 : (m : Int) < (N : Int) := by exact_mod_cast hidx
  have hFl : F < w3.heap.size := by omega
  have hne : F ≠ a := by omega
  rw [← hN]
  clear hN hm BX2 HE
  go_wp2
  go_region_held3 (fun w' => w'.cell? ⟨F, 0, none⟩ = some (.int .i64 g.length) ∧ w'.cell? ⟨F, 1, none⟩ = some (.int .i64 (colsOf g)) ∧ w'.cell? ⟨F, 2, none⟩ = some (.slice (some ⟨a, 0, none⟩) N N))
    (first | exact ⟨d0, d1, d2⟩ | exact ⟨k0, k1, k2⟩ | exact ⟨(World.cell?_of_block (blk_setCell_other _ _ _ _ hne)).trans k0, (World.cell?_of_block (blk_setCell_other _ _ _ _ hne)).trans k1, (World.cell?_of_block (blk_setCell_other _ _ _ _ hne)).trans k2⟩ | go_keep)
    (first | (go_at_call 71; refine (index_any _ (colsOf g) r c m _ ⟨_, _, _, rfl⟩ _ (by omega) (by omega) (by omega) HM.out).mono ?_; rintro e w7 ⟨rfl, hb7⟩; have k0 := (hb7.cell (p := ⟨F, 0, none⟩) hFl).trans d0; have k1 := (hb7.cell (p := ⟨F, 1, none⟩) hFl).trans d1; have k2 := (hb7.cell (p := ⟨F, 2, none⟩) hFl).trans d2; have HR7 := Lib.hid (RA2.out.drew.of_block (hb7.block _ RA2.out.lt)); have r1 := HR7.out.cell hidx; have r2 := HR7.out.frozen m; have HB7 := Lib.hid hb7) | fail)
  have hx := Box3.other (p := ⟨a, m, none⟩) ⟨k0, k1, k2⟩ hne (.int .i64 x)
  have hr8 : (w7.setCell ⟨a, m, none⟩ (.int .i64 x)).rowIs a 3 N (fun n => .int .i64 (if n = m then x else cellOf g n)) := (HR7.out.set _ _).congr (fun n hn => by by_cases e : n = m <;> simp [e])
  have HB8 := Lib.hid ((HB2.out.drew.trans (HB7.out.mono (by show w.heap.size ≤ w3.heap.size; omega))).setCell (p := ⟨a, m, none⟩) (by show w.heap.size ≤ a; exact hA) (.int .i64 x))
  have CL := Lib.hid (lists_any g.length (colsOf g) a (fun n => if n = m then x else cellOf g n) (w7.setCell ⟨a, m, none⟩ (.int .i64 x)) (by omega) (by omega) hca (by rw [← HN.out]; exact hr8))
  rw [← HN.out] at CL
  have hw8 : w.heap.size ≤ (w7.setCell ⟨a, m, none⟩ (.int .i64 x)).heap.size := HB8.out.size
  obtain ⟨w8, hw8e⟩ : ∃ w8, w8 = w7.setCell ⟨a, m, none⟩ (.int .i64 x) := ⟨_, rfl⟩
  rw [← hw8e] at CL HB8 hx hw8 ⊢
  obtain ⟨k0, k1, k2⟩ := hx
  clear hw8e hr8 HB7 hb7 r1 r2 HR7
  go_wp2_with fail
  refine CL.out.mono ?_
  rintro e w9 ⟨v9, rfl, hO, hb9⟩
  have HO := Lib.hid hO
  have HB9 := Lib.hid (HB8.out.trans (hb9.mono hw8))
  clear hO hb9
  go_wp2
  go_ret2
  exact ⟨v9, rfl, by unfold setOf; rw [← HM.out]; exact HO.out.mono hw8 (Nat.le_refl _), HB9.out⟩
end Go.Proofs.Ytebhbcjioolpeaa
