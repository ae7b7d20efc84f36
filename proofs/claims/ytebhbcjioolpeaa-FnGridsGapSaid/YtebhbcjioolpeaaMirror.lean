/-
  GridMirror of the program: the columns in the opposite order. Condition: a grid.
-/
import Derived.Test.YtebhbcjioolpeaaMadeMirror
namespace Go.Proofs.Ytebhbcjioolpeaa
open Go.RowKit Go.Deep Go.Sort BigFrame

def hM (g : Rows) (i j : Nat) : Int := (g[i]?.getD [])[colsOf g - 1 - j]?.getD 0
def mirrorOf (g : Rows) : Rows := rowsOf (fun n => hM g (n / colsOf g) (n % colsOf g)) g.length (colsOf g)

theorem mirror_len (g : Rows) : (mirrorOf g).length = g.length := rowsOf_length _ _ _
theorem mirror_rowlen {g : Rows} {i : Nat} (hi : i < g.length) : ((mirrorOf g)[i]?.getD []).length = colsOf g := by
  unfold mirrorOf
  rw [rowsOf_get _ _ _ _ hi]
  simp
theorem mirror_cols {g : Rows} (h : 0 < g.length) : colsOf (mirrorOf g) = colsOf g := by
  have := mirror_rowlen h
  unfold colsOf at this ⊢
  exact this
theorem mirror_cell {g : Rows} {i j : Nat} (hi : i < g.length) (hj : j < colsOf g) : ((mirrorOf g)[i]?.getD [])[j]?.getD 0 = hM g i j := by
  unfold mirrorOf
  rw [rowsOf_cell _ _ _ _ _ hi hj, div_row hj, mod_row hj]
theorem mirror_ok {g : Rows} (h : GridOk g) : GridOk (mirrorOf g) := by
  refine ⟨by rw [mirror_len]; exact h.1, by rw [mirror_len]; exact h.2.1, by rw [mirror_cols h.1]; exact h.2.2.1, by rw [mirror_cols h.1]; exact h.2.2.2.1, fun i hi => ?_⟩
  rw [mirror_len] at hi
  rw [mirror_cols h.1]
  refine ⟨mirror_rowlen hi, fun j hj => ?_⟩
  rw [mirror_rowlen hi] at hj
  rw [mirror_cell hi hj]
  exact h.cell hi (by omega)
theorem mirror_last {g : Rows} (h : GridOk g) {k : Nat} (hk : k < g.length) : lastOf (mirrorOf g) k = firstOf g k := by
  have := h.2.2.1
  unfold lastOf firstOf
  rw [mirror_cols h.1, mirror_cell hk (by omega)]
  unfold hM
  rw [show colsOf g - 1 - (colsOf g - 1) = 0 by omega]
theorem mirror_first {g : Rows} (h : GridOk g) {k : Nat} (hk : k < g.length) : firstOf (mirrorOf g) k = lastOf g k := by
  have := h.2.2.1
  unfold lastOf firstOf
  rw [mirror_cell hk (by omega)]
  unfold hM
  rw [Nat.sub_zero]
theorem mirror_same {ga gb : Rows} (h : Same ga gb) : Same (mirrorOf gb) (mirrorOf ga) := ⟨mirror_ok h.2.1, mirror_ok h.1, by rw [mirror_len, mirror_len]; exact h.2.2.symm⟩
theorem mirror_gapUp {ga gb : Rows} (h : Same ga gb) : ∀ k, k ≤ ga.length → gapUpTo (mirrorOf gb) (mirrorOf ga) k = gapUpTo ga gb k := by
  intro k
  induction k with
  | zero => intro _; rfl
  | succ k ih =>
    intro hk
    rw [gapUpTo, gapUpTo, ih (by omega), mirror_last h.2.1 (by have := h.2.2; omega), mirror_first h.1 (by omega)]
    unfold aparts
    omega
/-- mirrored and exchanged, two grids have the gap that they had -/
theorem mirror_gap {ga gb : Rows} (h : Same ga gb) : gapOf (mirrorOf gb) (mirrorOf ga) = gapOf ga gb := by
  rw [gap_val h, gap_val (mirror_same h), mirror_len, ← h.2.2]
  exact mirror_gapUp h _ (Nat.le_refl _)

set_option maxHeartbeats 1000000 in
set_option maxRecDepth 100000 in
theorem mirrorCl_any (g : Rows) (F A i j : Nat) (w : World) (hg : GridOk g) (bx : Box3 w F (.int .i64 g.length) (.int .i64 (colsOf g)) (.slice (some ⟨A, 0, none⟩) (g.length * colsOf g) (g.length * colsOf g)))
    (ra : w.rowIs A 3 (g.length * colsOf g) (fun i => .int .i64 (cellOf g i))) (hi : i < g.length) (hj : j < colsOf g) :
    Calls Try.prog 80 #[.int .i64 i, .int .i64 j, .pointer (some ⟨F, 0, none⟩)] w fun e w' => e = .returned (.int .i64 (hM g i j)) ∧ Below w.heap.size w w' := by
  obtain ⟨k0, k1, k2⟩ := bx
  have hca := hg.2.2.2.1
  have C := Lib.hid (at_grid g g.length A i (colsOf g - 1 - j) w hg ra hi (by omega))
  have e1 : ((colsOf g - 1 - j : Nat) : Int) = (colsOf g : Int) - 1 - (j : Int) := by omega
  rw [e1] at C
  have w1' := wrap_small (x := (colsOf g : Int) - 1) (by omega) (by omega)
  have w2' := wrap_small (x := (colsOf g : Int) - 1 - (j : Int)) (by omega) (by omega)
  have hv : hM g i j = (g[i]?.getD [])[colsOf g - 1 - j]?.getD 0 := rfl
  rw [hv]
  obtain ⟨y, hy⟩ : ∃ y, y = (g[i]?.getD [])[colsOf g - 1 - j]?.getD 0 := ⟨_, rfl⟩
  rw [← hy] at C ⊢
  obtain ⟨c, hc⟩ : ∃ c, c = colsOf g := ⟨_, rfl⟩
  obtain ⟨na, hn⟩ : ∃ c, c = g.length * colsOf g := ⟨_, rfl⟩
  obtain ⟨n, hnn⟩ : ∃ c, c = g.length := ⟨_, rfl⟩
  rw [← hn] at C k2
  rw [← hc] at C k1 w1' w2'
  rw [← hnn] at C k0
  clear hg ra hv hy hc hn hnn hi hj e1 hca
  go_enter Try.func80, Try.ntmps80
  go_wp2_with (go_at_call 81; refine C.out.mono ?_; rintro e w5 ⟨rfl, hb5⟩)
  go_ret
  exact ⟨rfl, hb5⟩

set_option maxHeartbeats 2000000 in
set_option maxRecDepth 100000 in
theorem GridMirror_any (v : Value) (g : Rows) (w : World) (h : Grid w v g) (hg : GridOk g) :
    Calls Try.prog 35 #[v] w fun e w' => ∃ v, e = .returned (.tuple #[v, .bool true]) ∧ OwnG w.heap.size w'.heap.size w' v (mirrorOf g) ∧ Below w.heap.size w w' := by
  have C := Lib.hid (fieldOf_yes v g w h hg)
  clear h
  have hgl := hg.1
  have hgl2 := hg.2.1
  have hca := hg.2.2.1
  have hca2 := hg.2.2.2.1
  have HG := Lib.hid hg
  clear hg
  go_enter Try.func35, Try.ntmps35
  go_wp2_with fail
  refine C.out.mono ?_
  rintro e w1 ⟨a, rfl, hA, hra, hbel⟩
  have ra := hra.alloc (.cells #[.int .i64 g.length, .int .i64 (colsOf g), .slice (some ⟨a, 0, none⟩) (g.length * colsOf g) (g.length * colsOf g)] 61)
  have hz := hbel.size
  have HB := Lib.hid (hbel.alloc (by omega) (.cells #[.int .i64 g.length, .int .i64 (colsOf g), .slice (some ⟨a, 0, none⟩) (g.length * colsOf g) (g.length * colsOf g)] 61))
  have b1 := Box3.row (field_row w1 (.int .i64 g.length) (.int .i64 (colsOf g)) (.slice (some ⟨a, 0, none⟩) (g.length * colsOf g) (g.length * colsOf g)))
  have RA := Lib.hid ra
  have BX := Lib.hid b1
  obtain ⟨k0, k1, k2⟩ := b1
  clear hra hbel ra C hA
  have hbw : w.heap.size ≤ (w1.alloc (.cells #[.int .i64 g.length, .int .i64 (colsOf g), .slice (some ⟨a, 0, none⟩) (g.length * colsOf g) (g.length * colsOf g)] 61)).heap.size := HB.out.size
  have CM := Lib.hid (made_mirror w1.heap.size g.length (colsOf g) (hM g) (w1.alloc (.cells #[.int .i64 g.length, .int .i64 (colsOf g), .slice (some ⟨a, 0, none⟩) (g.length * colsOf g) (g.length * colsOf g)] 61)) hgl hgl2 hca hca2 (fun W i j hW hi hj => mirrorCl_any g w1.heap.size a i j W HG.out (BX.out.block (hW.block w1.heap.size (by simp))) (RA.out.of_block (hW.block a RA.out.lt)) hi hj)
    (fun i j hi hj => HG.out.cell hi (by omega)))
  go_wp2_with fail
  refine CM.out.mono ?_
  rintro e w5 ⟨v, rfl, hO, hb5⟩
  have HO := Lib.hid hO
  have HB5 := Lib.hid (HB.out.trans (hb5.mono hbw))
  clear hO hb5
  go_wp2
  go_ret2
  exact ⟨v, rfl, HO.out.mono hbw (Nat.le_refl _), HB5.out⟩
end Go.Proofs.Ytebhbcjioolpeaa
