/-
  GridPart of the program: some rows and columns of a grid. Conditions: a grid that has the two corners.
-/
import Derived.Test.YtebhbcjioolpeaaMadePart
import Derived.Test.YtebhbcjioolpeaaHas
namespace Go.Proofs.Ytebhbcjioolpeaa
open Go.RowKit Go.Deep Go.Sort BigFrame

def hP (g : Rows) (top left i j : Nat) : Int := (g[top + i]?.getD [])[left + j]?.getD 0
def partOf (g : Rows) (top left r c : Nat) : Rows := rowsOf (fun n => hP g top left (n / c) (n % c)) r c

set_option maxHeartbeats 1000000 in
set_option maxRecDepth 100000 in
theorem partCl_any (g : Rows) (F T L A i j top left : Nat) (w : World) (hg : GridOk g) (bx : Box3 w F (.int .i64 g.length) (.int .i64 (colsOf g)) (.slice (some ⟨A, 0, none⟩) (g.length * colsOf g) (g.length * colsOf g)))
    (ht : w.cell? ⟨T, 0, none⟩ = some (.int .i64 top)) (hl : w.cell? ⟨L, 0, none⟩ = some (.int .i64 left))
    (ra : w.rowIs A 3 (g.length * colsOf g) (fun i => .int .i64 (cellOf g i))) (hi : top + i < g.length) (hj : left + j < colsOf g) :
    Calls Try.prog 87 #[.int .i64 i, .int .i64 j, .pointer (some ⟨F, 0, none⟩), .pointer (some ⟨T, 0, none⟩), .pointer (some ⟨L, 0, none⟩)] w fun e w' => e = .returned (.int .i64 (hP g top left i j)) ∧ Below w.heap.size w w' := by
  obtain ⟨k0, k1, k2⟩ := bx
  have hca := hg.2.2.2.1
  have hra := hg.2.1
  have C := Lib.hid (at_grid g g.length A (top + i) (left + j) w hg ra hi hj)
  have e1 : ((top + i : Nat) : Int) = (top : Int) + (i : Int) := by omega
  have e2 : ((left + j : Nat) : Int) = (left : Int) + (j : Int) := by omega
  rw [e1, e2] at C
  have w1' := wrap_small (x := (top : Int) + (i : Int)) (by omega) (by omega)
  have w2' := wrap_small (x := (left : Int) + (j : Int)) (by omega) (by omega)
  have hv : hP g top left i j = (g[top + i]?.getD [])[left + j]?.getD 0 := rfl
  rw [hv]
  obtain ⟨y, hy⟩ : ∃ y, y = (g[top + i]?.getD [])[left + j]?.getD 0 := ⟨_, rfl⟩
  rw [← hy] at C ⊢
  obtain ⟨c, hc⟩ : ∃ c, c = colsOf g := ⟨_, rfl⟩
  obtain ⟨na, hn⟩ : ∃ c, c = g.length * colsOf g := ⟨_, rfl⟩
  obtain ⟨n, hnn⟩ : ∃ c, c = g.length := ⟨_, rfl⟩
  rw [← hn] at C k2
  rw [← hc] at C k1
  rw [← hnn] at C k0
  clear hg ra hv hy hc hn hnn hi hj e1 e2 hca hra
  go_enter Try.func87, Try.ntmps87
  go_wp2_with (go_at_call 81; refine C.out.mono ?_; rintro e w5 ⟨rfl, hb5⟩)
  go_ret
  exact ⟨rfl, hb5⟩

set_option maxHeartbeats 4000000 in
set_option maxRecDepth 100000 in
theorem GridPart_any (v : Value) (g : Rows) (top bottom left right : Nat) (w : World) (h : Grid w v g) (hg : GridOk g) (h1 : top ≤ bottom) (h2 : bottom < g.length) (h3 : left ≤ right) (h4 : right < colsOf g) :
    Calls Try.prog 44 #[v, .int .i64 top, .int .i64 bottom, .int .i64 left, .int .i64 right] w fun e w' => ∃ v, e = .returned (.tuple #[v, .bool true]) ∧ OwnG w.heap.size w'.heap.size w' v (partOf g top left (bottom - top + 1) (right - left + 1)) ∧ Below w.heap.size w w' := by
  have B0 := Lib.hid (((Below.refl w.heap.size w).alloc (Nat.le_refl _) (.cells #[.int .i64 top] 3)).alloc (by simp) (.cells #[.int .i64 left] 3))
  have HV := Lib.hid (show GridB w.heap.size w v g from h)
  clear h
  have C := Lib.hid (fieldOf_yes v g ((w.alloc (.cells #[.int .i64 top] 3)).alloc (.cells #[.int .i64 left] 3)) ((HV.out.below B0.out (Nat.le_refl _)).grid (by simp; omega)) hg)
  have ct : ((w.alloc (.cells #[.int .i64 top] 3)).alloc (.cells #[.int .i64 left] 3)).cell? ⟨w.heap.size, 0, none⟩ = some (.int .i64 top) := by
    simp
  have cl : ((w.alloc (.cells #[.int .i64 top] 3)).alloc (.cells #[.int .i64 left] 3)).cell? ⟨w.heap.size + 1, 0, none⟩ = some (.int .i64 left) := by
    rw [World.cell?_alloc_at _ _ _ _ (by simp)]; rfl
  have hgl := hg.1
  have hgl2 := hg.2.1
  have hca := hg.2.2.1
  have hca2 := hg.2.2.2.1
  have HG := Lib.hid hg
  have t1 : ¬ (bottom : Int) < (top : Int) := by omega
  have t2 : ¬ (right : Int) < (left : Int) := by omega
  have CT := Lib.hid ct
  have CL := Lib.hid cl
  have z0 : ((w.alloc (.cells #[.int .i64 top] 3)).alloc (.cells #[.int .i64 left] 3)).heap.size = w.heap.size + 2 := by simp
  clear hg ct cl HV
  go_enter Try.func44, Try.ntmps44
  go_wp2_with fail
  refine C.out.mono ?_
  rintro e w1 ⟨a, rfl, hA, hra, hbel⟩
  have hz := hbel.size
  rw [z0] at hz hA hbel
  have ct1 := (hbel.cell (p := ⟨w.heap.size, 0, none⟩) (by show w.heap.size < _; omega)).trans CT.out
  have cl1 := (hbel.cell (p := ⟨w.heap.size + 1, 0, none⟩) (by show w.heap.size + 1 < _; omega)).trans CL.out
  have ra := hra.alloc (.cells #[.int .i64 g.length, .int .i64 (colsOf g), .slice (some ⟨a, 0, none⟩) (g.length * colsOf g) (g.length * colsOf g)] 61)
  have HB := Lib.hid ((B0.out.trans (hbel.mono (by omega))).alloc (by omega) (.cells #[.int .i64 g.length, .int .i64 (colsOf g), .slice (some ⟨a, 0, none⟩) (g.length * colsOf g) (g.length * colsOf g)] 61))
  have b1 := Box3.row (field_row w1 (.int .i64 g.length) (.int .i64 (colsOf g)) (.slice (some ⟨a, 0, none⟩) (g.length * colsOf g) (g.length * colsOf g)))
  have RA := Lib.hid ra
  have BX := Lib.hid b1
  obtain ⟨k0, k1, k2⟩ := b1
  have ct2 : (w1.alloc (.cells #[.int .i64 g.length, .int .i64 (colsOf g), .slice (some ⟨a, 0, none⟩) (g.length * colsOf g) (g.length * colsOf g)] 61)).cell? ⟨w.heap.size, 0, none⟩ = some (.int .i64 top) := (World.cell?_alloc_past _ _ _ (by omega)).trans ct1
  have cl2 : (w1.alloc (.cells #[.int .i64 g.length, .int .i64 (colsOf g), .slice (some ⟨a, 0, none⟩) (g.length * colsOf g) (g.length * colsOf g)] 61)).cell? ⟨w.heap.size + 1, 0, none⟩ = some (.int .i64 left) := (World.cell?_alloc_past _ _ _ (by omega)).trans cl1
  have CT2 := Lib.hid ct2
  have CL2 := Lib.hid cl2
  clear hra hbel ra C hA ct1 cl1 B0
  go_wp2_with fail
  refine (has_yes g.length (colsOf g) _ top left _ (by omega) (by omega)).mono ?_
  rintro e w2 ⟨rfl, hb2⟩
  have z2 := hb2.size
  rw [World.size_alloc] at z2
  have k0' := (hb2.cell (p := ⟨w1.heap.size, 0, none⟩) (by simp)).trans k0
  have k1' := (hb2.cell (p := ⟨w1.heap.size, 1, none⟩) (by simp)).trans k1
  have k2' := (hb2.cell (p := ⟨w1.heap.size, 2, none⟩) (by simp)).trans k2
  have HB2 := Lib.hid (HB.out.trans (hb2.mono (by simp; omega)))
  have BX2 := Lib.hid (BX.out.block (hb2.block w1.heap.size (by simp)))
  have RA2 := Lib.hid (RA.out.of_block (hb2.block _ RA.out.lt))
  have CT3 := Lib.hid ((hb2.cell (p := ⟨w.heap.size, 0, none⟩) (by simp; omega)).trans CT2.out)
  have CL3 := Lib.hid ((hb2.cell (p := ⟨w.heap.size + 1, 0, none⟩) (by simp; omega)).trans CL2.out)
  clear hb2 k0 k1 k2 BX RA CT2 CL2 HB ct2 cl2
  go_wp2_with fail
  refine (has_yes g.length (colsOf g) _ bottom right _ (by omega) (by omega)).mono ?_
  rintro e w3 ⟨rfl, hb3⟩
  have z3 := hb3.size
  have hF : w1.heap.size < w2.heap.size := by omega
  have HB3 := Lib.hid (HB2.out.trans (hb3.mono (by omega)))
  have BX3 := Lib.hid (BX2.out.block (hb3.block w1.heap.size hF))
  have RA3 := Lib.hid (RA2.out.of_block (hb3.block _ RA2.out.lt))
  have ct := (hb3.cell (p := ⟨w.heap.size, 0, none⟩) (by show w.heap.size < _; omega)).trans CT3.out
  have cl := (hb3.cell (p := ⟨w.heap.size + 1, 0, none⟩) (by show w.heap.size + 1 < _; omega)).trans CL3.out
  have CT4 := Lib.hid ct
  have CL4 := Lib.hid cl
  clear hb3 k0' k1' k2' BX2 RA2 CT3 CL3 HB2
  obtain ⟨r, hr⟩ : ∃ r, r = bottom - top + 1 := ⟨_, rfl⟩
  obtain ⟨c, hc⟩ : ∃ c, c = right - left + 1 := ⟨_, rfl⟩
  have e1 : (bottom : Int) - (top : Int) + 1 = (r : Int) := by omega
  have e2 : (right : Int) - (left : Int) + 1 = (c : Int) := by omega
  have w1' := wrap_small (x := (bottom : Int) - (top : Int)) (by omega) (by omega)
  have w2' := wrap_small (x := (bottom : Int) - (top : Int) + 1) (by omega) (by omega)
  have w3' := wrap_small (x := (right : Int) - (left : Int)) (by omega) (by omega)
  have w4' := wrap_small (x := (right : Int) - (left : Int) + 1) (by omega) (by omega)
  obtain ⟨F, hFe⟩ : ∃ F, F = w1.heap.size := ⟨_, rfl⟩
  rw [← hFe] at BX3 hF ⊢
  have CM := Lib.hid (made_part F w.heap.size (w.heap.size + 1) r c (hP g top left) w3 (by omega) (by omega) (by omega) (by omega) (fun W i j hW hi hj => partCl_any g F w.heap.size (w.heap.size + 1) a i j top left W HG.out (BX3.out.block (hW.block F (by omega))) ((hW.cell (p := ⟨w.heap.size, 0, none⟩) (by show w.heap.size < _; omega)).trans CT4.out) ((hW.cell (p := ⟨w.heap.size + 1, 0, none⟩) (by show w.heap.size + 1 < _; omega)).trans CL4.out) (RA3.out.of_block (hW.block a RA3.out.lt)) (by omega) (by omega))
    (fun i j hi hj => HG.out.cell (by omega) (by omega)))
  have HR := Lib.hid hr
  have HC := Lib.hid hc
  clear hr hc hFe
  have hw3 : w.heap.size ≤ w3.heap.size := HB3.out.size
  go_wp2_with fail
  refine CM.out.mono ?_
  rintro e w5 ⟨v, rfl, hO, hb5⟩
  have HO := Lib.hid hO
  have HB5 := Lib.hid (HB3.out.trans (hb5.mono hw3))
  clear hO hb5
  go_wp2
  go_ret2
  exact ⟨v, rfl, by rw [← HR.out, ← HC.out]; exact HO.out.mono hw3 (Nat.le_refl _), HB5.out⟩
end Go.Proofs.Ytebhbcjioolpeaa
