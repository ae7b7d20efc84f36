/-
  FixesCells, the program's. No condition but that the slices read as the lists.
-/
import Derived.Test.YtdelcebkpdnnjaaSorted
import Derived.Test.YtdelcebkpdnnjaaAt
import Derived.Test.YtdelcebkpdnnjaaSome
namespace Go.Proofs.Ytdelcebkpdnnjaa
open Go.RowKit Go.Deep Go.Sort

/-- a correction's cell's number -/
def idxQ (c : Nat) (q : Quad) : Int := q.1 * (c : Int) + q.2.1
def cellsOut (g : Rows) (l : List Quad) : List Int := if EdOk g l then cellsL (l.map (idxQ (colsOf g))) else []
theorem cellsOut_yes {g : Rows} {l : List Quad} (h : EdOk g l) : cellsOut g l = cellsL (l.map (idxQ (colsOf g))) := if_pos h
theorem cellsOut_no {g : Rows} {l : List Quad} (h : ¬ EdOk g l) : cellsOut g l = [] := if_neg h
theorem ownsRow_ne {w : World} {base n size : Nat} {e : TypeId} {v : Value} {xs : List Value} (h : w.ownsRow base e size v n xs) (hn : 0 < n) : v ≠ .slice none 0 0 := by
  rintro rfl
  rcases h.2 with ⟨_, h0⟩ | ⟨g, cap, cur, e, _⟩
  · omega
  · cases e
theorem idx_up {l : List Quad} {c k : Nat} (h : k < l.length) : (l.take (k + 1)).map (idxQ c) = (l.take k).map (idxQ c) ++ [idxQ c (l[k]?.getD q0)] := by
  rw [List.take_add_one, List.map_append, List.getElem?_eq_getElem h]; rfl

set_option maxHeartbeats 2000000 in
set_option maxRecDepth 100000 in
theorem FixesCells_any (vg vl : Value) (g : Rows) (l : List Quad) (w : World) (hG : Grid w vg g) (hL : Quads w vl l) :
    Calls Try.prog 10 #[vg, vl] w fun e w' => ∃ v, e = .returned v ∧ Own w.heap.size w'.heap.size w' v (cellsOut g l) ∧ Below w.heap.size w w' := by
  by_cases h : EdOk g l
  · have CE := Lib.hid (editions_yes vg vl g l w hG hL h)
    have HL := Lib.hid hL.quadsB
    obtain ⟨la, lc, rfl, q1, q2, q3⟩ := hL
    have HQ := Lib.hid q3
    have hl60 := h.2.1
    have hgl := h.1.2.1
    have hca := h.1.2.2.2.1
    have HE := Lib.hid h
    have HIN : Hid (∀ k, k < l.length → ∃ i j : Nat, (l[k]?.getD q0).1 = (i : Int) ∧ (l[k]?.getD q0).2.1 = (j : Int) ∧ i < g.length ∧ j < colsOf g) := by
      show ∀ k, _
      intro k hk
      have cn := h.2.2 k hk
      have d := doneUp_grid h.1 k (by omega) (h.2.2.less (by omega))
      have a1 := cn.1
      have a2 := cn.2.1
      have a3 := cn.2.2.1
      have a4 := cn.2.2.2.1
      rw [d.2.1] at a2
      rw [d.2.2] at a4
      exact ⟨(l[k]?.getD q0).1.toNat, (l[k]?.getD q0).2.1.toNat, by omega, by omega, by omega, by omega⟩
    rw [cellsOut_yes h]
    clear hG q3 h
    go_enter Try.func10, Try.ntmps10
    go_wp2_with fail
    refine CE.out.mono ?_
    rintro e w1 ⟨a, b, cap, m, f, rfl, _, _, hra, hrow, hfo, hb⟩
    have hz := hb.size
    have HB := Lib.hid ((hb.alloc hb.size (.cells #[.int .i64 g.length, .int .i64 (colsOf g), .slice (some ⟨a, 0, none⟩) (g.length * colsOf g) (g.length * colsOf g)] 64)).alloc (by simp; omega) (.cells #[.int .i64 g.length, .int .i64 (colsOf g), .slice (some ⟨b, 0, none⟩) (g.length * colsOf g) cap] 64))
    have BX := Lib.hid (Box3.block (Box3.row (field_row w1 (.int .i64 g.length) (.int .i64 (colsOf g)) (.slice (some ⟨a, 0, none⟩) (g.length * colsOf g) (g.length * colsOf g)))) (Below.heap_alloc (w1.alloc (.cells #[.int .i64 g.length, .int .i64 (colsOf g), .slice (some ⟨a, 0, none⟩) (g.length * colsOf g) (g.length * colsOf g)] 64)) (.cells #[.int .i64 g.length, .int .i64 (colsOf g), .slice (some ⟨b, 0, none⟩) (g.length * colsOf g) cap] 64) w1.heap.size (by simp)))
    clear hra hrow hfo hb CE
    obtain ⟨w0, hw0⟩ : ∃ w0, w0 = (w1.alloc (.cells #[.int .i64 g.length, .int .i64 (colsOf g), .slice (some ⟨a, 0, none⟩) (g.length * colsOf g) (g.length * colsOf g)] 64)).alloc (.cells #[.int .i64 g.length, .int .i64 (colsOf g), .slice (some ⟨b, 0, none⟩) (g.length * colsOf g) cap] 64) := ⟨_, rfl⟩
    have hzw0 : w0.heap.size = w1.heap.size + 2 := by rw [hw0]; simp
    have HW0 := Lib.hid hw0
    rw [← hw0] at HB BX
    clear hw0
    have hFw : w1.heap.size < w0.heap.size := by omega
    obtain ⟨F, hF⟩ : ∃ F, F = w1.heap.size := ⟨_, rfl⟩
    go_wp2_with fail
    rw [← HW0.out]
    rw [← hF] at BX hFw ⊢
    have hz2 : w0.heap.size = F + 1 + 1 := by omega
    clear hF hzw0
    have hz0 : w.heap.size ≤ w0.heap.size := HB.out.size
    have HM : Hid ((w0.alloc (.cells #[] 3)).ownsRow w0.heap.size 3 1 (.slice (some ⟨F + 1 + 1, 0, none⟩) 0 0) 0 []) := by
      show World.ownsRow _ _ _ _ _ _ _
      rw [← hz2]
      exact World.ownsRow_made w0 #[] 0 (Nat.le_refl _) (by decide) rfl
    clear hz2
    go_loopw [8, 10, 23] (fun v _ s wr => ∃ k : Nat, k ≤ l.length ∧ s = .int .i64 k ∧ v ≠ .slice none 0 0 ∧ wr.ownsRow w0.heap.size 3 1 v ((l.take k).map (idxQ (colsOf g))).length (((l.take k).map (idxQ (colsOf g))).map (Value.int .i64)) ∧ Below w0.heap.size w0 wr) (fun _ _ s _ => l.length - (intOf s).toNat)
    case atStart => exact ⟨0, Nat.zero_le _, rfl, (by simp), HM.out, (Below.refl _ _).alloc (Nat.le_refl _) _⟩
    case round =>
      obtain ⟨k, hk, rfl, hvn, hown, hbel⟩ := hrel
      have HO := Lib.hid hown
      have HBE := Lib.hid hbel
      have HVN := Lib.hid hvn
      have hzw := hbel.size
      by_cases hlt : k < l.length
      · obtain ⟨bb, off, hae, hbb, hq⟩ := HQ.out (by omega)
        subst hae
        obtain ⟨c0, c1, c2, c3⟩ := (hq k hlt).below (HB.out.trans (hbel.mono hz0)) hbb
        obtain ⟨i, j, ei, ej, hi, hj⟩ := HIN.out k hlt
        have HS := Lib.hid (idx_up (c := colsOf g) hlt)
        obtain ⟨x0, x1, x2, x3, hx⟩ : ∃ x0 x1 x2 x3, (x0, x1, x2, x3) = l[k]?.getD q0 := ⟨_, _, _, _, rfl⟩
        have hidx : idxQ (colsOf g) (l[k]?.getD q0) = ((i * colsOf g + j : Nat) : Int) := by unfold idxQ; rw [ei, ej]; simp
        rw [← hx] at c0 c1 c2 c3 ei ej
        dsimp only at c0 c1 c2 c3 ei ej
        subst ei ej
        obtain ⟨n, hn⟩ : ∃ n, n = i * colsOf g + j := ⟨_, rfl⟩
        rw [← hn] at hidx
        rw [hidx] at HS
        have HQB := Lib.hid (QBox_new wr ((i : Int), (j : Int), x2, x3) 41)
        have HBA := Lib.hid (HBE.out.alloc hzw (.cells #[.int .i64 (i : Int), .int .i64 (j : Int), .int .i64 x2, .int .i64 x3] 41))
        have HOA := Lib.hid (HO.out.alloc (.cells #[.int .i64 (i : Int), .int .i64 (j : Int), .int .i64 x2, .int .i64 x3] 41))
        obtain ⟨k0, k1, k2⟩ := BX.out.block (HBA.out.block F hFw)
        have CI : Hid (∀ W, Calls Try.prog 47 #[fv g.length (colsOf g) (.slice (some ⟨a, 0, none⟩) (g.length * colsOf g) (g.length * colsOf g)), .int .i64 i, .int .i64 j] W fun e w' => e = .returned (.int .i64 n) ∧ Below W.heap.size W w') := fun W => index_any g.length (colsOf g) i j n _ ⟨_, _, _, rfl⟩ W (by omega) (by omega) (by omega) hn
        obtain ⟨L, hL⟩ : ∃ L, L = (l.take k).map (idxQ (colsOf g)) := ⟨_, rfl⟩
        rw [← hL] at HO HOA HS
        have hLn : L.length ≤ 1000 := by rw [hL, List.length_map, List.length_take]; omega
        clear hq hx hbel hown hL hidx hn hvn
        go_wp2_with fail
        refine (CI.out _).mono ?_
        rintro e w5 ⟨rfl, hb5⟩
        have z5 := hb5.size
        simp only [World.size_alloc] at z5
        have HB5 := Lib.hid (HBA.out.trans (hb5.mono (by simp; omega)))
        have HO5 := Lib.hid (ownsRow_blk HOA.out (fun k e => hb5.block k (HOA.out.lt k e).2))
        have hzb : w0.heap.size ≤ (w5.alloc (.cells #[.int .i64 n] 3)).heap.size := by simp; omega
        have HO6 := Lib.hid (HO5.out.alloc (.cells #[.int .i64 (n : Int)] 3))
        have HB6 := Lib.hid (HB5.out.alloc (by omega) (.cells #[.int .i64 (n : Int)] 3))
        clear c0 c1 c2 c3 k0 k1 k2 hb5
        go_wp2_with (at_builtin; refine app_ints _ rfl _ _ rfl w0.heap.size _ L _ [(n : Int)] HO6.out (ints_single (by simp)) rfl rfl (by simp; omega) hzb ?_; intro v9 w9 hown9 hg9; have HO9 := Lib.hid hown9; have HB9 := Lib.hid (HB6.out.grown hg9 hzb (fun k e => (HO6.out.lt k e).1)); clear hown9 hg9)
        go_roundw
        case rel =>
          refine ⟨k + 1, by omega, by go_num, ownsRow_ne HO9.out (by simp), ?_, HB9.out⟩
          rw [HS.out]
          exact HO9.out
        case measure => simp [intOf]; omega
      · obtain rfl : k = l.length := by omega
        rw [List.take_length] at HO
        obtain ⟨L, hL⟩ : ∃ L, L = l.map (idxQ (colsOf g)) := ⟨_, rfl⟩
        rw [← hL] at HO
        have HLE := Lib.hid hL
        have hLn : L.length ≤ 1000 := by rw [hL, List.length_map]; omega
        clear hown hbel hvn hL
        go_wp2_with fail
        refine (sortI_any _ L w0.heap.size _ HO.out HVN.out hLn).mono ?_
        rintro e w6 ⟨rfl, hown6, hg6⟩
        have hl6 : (L.mergeSort fun x y => decide (x ≤ y)).length = L.length := List.length_mergeSort L
        have HB6 := Lib.hid (HBE.out.grown hg6 hzw (fun k e => (HO.out.lt k e).1))
        rw [← hl6] at hown6
        have HO6 := Lib.hid hown6
        clear hown6 hg6
        go_wp2_with fail
        refine (compactI_any _ _ w0.heap.size _ HO6.out HVN.out (by omega)).mono ?_
        rintro e w7 ⟨u, rfl, hown7, hg7⟩
        have HB7 := Lib.hid (HB6.out.grown hg7 HB6.out.size (fun k e => (HO6.out.lt k e).1))
        have HO7 := Lib.hid hown7
        clear hown7 hg7
        go_wp2_with fail
        go_ret
        exact ⟨u, rfl, by rw [← HLE.out]; exact (own_of_ownsRow HO7.out (Nat.le_refl _)).mono hz0 (Nat.le_refl _), HB.out.trans (HB7.out.mono hz0)⟩
  · have CE := Lib.hid (editions_no vg vl g l w hG hL h)
    rw [cellsOut_no h]
    clear hG hL h
    go_enter Try.func10, Try.ntmps10
    go_wp2_with fail
    refine CE.out.mono ?_
    rintro e w1 ⟨rfl, hb⟩
    go_wp2_with fail
    go_ret
    exact ⟨_, rfl, .inl ⟨rfl, none, 0, rfl, by omega⟩, (hb.alloc hb.size _).alloc (by have := hb.size; simp; omega) _⟩
end Go.Proofs.Ytdelcebkpdnnjaa
