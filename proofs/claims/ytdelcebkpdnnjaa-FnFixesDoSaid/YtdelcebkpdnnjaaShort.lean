/-
  FixesShort, the program's and the reference's. No condition but that the slices read as the lists.
-/
import Derived.Test.YtdelcebkpdnnjaaSpecDo
namespace Go.Proofs.Ytdelcebkpdnnjaa
open Go.RowKit Go.Deep Go.Sort BigFrame

def shortOf (g : Rows) (l : List Quad) : List Quad := if EdOk g l then diffsOf g (edition g l) else []
theorem shortOf_yes {g : Rows} {l : List Quad} (h : EdOk g l) : shortOf g l = diffsOf g (edition g l) := if_pos h
theorem shortOf_no {g : Rows} {l : List Quad} (h : ¬ EdOk g l) : shortOf g l = [] := if_neg h
theorem shortOf_len (g : Rows) (l : List Quad) : (shortOf g l).length ≤ 1099511627776 := by
  by_cases h : EdOk g l
  · rw [shortOf_yes h]
    have h1 := diffs_len g (edition g l) g.length
    have h2 := small_cells h.1
    unfold diffsOf
    omega
  · rw [shortOf_no h]; simp

set_option maxHeartbeats 1000000 in
set_option maxRecDepth 100000 in
theorem FixesShort_any (vg vl : Value) (g : Rows) (l : List Quad) (w : World) (hG : Grid w vg g) (hL : Quads w vl l) :
    Calls Try.prog 40 #[vg, vl] w fun e w' => ∃ v, e = .returned (.tuple #[v, .bool (decide (EdOk g l))]) ∧ OwnQ w.heap.size w'.heap.size w' v (shortOf g l) ∧ Below w.heap.size w w' := by
  by_cases h : EdOk g l
  · have C := Lib.hid (editions_yes vg vl g l w hG hL h)
    have HLK := Lib.hid h.like
    have HG := Lib.hid h.grid
    rw [decide_eq_true h, shortOf_yes h]
    clear hG hL h
    go_enter Try.func40, Try.ntmps40
    go_wp2_with fail
    refine C.out.mono ?_
    rintro e w1 ⟨a, b, cap, m, f, rfl, _, _, hra, hrow, hfo, hb⟩
    have hz := hb.size
    have HR := Lib.hid ((hrow.alloc (.cells #[.int .i64 g.length, .int .i64 (colsOf g), .slice (some ⟨a, 0, none⟩) (g.length * colsOf g) (g.length * colsOf g)] 64)).alloc (.cells #[.int .i64 g.length, .int .i64 (colsOf g), .slice (some ⟨b, 0, none⟩) (g.length * colsOf g) cap] 64))
    have HA := Lib.hid ((hra.alloc (.cells #[.int .i64 g.length, .int .i64 (colsOf g), .slice (some ⟨a, 0, none⟩) (g.length * colsOf g) (g.length * colsOf g)] 64)).alloc (.cells #[.int .i64 g.length, .int .i64 (colsOf g), .slice (some ⟨b, 0, none⟩) (g.length * colsOf g) cap] 64))
    have HB := Lib.hid ((hb.alloc hb.size (.cells #[.int .i64 g.length, .int .i64 (colsOf g), .slice (some ⟨a, 0, none⟩) (g.length * colsOf g) (g.length * colsOf g)] 64)).alloc (by simp; omega) (.cells #[.int .i64 g.length, .int .i64 (colsOf g), .slice (some ⟨b, 0, none⟩) (g.length * colsOf g) cap] 64))
    have HF : Hid (FldOk ((edition g l).length * colsOf (edition g l)) cap m f (cellOf (edition g l))) := by show FldOk _ _ _ _ _; rw [HG.out.2.1, HG.out.2.2]; exact hfo
    have CB : Hid (∀ W, W.rowIs a 3 (g.length * colsOf g) (fun i => .int .i64 (cellOf g i)) → W.rowIs b 3 m f → Calls Try.prog 65 #[fv g.length (colsOf g) (.slice (some ⟨a, 0, none⟩) (g.length * colsOf g) (g.length * colsOf g)), fv g.length (colsOf g) (.slice (some ⟨b, 0, none⟩) (g.length * colsOf g) cap)] W fun e w' => ∃ v, e = .returned v ∧ w'.ownsRow (W.heap.size + 2) 41 4 v (diffsOf g (edition g l)).length (flat (diffsOf g (edition g l))) ∧ Below W.heap.size W w') := fun W h1 h2 => by
      have := between_row g (edition g l) a b cap m f W HLK.out h1 h2 HF.out
      rw [HG.out.2.1, HG.out.2.2] at this
      exact this
    clear hrow hra hb hfo C
    go_wp2_with fail
    refine (CB.out _ HA.out HR.out).mono ?_
    rintro e w2 ⟨v, rfl, hO, hb2⟩
    have HO := Lib.hid hO
    have HB2 := Lib.hid (HB.out.trans (hb2.mono (by simp; omega)))
    obtain ⟨va', vc', rfl⟩ := ownsRow_slice hO
    clear hO hb2
    go_wp2
    go_ret2
    exact ⟨_, rfl, (ownQ_of_ownsRow HO.out (Nat.le_refl _)).mono (by simp; omega) (Nat.le_refl _), HB2.out⟩
  · have C := Lib.hid (editions_no vg vl g l w hG hL h)
    rw [decide_eq_false h, shortOf_no h]
    clear hG hL h
    go_enter Try.func40, Try.ntmps40
    go_wp2_with fail
    refine C.out.mono ?_
    rintro e w1 ⟨rfl, hb⟩
    go_wp2
    go_ret2
    exact ⟨_, rfl, .inl ⟨rfl, none, 0, rfl, by omega⟩, (hb.alloc hb.size _).alloc (by have := hb.size; simp; omega) _⟩

set_option maxHeartbeats 1000000 in
set_option maxRecDepth 100000 in
theorem specFixesShort_any (vg vl : Value) (g : Rows) (l : List Quad) (w : World) (hG : Grid w vg g) (hL : Quads w vl l) :
    Calls Try.prog 90 #[vg, vl] w fun e w' => ∃ v, e = .returned (.tuple #[v, .bool (decide (EdOk g l))]) ∧ OwnQ w.heap.size w'.heap.size w' v (shortOf g l) ∧ Below w.heap.size w w' := by
  have C := Lib.hid (specFixesDo_any vg vl g l w hG hL)
  have HG := Lib.hid (show GridB w.heap.size w vg g from hG)
  by_cases h : EdOk g l
  · have HLK := Lib.hid h.like
    rw [decide_eq_true h, edAll_yes h] at C
    rw [decide_eq_true h, shortOf_yes h]
    clear hG hL h
    go_enter Try.func90, Try.ntmps90
    go_wp2_with fail
    refine C.out.mono ?_
    rintro e w1 ⟨x, rfl, hO, hb⟩
    have z1 := hb.size
    have HB := Lib.hid hb
    have HO := Lib.hid hO
    have CM := Lib.hid (specFixesMake_any vg x g (edition g l) w1 ((HG.out.below hb (Nat.le_refl _)).grid z1) (hO.grid (Nat.le_refl _)))
    rw [decide_eq_true HLK.out, makeOf_yes HLK.out] at CM
    clear hb hO C
    go_wp2_with fail
    refine CM.out.mono ?_
    rintro e w2 ⟨v, rfl, hQ, hb2⟩
    have HQ := Lib.hid hQ
    have HB2 := Lib.hid (HB.out.trans (hb2.mono z1))
    obtain ⟨va', vc', rfl, _⟩ := hQ.quads
    clear hQ hb2
    go_wp2
    go_ret2
    exact ⟨_, rfl, HQ.out.mono z1 (Nat.le_refl _), HB2.out⟩
  · rw [decide_eq_false h, edAll_no h] at C
    rw [decide_eq_false h, shortOf_no h]
    clear hG hL h
    go_enter Try.func90, Try.ntmps90
    go_wp2_with fail
    refine C.out.mono ?_
    rintro e w1 ⟨x, rfl, hO, hb⟩
    go_wp2
    go_ret2
    exact ⟨_, rfl, .inl ⟨rfl, _, _, rfl, by omega⟩, hb.alloc hb.size _⟩
end Go.Proofs.Ytdelcebkpdnnjaa
