/-
  The corrections that FixesMake makes lead from grid to grid. Plain.
-/
import Derived.Test.YtdelcebkpdnnjaaSplit
import Derived.Test.YtdelcebkpdnnjaaFar
namespace Go.Proofs.Ytdelcebkpdnnjaa
open Go.RowKit Go.Deep

/-- corrections that can be done one after the other -/
def CanL : Rows → List Quad → Prop
  | _, [] => True
  | g, f :: fs => Can g f ∧ CanL (put g f) fs
theorem canL_app : ∀ (a b : List Quad) (g : Rows), CanL g (a ++ b) ↔ CanL g a ∧ CanL (a.foldl put g) b
  | [], b, g => by simp [CanL]
  | f :: a, b, g => by simp only [List.cons_append, CanL, List.foldl_cons]; rw [canL_app a b (put g f), and_assoc]
theorem canL_up : ∀ (l : List Quad) (g : Rows), CanL g l → CanUp g l l.length
  | [], _, _ => fun j hj => absurd hj (by simp)
  | f :: l, g, h => by
    intro j hj
    have ih := canL_up l (put g f) h.2
    cases j with
    | zero => exact h.1
    | succ j =>
      have h1 := ih j (by simpa using hj)
      have e : doneUp g (f :: l) (j + 1) = doneUp (put g f) l j := rfl
      rw [e]
      simpa using h1
theorem canUp_L : ∀ (l : List Quad) (g : Rows), CanUp g l l.length → CanL g l
  | [], _, _ => trivial
  | f :: l, g, h => by
    refine ⟨h 0 (by simp), canUp_L l (put g f) fun j hj => ?_⟩
    have h1 := h (j + 1) (by simpa using hj)
    have e : doneUp g (f :: l) (j + 1) = doneUp (put g f) l j := rfl
    rw [e] at h1
    simpa using h1
theorem edition_fold (g : Rows) (l : List Quad) : edition g l = l.foldl put g := by unfold edition doneUp; rw [List.take_length]

/-- the first rows and cells are the second grid's, the rest are the first one's -/
def Mix (M ga gb : Rows) (r c : Nat) : Prop := GridOk M ∧ M.length = ga.length ∧ colsOf M = colsOf ga ∧ ∀ i j, i < ga.length → j < colsOf ga → at2 M i j = if i < r ∨ i = r ∧ j < c then at2 gb i j else at2 ga i j
theorem at2_small {g : Rows} (h : GridOk g) {i j : Nat} (hi : i < g.length) (hj : j < colsOf g) : 0 ≤ at2 g i j ∧ at2 g i j ≤ 99 := by
  have := h.2.2.2.2 i hi
  exact this.2 j (by rw [this.1]; exact hj)
theorem mix_row {M ga gb : Rows} {r : Nat} (h : Like ga gb) (hr : r < ga.length) (hM : Mix M ga gb r 0) : ∀ c, c ≤ colsOf ga → CanL M (rowDiff ga gb r c) ∧ Mix ((rowDiff ga gb r c).foldl put M) ga gb r c := by
  intro c
  induction c with
  | zero => intro _; exact ⟨trivial, hM⟩
  | succ c ih =>
    intro hc
    obtain ⟨i1, i2⟩ := ih (by omega)
    have hrb : r < gb.length := by have := h.1.2.2; omega
    by_cases e : (ga[r]?.getD [])[c]?.getD 0 = (gb[r]?.getD [])[c]?.getD 0
    · rw [rowDiff_same e]
      refine ⟨i1, i2.1, i2.2.1, i2.2.2.1, fun i j hi hj => ?_⟩
      rw [i2.2.2.2 i j hi hj]
      by_cases e1 : i < r ∨ i = r ∧ j < c
      · rw [if_pos e1, if_pos (by omega)]
      · rw [if_neg e1]
        by_cases e2 : i < r ∨ i = r ∧ j < c + 1
        · rw [if_pos e2]
          obtain ⟨rfl, rfl⟩ : i = r ∧ j = c := by omega
          exact e
        · rw [if_neg e2]
    · rw [rowDiff_other rfl rfl e, canL_app, List.foldl_append]
      generalize hK : (rowDiff ga gb r c).foldl put M = K at i2 ⊢
      have hb := at2_small h.1.2.1 hrb (show c < colsOf gb by rw [← h.2]; omega)
      have hcan : Can K ((r : Int), (c : Int), (ga[r]?.getD [])[c]?.getD 0, (gb[r]?.getD [])[c]?.getD 0) := by
        refine ⟨by simp, by simp; rw [i2.2.1]; exact hr, by simp, by simp; rw [i2.2.2.1]; omega, ?_, hb.1, hb.2, fun x => e x.symm⟩
        have := i2.2.2.2 r c hr (by omega)
        rw [if_neg (by omega)] at this
        exact this
      refine ⟨⟨i1, hcan, trivial⟩, ?_⟩
      show Mix (put K _) ga gb r (c + 1)
      refine ⟨put_ok i2.1 hcan, by rw [put_len]; exact i2.2.1, by rw [put_cols]; exact i2.2.2.1, fun i j hi hj => ?_⟩
      rw [put_at i2.1 hcan (by rw [i2.2.1]; exact hi) (by rw [i2.2.2.1]; exact hj), i2.2.2.2 i j hi hj]
      show (if i = r ∧ j = c then _ else _) = _
      by_cases e1 : i = r ∧ j = c
      · rw [if_pos e1, if_pos (by omega), e1.1, e1.2]
      · rw [if_neg e1]
        by_cases e2 : i < r ∨ i = r ∧ j < c
        · rw [if_pos e2, if_pos (by omega)]
        · rw [if_neg e2, if_neg (by omega)]
theorem mix_all {ga gb : Rows} (h : Like ga gb) : ∀ r, r ≤ ga.length → CanL ga (diffs ga gb r) ∧ Mix ((diffs ga gb r).foldl put ga) ga gb r 0 := by
  intro r
  induction r with
  | zero => intro _; exact ⟨trivial, h.1.1, rfl, rfl, fun i j _ _ => by rw [if_neg (by omega)]; rfl⟩
  | succ r ih =>
    intro hr
    obtain ⟨i1, i2⟩ := ih (by omega)
    rw [diffs_succ, canL_app, List.foldl_append]
    obtain ⟨j1, j2⟩ := mix_row h (by omega) i2 _ (Nat.le_refl _)
    refine ⟨⟨i1, j1⟩, j2.1, j2.2.1, j2.2.2.1, fun i j hi hj => ?_⟩
    rw [j2.2.2.2 i j hi hj]
    by_cases e : i < r ∨ i = r ∧ j < colsOf ga
    · rw [if_pos e, if_pos (by omega)]
    · rw [if_neg e, if_neg (by omega)]
theorem grid_ext {ga gb : Rows} (h : Like ga gb) (he : ∀ i j, i < ga.length → j < colsOf ga → at2 ga i j = at2 gb i j) : ga = gb := by
  refine rows_eq h.1.2.2 fun i hi => ?_
  have h1 := (h.1.1.2.2.2.2 i hi).1
  have h2 := (h.1.2.1.2.2.2.2 i (by have := h.1.2.2; omega)).1
  refine List.ext_getElem (by rw [h1, h2, h.2]) fun j hj hj2 => ?_
  have := he i j hi (by omega)
  simpa [at2, hj, hj2] using this
theorem make_ok {ga gb : Rows} (h : Like ga gb) : EdOk ga (diffsOf ga gb) ∧ edition ga (diffsOf ga gb) = gb := by
  obtain ⟨i1, i2⟩ := mix_all h ga.length (Nat.le_refl _)
  have hf := far_small h
  rw [farOf_yes h] at hf
  refine ⟨⟨h.1.1, by omega, canL_up _ _ i1⟩, ?_⟩
  rw [edition_fold]
  have hl : Like (List.foldl put ga (diffsOf ga gb)) gb := ⟨⟨i2.1, h.1.2.1, i2.2.1.trans h.1.2.2⟩, i2.2.2.1.trans h.2⟩
  refine grid_ext hl fun i j hi hj => ?_
  have e1 : i < ga.length := by rw [← i2.2.1]; exact hi
  have := i2.2.2.2 i j e1 (by rw [← i2.2.2.1]; exact hj)
  rw [if_pos (.inl e1)] at this
  exact this
theorem make_len {ga gb : Rows} (h : Like ga gb) : (diffsOf ga gb).length ≤ 49 := by
  have := far_small h
  rw [farOf_yes h] at this
  omega
theorem make_rise {g : Rows} {l : List Quad} (h : EdOk g l) : riseOf g (diffsOf g (edition g l)) = riseOf g l := by
  have m := make_ok h.like
  rw [rise_tot m.1, rise_tot h, m.2]
end Go.Proofs.Ytdelcebkpdnnjaa
