/-
  Plain laws of corrections: what one can do to a grid, one after the other.
-/
import Derived.Test.YtdelcebkpdnnjaaFar
import Derived.Test.YtdelcebkpdnnjaaMend
namespace Go.Proofs.Ytdelcebkpdnnjaa
open Go.RowKit Go.Deep Go.Sort

/-- the height of a cell -/
abbrev at2 (g : Rows) (r c : Nat) : Int := (g[r]?.getD [])[c]?.getD 0
/-- whether a correction can be done -/
def Can (g : Rows) (f : Quad) : Prop := 0 ≤ f.1 ∧ f.1 < (g.length : Int) ∧ 0 ≤ f.2.1 ∧ f.2.1 < (colsOf g : Int) ∧ at2 g f.1.toNat f.2.1.toNat = f.2.2.1 ∧ 0 ≤ f.2.2.2 ∧ f.2.2.2 ≤ 99 ∧ f.2.2.2 ≠ f.2.2.1
instance (g : Rows) (f : Quad) : Decidable (Can g f) := by unfold Can; infer_instance
/-- the grid with one correction -/
def put (g : Rows) (f : Quad) : Rows := g.set f.1.toNat ((g[f.1.toNat]?.getD []).set f.2.1.toNat f.2.2.2)
/-- the grid with the first k corrections -/
def doneUp (g : Rows) (l : List Quad) (k : Nat) : Rows := (l.take k).foldl put g
def CanUp (g : Rows) (l : List Quad) (k : Nat) : Prop := ∀ j, j < k → Can (doneUp g l j) (l[j]?.getD q0)
instance (g : Rows) (l : List Quad) (k : Nat) : Decidable (CanUp g l k) := by unfold CanUp; infer_instance
/-- the corrections are corrections of the grid -/
def EdOk (g : Rows) (l : List Quad) : Prop := GridOk g ∧ l.length ≤ 60 ∧ CanUp g l l.length
instance (g : Rows) (l : List Quad) : Decidable (EdOk g l) := by unfold EdOk; infer_instance
/-- the edition -/
def edition (g : Rows) (l : List Quad) : Rows := doneUp g l l.length
def edAll (g : Rows) (l : List Quad) : Rows := if EdOk g l then edition g l else []
theorem edAll_yes {g : Rows} {l : List Quad} (h : EdOk g l) : edAll g l = edition g l := if_pos h
theorem edAll_no {g : Rows} {l : List Quad} (h : ¬ EdOk g l) : edAll g l = [] := if_neg h

theorem put_len (g : Rows) (f : Quad) : (put g f).length = g.length := by simp [put]
theorem put_row {g : Rows} {f : Quad} {i : Nat} : ((put g f)[i]?.getD []).length = (g[i]?.getD []).length := by
  by_cases h : f.1.toNat < g.length
  · unfold put
    rw [setR_get h]
    by_cases e : i = f.1.toNat
    · rw [if_pos e, e]; simp
    · rw [if_neg e]
  · unfold put
    rw [List.set_eq_of_length_le (by omega)]
theorem put_cols (g : Rows) (f : Quad) : colsOf (put g f) = colsOf g := put_row
theorem put_at {g : Rows} {f : Quad} (h : GridOk g) (hc : Can g f) {i j : Nat} (_hi : i < g.length) (_hj : j < colsOf g) :
    at2 (put g f) i j = if i = f.1.toNat ∧ j = f.2.1.toNat then f.2.2.2 else at2 g i j := by
  obtain ⟨h1, h2, h3, h4, h5, h6⟩ := hc
  have hr : f.1.toNat < g.length := by omega
  have hl := (h.2.2.2.2 _ hr).1
  unfold at2 put
  rw [setR_get hr]
  by_cases e : i = f.1.toNat
  · rw [if_pos e, setI_get (by omega)]
    by_cases e2 : j = f.2.1.toNat
    · simp [e, e2]
    · simp [e, e2]
  · simp [e]
theorem put_ok {g : Rows} {f : Quad} (h : GridOk g) (hc : Can g f) : GridOk (put g f) := by
  refine ⟨by rw [put_len]; exact h.1, by rw [put_len]; exact h.2.1, by rw [put_cols]; exact h.2.2.1, by rw [put_cols]; exact h.2.2.2.1, fun i hi => ?_⟩
  rw [put_len] at hi
  rw [put_cols]
  have hl := (h.2.2.2.2 i hi).1
  refine ⟨by rw [put_row]; exact hl, fun j hj => ?_⟩
  rw [put_row, hl] at hj
  have := put_at h hc hi hj
  unfold at2 at this
  rw [this]
  split
  · exact ⟨hc.2.2.2.2.2.1, hc.2.2.2.2.2.2.1⟩
  · exact h.cell hi hj
theorem doneUp_zero (g : Rows) (l : List Quad) : doneUp g l 0 = g := by simp [doneUp]
theorem doneUp_succ {g : Rows} {l : List Quad} {k : Nat} (h : k < l.length) : doneUp g l (k + 1) = put (doneUp g l k) (l[k]?.getD q0) := by
  unfold doneUp
  rw [List.take_succ_eq_append_getElem h, List.foldl_append]
  simp [h]
theorem CanUp.less {g : Rows} {l : List Quad} {k m : Nat} (h : CanUp g l k) (hm : m ≤ k) : CanUp g l m := fun j hj => h j (by omega)
theorem canUp_succ {g : Rows} {l : List Quad} {k : Nat} (h : CanUp g l k) (hc : Can (doneUp g l k) (l[k]?.getD q0)) : CanUp g l (k + 1) := fun j hj => by
  by_cases e : j = k
  · subst e; exact hc
  · exact h j (by omega)
theorem doneUp_grid {g : Rows} {l : List Quad} (hg : GridOk g) : ∀ k, k ≤ l.length → CanUp g l k → GridOk (doneUp g l k) ∧ (doneUp g l k).length = g.length ∧ colsOf (doneUp g l k) = colsOf g := by
  intro k
  induction k with
  | zero => intro _ _; rw [doneUp_zero]; exact ⟨hg, rfl, rfl⟩
  | succ k ih =>
    intro hk hc
    obtain ⟨i1, i2, i3⟩ := ih (by omega) (hc.less (by omega))
    rw [doneUp_succ (by omega)]
    exact ⟨put_ok i1 (hc k (by omega)), by rw [put_len]; exact i2, by rw [put_cols]; exact i3⟩
theorem EdOk.grid {g : Rows} {l : List Quad} (h : EdOk g l) : GridOk (edition g l) ∧ (edition g l).length = g.length ∧ colsOf (edition g l) = colsOf g := doneUp_grid h.1 _ (Nat.le_refl _) h.2.2
theorem EdOk.like {g : Rows} {l : List Quad} (h : EdOk g l) : Like g (edition g l) := ⟨⟨h.1, h.grid.1, h.grid.2.1.symm⟩, h.grid.2.2.symm⟩
/-- a cell of the flat row of a corrected grid -/
theorem put_cell {g : Rows} {f : Quad} (h : GridOk g) (hc : Can g f) {n : Nat} (hn : n < g.length * colsOf g) :
    cellOf (put g f) n = if n = f.1.toNat * colsOf g + f.2.1.toNat then f.2.2.2 else cellOf g n := by
  have c0 : 0 < colsOf g := h.2.2.1
  have hi : n / colsOf g < g.length := Nat.div_lt_of_lt_mul (by rw [Nat.mul_comm]; exact hn)
  have hj : n % colsOf g < colsOf g := Nat.mod_lt _ c0
  have := put_at h hc hi hj
  unfold cellOf
  rw [put_cols]
  unfold at2 at this
  rw [this]
  have hc2 : f.2.1.toNat < colsOf g := by have := hc.2.2.2.1; have := hc.2.2.1; omega
  by_cases e : n = f.1.toNat * colsOf g + f.2.1.toNat
  · rw [if_pos e, if_pos]
    rw [e]
    exact ⟨div_row hc2, mod_row hc2⟩
  · rw [if_neg e, if_neg]
    rintro ⟨e1, e2⟩
    apply e
    rw [← e1, ← e2, Nat.mul_comm]
    exact (Nat.div_add_mod _ _).symm
theorem edAll_small (g : Rows) (l : List Quad) : (edAll g l).length ≤ 1048576 ∧ ∀ j, j < (edAll g l).length → ((edAll g l)[j]?.getD []).length ≤ 1048576 := by
  by_cases h : EdOk g l
  · rw [edAll_yes h]
    have hg := h.grid.1
    refine ⟨by have := hg.2.1; omega, fun j hj => ?_⟩
    have := (hg.2.2.2.2 j hj).1
    have := hg.2.2.2.1
    omega
  · rw [edAll_no h]; simp
end Go.Proofs.Ytdelcebkpdnnjaa
