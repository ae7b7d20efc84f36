/-
  Corrections in two parts: the first ones, and the rest. Plain.
  The corrections that FixesMake makes lead from grid to grid. Plain.
  FixesBack, the program's and the reference's. No condition but that the slices read as the lists.
  FixesShort, the program's and the reference's. No condition but that the slices read as the lists.
  Corrections taken back, and short ones: what they lead to. Plain.
  FixesAt, the program's and the reference's. No condition but that the slices read as the lists.
  What clashing corrections and histories are. Plain.
  Short corrections are those that their edition makes. Plain.
  slices.SortFunc at corrections by byCell: byCell with its world said exactly, the order, the laying. No condition.
  Rows of corrections as the shelf's kit tells them: a store of one, a run of zeros, clear. No condition.
  slices.Compact at corrections: the library's two loops walked (turned from the shelf's proof at []int). Conditions: the row holds the list.
  slices.SortFunc at corrections by byCell, by the shelf's contract: a permutation, sorted by cell. Conditions: the row holds the list; small length.
  Contracts of slices.Grow and slices.Concat at corrections. Conditions: small lengths.
  The row of corrections behind a sort and a compaction: what turned, and that it is the call's own. No condition.
  Plain laws of two lists of corrections together: sorted and compacted they are the one ascending list of both lists' members. No condition.
  impl.FixesBoth where both lists are in order and none clash: the one ascending list of both's members. Conditions: at least one correction; small lengths.
  impl.FixesBoth where a list is not in order or both clash: none. No condition.
  Equal cells of two lists that are in order and do not clash are equal corrections. No condition.
  Plain laws of writes into a grid, whether or not the old height is said right. No condition.
  Both lists' members, in order, are the corrections from the grid to the grid with all of them. No condition.
  impl.FixesBoth at two empty lists. No condition.
  The grid with both lists' corrections is a grid of the same size. No condition.
  The reference's FixesBoth. No condition.
-/
import Derived.Test.YtdelcebkpdnnjaaFixI
import Derived.Test.YtdelcebkpdnnjaaFar
import Derived.Test.YtdelcebkpdnnjaaSeries
import Derived.Test.YtdelcebkpdnnjaaSpecDo
import Derived.Test.YtdelcebkpdnnjaaAre
import Derived.Test.YtdelcebkpdnnjaaClash
import Derived.Test.YtdelcebkpdnnjaaCmp
import Derived.Test.YtdelcebkpdnnjaaShelfQ
import Derived.Test.YtdelcebkpdnnjaaFixApp
import Derived.Test.YtdelcebkpdnnjaaMake2
import Derived.Sort.Grow
import Derived.Lib.SlicesCompact
import Derived.Lib.SliceRun
import Derived.Deep.LoopGhost
import Derived.Deep.RegionHeld3
import Derived.BigQuiet
import Derived.Shelf.SlSortCmp.WholeK
import Derived.Lib.AppendZeros
import Derived.StillTailTactics
import Derived.WalkSpells
import Derived.Shelf.SlSortCmp.NoneTotal
namespace Go.Proofs.Ytdelcebkpdnnjaa
open Go.RowKit Go.Deep

theorem doneUp_take {g : Rows} {l : List Quad} {k j : Nat} (h : j ≤ k) : doneUp g (l.take k) j = doneUp g l j := by unfold doneUp; rw [List.take_take, Nat.min_eq_left h]
theorem doneUp_drop {g : Rows} {l : List Quad} {k j : Nat} : doneUp (doneUp g l k) (l.drop k) j = doneUp g l (k + j) := by unfold doneUp; rw [← List.foldl_append, ← List.take_add]
theorem getQ_take {l : List Quad} {k j : Nat} (h : j < k) : (l.take k)[j]?.getD q0 = l[j]?.getD q0 := by rw [List.getElem?_take_of_lt h]
theorem getQ_drop {l : List Quad} {k j : Nat} : (l.drop k)[j]?.getD q0 = l[k + j]?.getD q0 := by rw [List.getElem?_drop]
theorem EdOk.take {g : Rows} {l : List Quad} (h : EdOk g l) {k : Nat} (hk : k ≤ l.length) : EdOk g (l.take k) := by
  have e : (l.take k).length = k := by rw [List.length_take]; omega
  refine ⟨h.1, by rw [e]; have := h.2.1; omega, fun j hj => ?_⟩
  rw [e] at hj
  rw [doneUp_take (by omega), getQ_take hj]
  exact h.2.2 j (by omega)
theorem EdOk.drop {g : Rows} {l : List Quad} (h : EdOk g l) {k : Nat} (hk : k ≤ l.length) : EdOk (doneUp g l k) (l.drop k) := by
  have e : (l.drop k).length = l.length - k := by rw [List.length_drop]
  refine ⟨(doneUp_grid h.1 k hk (h.2.2.less hk)).1, by rw [e]; have := h.2.1; omega, fun j hj => ?_⟩
  rw [e] at hj
  rw [doneUp_drop, getQ_drop]
  exact h.2.2 (k + j) (by omega)
theorem edition_take {g : Rows} {l : List Quad} {k : Nat} (hk : k ≤ l.length) : edition g (l.take k) = doneUp g l k := by
  have e : (l.take k).length = k := by rw [List.length_take]; omega
  unfold edition; rw [e, doneUp_take (Nat.le_refl _)]
theorem edition_drop {g : Rows} {l : List Quad} {k : Nat} (hk : k ≤ l.length) : edition (doneUp g l k) (l.drop k) = edition g l := by
  have e : (l.drop k).length = l.length - k := by rw [List.length_drop]
  unfold edition; rw [doneUp_drop, e]; congr 1; omega
theorem riseUp_take {l : List Quad} {k : Nat} : ∀ j, j ≤ k → riseUp (l.take k) j = riseUp l j := by
  intro j
  induction j with
  | zero => intro _; rfl
  | succ m ih => intro h; unfold riseUp; rw [ih (by omega), getQ_take (by omega)]
theorem riseUp_drop {l : List Quad} {k : Nat} : ∀ j, riseUp l k + riseUp (l.drop k) j = riseUp l (k + j) := by
  intro j
  induction j with
  | zero => show riseUp l k + 0 = riseUp l (k + 0); rw [Nat.add_zero]; omega
  | succ m ih =>
    show riseUp l k + (riseUp (l.drop k) m + (((l.drop k)[m]?.getD q0).2.2.2 - ((l.drop k)[m]?.getD q0).2.2.1)) = riseUp l (k + m) + ((l[k + m]?.getD q0).2.2.2 - (l[k + m]?.getD q0).2.2.1)
    rw [← ih, getQ_drop]; omega
theorem rise_parts {g : Rows} {l : List Quad} (h : EdOk g l) {k : Nat} (hk : k ≤ l.length) : riseOf g (l.take k) + riseOf (doneUp g l k) (l.drop k) = riseOf g l := by
  have e : (l.take k).length = k := by rw [List.length_take]; omega
  have e2 : (l.drop k).length = l.length - k := by rw [List.length_drop]
  rw [riseOf_yes (h.take hk), riseOf_yes (h.drop hk), riseOf_yes h, e, e2, riseUp_take k (Nat.le_refl _), riseUp_drop]
  congr 1; omega

theorem rise_bound (g : Rows) (l : List Quad) : -5940 ≤ riseOf g l ∧ riseOf g l ≤ 5940 := by
  by_cases h : EdOk g l
  · rw [riseOf_yes h]
    have := rise_small h _ (Nat.le_refl _)
    have := h.2.1
    omega
  · rw [riseOf_no h]; omega

/-- the heights of the first cells, added up -/
def totUp (g : Rows) : Nat → Int
  | 0 => 0
  | n + 1 => totUp g n + cellOf g n
theorem totUp_put {g : Rows} {f : Quad} (h : GridOk g) (hc : Can g f) : ∀ n, n ≤ g.length * colsOf g → totUp (put g f) n = totUp g n + if f.1.toNat * colsOf g + f.2.1.toNat < n then f.2.2.2 - f.2.2.1 else 0 := by
  have hx : cellOf g (f.1.toNat * colsOf g + f.2.1.toNat) = f.2.2.1 := by
    have h0 := hc.2.2.2.2.1
    have hj : f.2.1.toNat < colsOf g := by have := hc.2.2.2.1; have := hc.2.2.1; omega
    unfold at2 at h0
    unfold cellOf
    rw [show (f.1.toNat * colsOf g + f.2.1.toNat) / colsOf g = f.1.toNat by rw [Nat.mul_comm, Nat.mul_add_div (by omega), Nat.div_eq_of_lt hj]; rfl, show (f.1.toNat * colsOf g + f.2.1.toNat) % colsOf g = f.2.1.toNat by rw [Nat.mul_comm, Nat.mul_add_mod, Nat.mod_eq_of_lt hj]]
    exact h0
  intro n
  induction n with
  | zero => intro _; simp [totUp]
  | succ m ih =>
    intro hn
    show totUp (put g f) m + cellOf (put g f) m = totUp g m + cellOf g m + _
    rw [ih (by omega), put_cell h hc (by omega)]
    generalize he : f.1.toNat * colsOf g + f.2.1.toNat = p at hx ⊢
    by_cases e : m = p
    · subst e
      rw [if_neg (Nat.lt_irrefl _), if_pos rfl, if_pos (Nat.lt_succ_self _), hx]; omega
    · rw [if_neg e]
      by_cases e2 : p < m
      · rw [if_pos e2, if_pos (by omega)]; omega
      · rw [if_neg e2, if_neg (by omega)]; omega
def totOf (g : Rows) : Int := totUp g (g.length * colsOf g)
theorem totOf_put {g : Rows} {f : Quad} (h : GridOk g) (hc : Can g f) : totOf (put g f) = totOf g + (f.2.2.2 - f.2.2.1) := by
  unfold totOf
  rw [put_len, put_cols, totUp_put h hc _ (Nat.le_refl _), if_pos]
  have a1 : f.1.toNat + 1 ≤ g.length := by have := hc.1; have := hc.2.1; omega
  have a2 : f.2.1.toNat < colsOf g := by have := hc.2.2.1; have := hc.2.2.2.1; omega
  have := Nat.mul_le_mul_right (colsOf g) a1
  rw [Nat.succ_mul] at this
  omega
theorem totOf_done {g : Rows} {l : List Quad} (hg : GridOk g) : ∀ k, k ≤ l.length → CanUp g l k → totOf (doneUp g l k) = totOf g + riseUp l k := by
  intro k
  induction k with
  | zero => intro _ _; rw [doneUp_zero]; show _ = _ + 0; omega
  | succ m ih =>
    intro hk hc
    rw [doneUp_succ (by omega), totOf_put (doneUp_grid hg m (by omega) (hc.less (by omega))).1 (hc m (by omega)), ih (by omega) (hc.less (by omega))]
    show _ = _ + (riseUp l m + _)
    omega
/-- the rise is what the edition has more -/
theorem rise_tot {g : Rows} {l : List Quad} (h : EdOk g l) : riseOf g l = totOf (edition g l) - totOf g := by
  rw [riseOf_yes h]; unfold edition; rw [totOf_done h.1 _ (Nat.le_refl _) h.2.2]; omega

/-- the first cells of a read list, and the rest of it -/
theorem QuadsB.take {B k n : Nat} {w : World} {a : Option Addr} {cap : Nat} {l : List Quad} (h : QuadsB B w (.slice a n cap) l) (hk : k ≤ l.length) : QuadsB B w (.slice a k cap) (l.take k) := by
  obtain ⟨a', cap', hv, h1, h2, h3⟩ := h
  simp only [Value.slice.injEq] at hv
  obtain ⟨rfl, rfl, rfl⟩ := hv
  have e : (l.take k).length = k := by rw [List.length_take]; omega
  refine ⟨a, cap, by rw [e], by omega, h2, fun hp => ?_⟩
  rw [e] at hp
  obtain ⟨b, off, rfl, hb, hc⟩ := h3 (by omega)
  refine ⟨b, off, rfl, hb, fun j hj => ?_⟩
  rw [e] at hj
  rw [getQ_take hj]
  exact hc j (by omega)
theorem QuadsB.drop {B k n : Nat} {w : World} {a : Option Addr} {cap : Nat} {l : List Quad} (h : QuadsB B w (.slice a n cap) l) (hk : k ≤ l.length) : QuadsB B w (.slice (Option.map (fun x => x.add (k * 4)) a) (n - k) (cap - k)) (l.drop k) := by
  obtain ⟨a', cap', hv, h1, h2, h3⟩ := h
  simp only [Value.slice.injEq] at hv
  obtain ⟨rfl, rfl, rfl⟩ := hv
  have e : (l.drop k).length = l.length - k := by rw [List.length_drop]
  refine ⟨_, cap - k, by rw [e], by omega, by omega, fun hp => ?_⟩
  rw [e] at hp
  obtain ⟨b, off, rfl, hb, hc⟩ := h3 (by omega)
  refine ⟨b, off + k * 4, by simp [Addr.add], hb, fun j hj => ?_⟩
  rw [e] at hj
  have q := hc (k + j) (by omega)
  rw [getQ_drop, show off + k * 4 + j * 4 = off + (k + j) * 4 by omega]
  exact q
theorem QuadsB.dropAll {B k n : Nat} {w : World} {a : Option Addr} {cap : Nat} {l : List Quad} (h : QuadsB B w (.slice a n cap) l) (hk : k = l.length) : QuadsB B w (.slice a 0 0) (l.drop k) := by
  obtain ⟨a', cap', hv, h1, h2, h3⟩ := h
  simp only [Value.slice.injEq] at hv
  obtain ⟨rfl, rfl, rfl⟩ := hv
  subst hk
  exact ⟨a, 0, by simp, by simp, by omega, fun hp => absurd hp (by simp)⟩
end Go.Proofs.Ytdelcebkpdnnjaa
namespace Go.Proofs.Ytdelcebkpdnnjaa
open Go.RowKit Go.Deep

/-- corrections that can be done one after the other -/
def CanL : Rows → List Quad → Prop
  | _, [] => True
  | g, f :: fs => Can g f ∧ CanL (put g f) fs
theorem canL_app : ∀ (a b : List Quad) (g : Rows), CanL g (a ++ b) ↔ CanL g a ∧ CanL (a.foldl put g) b
  | [], b, g => by simp [CanL]
  | f :: a, b, g => by simp only [List.cons_append, CanL, List.foldl_cons]; rw [canL_app a b (put g f), and_assoc]
theorem canL_up : ∀ (l : List Quad) (g : Rows), CanL g l → CanUp g l l.length
  | [], _, _ => fun j hj => absurd hj (by simp)
  | f :: l, g, h => by
    intro j hj
    have ih := canL_up l (put g f) h.2
    cases j with
    | zero => exact h.1
    | succ j =>
      have h1 := ih j (by simpa using hj)
      have e : doneUp g (f :: l) (j + 1) = doneUp (put g f) l j := rfl
      rw [e]
      simpa using h1
theorem canUp_L : ∀ (l : List Quad) (g : Rows), CanUp g l l.length → CanL g l
  | [], _, _ => trivial
  | f :: l, g, h => by
    refine ⟨h 0 (by simp), canUp_L l (put g f) fun j hj => ?_⟩
    have h1 := h (j + 1) (by simpa using hj)
    have e : doneUp g (f :: l) (j + 1) = doneUp (put g f) l j := rfl
    rw [e] at h1
    simpa using h1
theorem edition_fold (g : Rows) (l : List Quad) : edition g l = l.foldl put g := by unfold edition doneUp; rw [List.take_length]

/-- the first rows and cells are the second grid's, the rest are the first one's -/
def Mix (M ga gb : Rows) (r c : Nat) : Prop := GridOk M ∧ M.length = ga.length ∧ colsOf M = colsOf ga ∧ ∀ i j, i < ga.length → j < colsOf ga → at2 M i j = if i < r ∨ i = r ∧ j < c then at2 gb i j else at2 ga i j
theorem at2_small {g : Rows} (h : GridOk g) {i j : Nat} (hi : i < g.length) (hj : j < colsOf g) : 0 ≤ at2 g i j ∧ at2 g i j ≤ 99 := by
  have := h.2.2.2.2 i hi
  exact this.2 j (by rw [this.1]; exact hj)
theorem mix_row {M ga gb : Rows} {r : Nat} (h : Like ga gb) (hr : r < ga.length) (hM : Mix M ga gb r 0) : ∀ c, c ≤ colsOf ga → CanL M (rowDiff ga gb r c) ∧ Mix ((rowDiff ga gb r c).foldl put M) ga gb r c := by
  intro c
  induction c with
  | zero => intro _; exact ⟨trivial, hM⟩
  | succ c ih =>
    intro hc
    obtain ⟨i1, i2⟩ := ih (by omega)
    have hrb : r < gb.length := by have := h.1.2.2; omega
    by_cases e : (ga[r]?.getD [])[c]?.getD 0 = (gb[r]?.getD [])[c]?.getD 0
    · rw [rowDiff_same e]
      refine ⟨i1, i2.1, i2.2.1, i2.2.2.1, fun i j hi hj => ?_⟩
      rw [i2.2.2.2 i j hi hj]
      by_cases e1 : i < r ∨ i = r ∧ j < c
      · rw [if_pos e1, if_pos (by omega)]
      · rw [if_neg e1]
        by_cases e2 : i < r ∨ i = r ∧ j < c + 1
        · rw [if_pos e2]
          obtain ⟨rfl, rfl⟩ : i = r ∧ j = c := by omega
          exact e
        · rw [if_neg e2]
    · rw [rowDiff_other rfl rfl e, canL_app, List.foldl_append]
      generalize hK : (rowDiff ga gb r c).foldl put M = K at i2 ⊢
      have hb := at2_small h.1.2.1 hrb (show c < colsOf gb by rw [← h.2]; omega)
      have hcan : Can K ((r : Int), (c : Int), (ga[r]?.getD [])[c]?.getD 0, (gb[r]?.getD [])[c]?.getD 0) := by
        refine ⟨by simp, by simp; rw [i2.2.1]; exact hr, by simp, by simp; rw [i2.2.2.1]; omega, ?_, hb.1, hb.2, fun x => e x.symm⟩
        have := i2.2.2.2 r c hr (by omega)
        rw [if_neg (by omega)] at this
        exact this
      refine ⟨⟨i1, hcan, trivial⟩, ?_⟩
      show Mix (put K _) ga gb r (c + 1)
      refine ⟨put_ok i2.1 hcan, by rw [put_len]; exact i2.2.1, by rw [put_cols]; exact i2.2.2.1, fun i j hi hj => ?_⟩
      rw [put_at i2.1 hcan (by rw [i2.2.1]; exact hi) (by rw [i2.2.2.1]; exact hj), i2.2.2.2 i j hi hj]
      show (if i = r ∧ j = c then _ else _) = _
      by_cases e1 : i = r ∧ j = c
      · rw [if_pos e1, if_pos (by omega), e1.1, e1.2]
      · rw [if_neg e1]
        by_cases e2 : i < r ∨ i = r ∧ j < c
        · rw [if_pos e2, if_pos (by omega)]
        · rw [if_neg e2, if_neg (by omega)]
theorem mix_all {ga gb : Rows} (h : Like ga gb) : ∀ r, r ≤ ga.length → CanL ga (diffs ga gb r) ∧ Mix ((diffs ga gb r).foldl put ga) ga gb r 0 := by
  intro r
  induction r with
  | zero => intro _; exact ⟨trivial, h.1.1, rfl, rfl, fun i j _ _ => by rw [if_neg (by omega)]; rfl⟩
  | succ r ih =>
    intro hr
    obtain ⟨i1, i2⟩ := ih (by omega)
    rw [diffs_succ, canL_app, List.foldl_append]
    obtain ⟨j1, j2⟩ := mix_row h (by omega) i2 _ (Nat.le_refl _)
    refine ⟨⟨i1, j1⟩, j2.1, j2.2.1, j2.2.2.1, fun i j hi hj => ?_⟩
    rw [j2.2.2.2 i j hi hj]
    by_cases e : i < r ∨ i = r ∧ j < colsOf ga
    · rw [if_pos e, if_pos (by omega)]
    · rw [if_neg e, if_neg (by omega)]
theorem grid_ext {ga gb : Rows} (h : Like ga gb) (he : ∀ i j, i < ga.length → j < colsOf ga → at2 ga i j = at2 gb i j) : ga = gb := by
  refine rows_eq h.1.2.2 fun i hi => ?_
  have h1 := (h.1.1.2.2.2.2 i hi).1
  have h2 := (h.1.2.1.2.2.2.2 i (by have := h.1.2.2; omega)).1
  refine List.ext_getElem (by rw [h1, h2, h.2]) fun j hj hj2 => ?_
  have := he i j hi (by omega)
  simpa [at2, hj, hj2] using this
theorem make_ok {ga gb : Rows} (h : Like ga gb) : EdOk ga (diffsOf ga gb) ∧ edition ga (diffsOf ga gb) = gb := by
  obtain ⟨i1, i2⟩ := mix_all h ga.length (Nat.le_refl _)
  have hf := far_small h
  rw [farOf_yes h] at hf
  refine ⟨⟨h.1.1, by omega, canL_up _ _ i1⟩, ?_⟩
  rw [edition_fold]
  have hl : Like (List.foldl put ga (diffsOf ga gb)) gb := ⟨⟨i2.1, h.1.2.1, i2.2.1.trans h.1.2.2⟩, i2.2.2.1.trans h.2⟩
  refine grid_ext hl fun i j hi hj => ?_
  have e1 : i < ga.length := by rw [← i2.2.1]; exact hi
  have := i2.2.2.2 i j e1 (by rw [← i2.2.2.1]; exact hj)
  rw [if_pos (.inl e1)] at this
  exact this
theorem make_len {ga gb : Rows} (h : Like ga gb) : (diffsOf ga gb).length ≤ 49 := by
  have := far_small h
  rw [farOf_yes h] at this
  omega
theorem make_rise {g : Rows} {l : List Quad} (h : EdOk g l) : riseOf g (diffsOf g (edition g l)) = riseOf g l := by
  have m := make_ok h.like
  rw [rise_tot m.1, rise_tot h, m.2]
end Go.Proofs.Ytdelcebkpdnnjaa
namespace Go.Proofs.Ytdelcebkpdnnjaa
open Go.RowKit Go.Shelf

attribute [local go_sem] Oper.semAt_some

def swapQ (q : Quad) : Quad := (q.1, q.2.1, q.2.2.2, q.2.2.1)
def backL (l : List Quad) : List Quad := l.reverse.map swapQ
def backOf (g : Rows) (l : List Quad) : List Quad := if EdOk g l then backL l else []
theorem backOf_yes {g : Rows} {l : List Quad} (h : EdOk g l) : backOf g l = backL l := if_pos h
theorem backOf_no {g : Rows} {l : List Quad} (h : ¬ EdOk g l) : backOf g l = [] := if_neg h
theorem backL_length (l : List Quad) : (backL l).length = l.length := by simp [backL]
theorem backOf_len (g : Rows) (l : List Quad) : (backOf g l).length ≤ 1099511627776 := by
  by_cases h : EdOk g l
  · rw [backOf_yes h, backL_length]; have := h.2.1; omega
  · rw [backOf_no h]; simp
def bk (pre : List (Nat × Quad)) : List Quad := pre.map fun x => swapQ x.2
theorem bk_all (l : List Quad) : bk (cameN l.length l l.length) = backL l := by
  have h := congrArg List.reverse (cameN_all l)
  rw [List.reverse_reverse] at h
  unfold bk backL
  rw [← h, List.map_map]
  rfl
theorem bk_snoc (pre : List (Nat × Quad)) (x : Nat × Quad) : bk (pre ++ [x]) = bk pre ++ [swapQ x.2] := by simp [bk]
theorem cells4_new {W : World} {x0 x1 x2 x3 : Value} {t : TypeId} {N : Nat} (hN : W.heap.size = N) (j : Nat) (u : Value) (h : [x0, x1, x2, x3][j]? = some u) : (W.alloc (.cells #[x0, x1, x2, x3] t)).cell? ((⟨N, 0, none⟩ : Addr).add j) = some u := by
  subst hN
  have hj : j < 4 := by have := (List.getElem?_eq_some_iff.1 h).1; simpa using this
  match j, hj with
  | 0, _ => rw [addr_add]; simpa using h
  | 1, _ => rw [addr_add]; simpa using h
  | 2, _ => rw [addr_add]; simpa using h
  | 3, _ => rw [addr_add]; simpa using h

theorem flat_one4 (x0 x1 x2 x3 : Int) : flat [swapQ (x0, x1, x2, x3)] = [.int .i64 x0, .int .i64 x1, .int .i64 x3, .int .i64 x2] := by
  simp [flat, swapQ, List.range_succ, qcell]
theorem ownsRow_low {w : World} {base base' n size : Nat} {e : TypeId} {v : Value} {xs : List Value} (h : w.ownsRow base e size v n xs) (hb : base' ≤ base) : w.ownsRow base' e size v n xs := by
  refine ⟨h.1, ?_⟩
  rcases h.2 with h | ⟨g, cap, cur, e, h1, h2⟩
  · exact .inl h
  · exact .inr ⟨g, cap, cur, e, by omega, h2⟩

def backUp (l : List Quad) (k : Nat) : List Quad := (l.reverse.take k).map swapQ
theorem backUp_succ {l : List Quad} {k m : Nat} (h : m + k + 1 = l.length) : backUp l (k + 1) = backUp l k ++ [swapQ (l[m]?.getD q0)] := by
  unfold backUp
  have hk : k < l.reverse.length := by simp; omega
  rw [List.take_succ_eq_append_getElem hk, List.map_append]
  congr 1
  have hkm : l.length - 1 - k = m := by omega
  rw [getQ_eq (by omega)]
  simp only [List.map_cons, List.map_nil, List.getElem_reverse, hkm]
theorem backUp_all (l : List Quad) : backUp l l.length = backL l := by
  unfold backUp backL
  rw [List.take_of_length_le (by simp)]
theorem backUp_len (l : List Quad) (k : Nat) : (backUp l k).length ≤ k := by simp [backUp]; omega

end Go.Proofs.Ytdelcebkpdnnjaa
namespace Go.Proofs.Ytdelcebkpdnnjaa
open Go.RowKit Go.Deep Go.Sort BigFrame

def shortOf (g : Rows) (l : List Quad) : List Quad := if EdOk g l then diffsOf g (edition g l) else []
theorem shortOf_yes {g : Rows} {l : List Quad} (h : EdOk g l) : shortOf g l = diffsOf g (edition g l) := if_pos h
theorem shortOf_no {g : Rows} {l : List Quad} (h : ¬ EdOk g l) : shortOf g l = [] := if_neg h
theorem shortOf_len (g : Rows) (l : List Quad) : (shortOf g l).length ≤ 1099511627776 := by
  by_cases h : EdOk g l
  · rw [shortOf_yes h]
    have h1 := diffs_len g (edition g l) g.length
    have h2 := small_cells h.1
    unfold diffsOf
    omega
  · rw [shortOf_no h]; simp

set_option maxHeartbeats 1000000 in
set_option maxRecDepth 100000 in
theorem FixesShort_any (vg vl : Value) (g : Rows) (l : List Quad) (w : World) (hG : Grid w vg g) (hL : Quads w vl l) :
    Calls Try.prog 40 #[vg, vl] w fun e w' => ∃ v, e = .returned (.tuple #[v, .bool (decide (EdOk g l))]) ∧ OwnQ w.heap.size w'.heap.size w' v (shortOf g l) ∧ Below w.heap.size w w' := by
  by_cases h : EdOk g l
  · have C := Lib.hid (editions_yes vg vl g l w hG hL h)
    have HLK := Lib.hid h.like
    have HG := Lib.hid h.grid
    rw [decide_eq_true h, shortOf_yes h]
    clear hG hL h
    go_enter Try.func40, Try.ntmps40
    go_wp2_with fail
    refine C.out.mono ?_
    rintro e w1 ⟨a, b, cap, m, f, rfl, _, _, hra, hrow, hfo, hb⟩
    have hz := hb.size
    have HR := Lib.hid ((hrow.alloc (.cells #[.int .i64 g.length, .int .i64 (colsOf g), .slice (some ⟨a, 0, none⟩) (g.length * colsOf g) (g.length * colsOf g)] 64)).alloc (.cells #[.int .i64 g.length, .int .i64 (colsOf g), .slice (some ⟨b, 0, none⟩) (g.length * colsOf g) cap] 64))
    have HA := Lib.hid ((hra.alloc (.cells #[.int .i64 g.length, .int .i64 (colsOf g), .slice (some ⟨a, 0, none⟩) (g.length * colsOf g) (g.length * colsOf g)] 64)).alloc (.cells #[.int .i64 g.length, .int .i64 (colsOf g), .slice (some ⟨b, 0, none⟩) (g.length * colsOf g) cap] 64))
    have HB := Lib.hid ((hb.alloc hb.size (.cells #[.int .i64 g.length, .int .i64 (colsOf g), .slice (some ⟨a, 0, none⟩) (g.length * colsOf g) (g.length * colsOf g)] 64)).alloc (by simp; omega) (.cells #[.int .i64 g.length, .int .i64 (colsOf g), .slice (some ⟨b, 0, none⟩) (g.length * colsOf g) cap] 64))
    have HF : Hid (FldOk ((edition g l).length * colsOf (edition g l)) cap m f (cellOf (edition g l))) := by show FldOk _ _ _ _ _; rw [HG.out.2.1, HG.out.2.2]; exact hfo
    have CB : Hid (∀ W, W.rowIs a 3 (g.length * colsOf g) (fun i => .int .i64 (cellOf g i)) → W.rowIs b 3 m f → Calls Try.prog 65 #[fv g.length (colsOf g) (.slice (some ⟨a, 0, none⟩) (g.length * colsOf g) (g.length * colsOf g)), fv g.length (colsOf g) (.slice (some ⟨b, 0, none⟩) (g.length * colsOf g) cap)] W fun e w' => ∃ v, e = .returned v ∧ w'.ownsRow (W.heap.size + 2) 41 4 v (diffsOf g (edition g l)).length (flat (diffsOf g (edition g l))) ∧ Below W.heap.size W w') := fun W h1 h2 => by
      have := between_row g (edition g l) a b cap m f W HLK.out h1 h2 HF.out
      rw [HG.out.2.1, HG.out.2.2] at this
      exact this
    clear hrow hra hb hfo C
    go_wp2_with fail
    refine (CB.out _ HA.out HR.out).mono ?_
    rintro e w2 ⟨v, rfl, hO, hb2⟩
    have HO := Lib.hid hO
    have HB2 := Lib.hid (HB.out.trans (hb2.mono (by simp; omega)))
    obtain ⟨va', vc', rfl⟩ := ownsRow_slice hO
    clear hO hb2
    go_wp2
    go_ret2
    exact ⟨_, rfl, (ownQ_of_ownsRow HO.out (Nat.le_refl _)).mono (by simp; omega) (Nat.le_refl _), HB2.out⟩
  · have C := Lib.hid (editions_no vg vl g l w hG hL h)
    rw [decide_eq_false h, shortOf_no h]
    clear hG hL h
    go_enter Try.func40, Try.ntmps40
    go_wp2_with fail
    refine C.out.mono ?_
    rintro e w1 ⟨rfl, hb⟩
    go_wp2
    go_ret2
    exact ⟨_, rfl, .inl ⟨rfl, none, 0, rfl, by omega⟩, (hb.alloc hb.size _).alloc (by have := hb.size; simp; omega) _⟩

set_option maxHeartbeats 1000000 in
set_option maxRecDepth 100000 in
theorem specFixesShort_any (vg vl : Value) (g : Rows) (l : List Quad) (w : World) (hG : Grid w vg g) (hL : Quads w vl l) :
    Calls Try.prog 90 #[vg, vl] w fun e w' => ∃ v, e = .returned (.tuple #[v, .bool (decide (EdOk g l))]) ∧ OwnQ w.heap.size w'.heap.size w' v (shortOf g l) ∧ Below w.heap.size w w' := by
  have C := Lib.hid (specFixesDo_any vg vl g l w hG hL)
  have HG := Lib.hid (show GridB w.heap.size w vg g from hG)
  by_cases h : EdOk g l
  · have HLK := Lib.hid h.like
    rw [decide_eq_true h, edAll_yes h] at C
    rw [decide_eq_true h, shortOf_yes h]
    clear hG hL h
    go_enter Try.func90, Try.ntmps90
    go_wp2_with fail
    refine C.out.mono ?_
    rintro e w1 ⟨x, rfl, hO, hb⟩
    have z1 := hb.size
    have HB := Lib.hid hb
    have HO := Lib.hid hO
    have CM := Lib.hid (specFixesMake_any vg x g (edition g l) w1 ((HG.out.below hb (Nat.le_refl _)).grid z1) (hO.grid (Nat.le_refl _)))
    rw [decide_eq_true HLK.out, makeOf_yes HLK.out] at CM
    clear hb hO C
    go_wp2_with fail
    refine CM.out.mono ?_
    rintro e w2 ⟨v, rfl, hQ, hb2⟩
    have HQ := Lib.hid hQ
    have HB2 := Lib.hid (HB.out.trans (hb2.mono z1))
    obtain ⟨va', vc', rfl, _⟩ := hQ.quads
    clear hQ hb2
    go_wp2
    go_ret2
    exact ⟨_, rfl, HQ.out.mono z1 (Nat.le_refl _), HB2.out⟩
  · rw [decide_eq_false h, edAll_no h] at C
    rw [decide_eq_false h, shortOf_no h]
    clear hG hL h
    go_enter Try.func90, Try.ntmps90
    go_wp2_with fail
    refine C.out.mono ?_
    rintro e w1 ⟨x, rfl, hO, hb⟩
    go_wp2
    go_ret2
    exact ⟨_, rfl, .inl ⟨rfl, _, _, rfl, by omega⟩, hb.alloc hb.size _⟩
end Go.Proofs.Ytdelcebkpdnnjaa
namespace Go.Proofs.Ytdelcebkpdnnjaa
open Go.RowKit Go.Deep

theorem put_like {g : Rows} {f : Quad} (h : GridOk g) (hc : Can g f) : Like g (put g f) := ⟨⟨h, put_ok h hc, (put_len _ _).symm⟩, (put_cols _ _).symm⟩
theorem put_back {g : Rows} {f : Quad} (h : GridOk g) (hc : Can g f) : Can (put g f) (swapQ f) ∧ put (put g f) (swapQ f) = g := by
  have hr : f.1.toNat < g.length := by have := hc.1; have := hc.2.1; omega
  have hj : f.2.1.toNat < colsOf g := by have := hc.2.2.1; have := hc.2.2.2.1; omega
  have h2 := put_ok h hc
  have hat := at2_small h hr hj
  have hc2 : Can (put g f) (swapQ f) := by
    refine ⟨hc.1, by rw [put_len]; exact hc.2.1, hc.2.2.1, by rw [put_cols]; exact hc.2.2.2.1, ?_, ?_, ?_, ?_⟩
    · show at2 (put g f) f.1.toNat f.2.1.toNat = f.2.2.2
      rw [put_at h hc hr hj, if_pos ⟨rfl, rfl⟩]
    · show 0 ≤ f.2.2.1
      have := hc.2.2.2.2.1
      omega
    · show f.2.2.1 ≤ 99
      have := hc.2.2.2.2.1
      omega
    · show f.2.2.1 ≠ f.2.2.2
      exact fun e => hc.2.2.2.2.2.2.2 e.symm
  refine ⟨hc2, grid_ext ⟨⟨put_ok h2 hc2, h, by rw [put_len, put_len]⟩, by rw [put_cols, put_cols]⟩ fun i j hi hj' => ?_⟩
  rw [put_len, put_len] at hi
  rw [put_cols, put_cols] at hj'
  rw [put_at h2 hc2 (by rw [put_len]; exact hi) (by rw [put_cols]; exact hj'), put_at h hc hi hj']
  show (if i = f.1.toNat ∧ j = f.2.1.toNat then f.2.2.1 else _) = _
  by_cases e : i = f.1.toNat ∧ j = f.2.1.toNat
  · rw [if_pos e, e.1, e.2]
    exact hc.2.2.2.2.1.symm
  · rw [if_neg e, if_neg e]
theorem back_cons (f : Quad) (l : List Quad) : backL (f :: l) = backL l ++ [swapQ f] := by unfold backL; rw [List.reverse_cons, List.map_append]; rfl
theorem back_L : ∀ (l : List Quad) (g : Rows), GridOk g → CanL g l → CanL (l.foldl put g) (backL l) ∧ (backL l).foldl put (l.foldl put g) = g
  | [], g, _, _ => ⟨trivial, rfl⟩
  | f :: l, g, hg, h => by
    obtain ⟨i1, i2⟩ := back_L l (put g f) (put_ok hg h.1) h.2
    obtain ⟨b1, b2⟩ := put_back hg h.1
    rw [back_cons, List.foldl_cons, canL_app, List.foldl_append, i2]
    exact ⟨⟨i1, b1, trivial⟩, b2⟩
theorem back_ok {g : Rows} {l : List Quad} (h : EdOk g l) : EdOk (edition g l) (backL l) ∧ edition (edition g l) (backL l) = g := by
  obtain ⟨i1, i2⟩ := back_L l g h.1 (canUp_L l g h.2.2)
  refine ⟨⟨h.grid.1, by rw [backL_length]; exact h.2.1, canL_up _ _ (by rw [edition_fold]; exact i1)⟩, ?_⟩
  rw [edition_fold, edition_fold]; exact i2
theorem back_back (l : List Quad) : backL (backL l) = l := by
  unfold backL
  rw [← List.map_reverse, List.reverse_reverse, List.map_map]
  show l.map (fun q => swapQ (swapQ q)) = l
  exact List.map_id _
theorem back_rise {g : Rows} {l : List Quad} (h : EdOk g l) : riseOf g l + riseOf (edition g l) (backL l) = 0 := by
  have b := back_ok h
  rw [rise_tot h, rise_tot b.1, b.2]; omega

theorem dRow_put {M : Rows} {f : Quad} (h : GridOk M) (hc : Can M f) {i : Nat} (hi : i < M.length) : ∀ c, c ≤ colsOf M → dRow M (put M f) i c ≤ if i = f.1.toNat ∧ f.2.1.toNat < c then 1 else 0 := by
  intro c
  induction c with
  | zero => intro _; exact Nat.zero_le _
  | succ c ih =>
    intro hcc
    have i1 := ih (by omega)
    have e0 := put_at h hc hi (show c < colsOf M by omega)
    show dRow M (put M f) i c + one (at2 M i c) (at2 (put M f) i c) ≤ _
    rw [e0]
    by_cases e : i = f.1.toNat ∧ c = f.2.1.toNat
    · rw [if_pos e]
      rw [if_neg (by omega)] at i1
      rw [if_pos (by omega)]
      have : one (at2 M i c) f.2.2.2 ≤ 1 := by unfold one; split <;> omega
      omega
    · rw [if_neg e]
      have : one (at2 M i c) (at2 M i c) = 0 := by unfold one; rw [if_pos rfl]
      rw [this]
      by_cases e2 : i = f.1.toNat ∧ f.2.1.toNat < c
      · rw [if_pos e2] at i1; rw [if_pos (by omega)]; omega
      · rw [if_neg e2] at i1; omega
theorem dAll_put {M : Rows} {f : Quad} (h : GridOk M) (hc : Can M f) : ∀ r, r ≤ M.length → dAll M (put M f) (colsOf M) r ≤ if f.1.toNat < r then 1 else 0 := by
  intro r
  induction r with
  | zero => intro _; exact Nat.zero_le _
  | succ r ih =>
    intro hr
    have i1 := ih (by omega)
    have i2 := dRow_put h hc (show r < M.length by omega) _ (Nat.le_refl _)
    show dAll M (put M f) (colsOf M) r + dRow M (put M f) r (colsOf M) ≤ _
    by_cases e : r = f.1.toNat
    · rw [if_neg (by omega)] at i1
      rw [if_pos (by omega)]
      have : dRow M (put M f) r (colsOf M) ≤ 1 := by refine Nat.le_trans i2 ?_; split <;> omega
      omega
    · rw [if_neg (by omega)] at i2
      by_cases e2 : f.1.toNat < r
      · rw [if_pos e2] at i1; rw [if_pos (by omega)]; omega
      · rw [if_neg e2] at i1; omega
theorem far_put {M : Rows} {f : Quad} (h : GridOk M) (hc : Can M f) : farOf M (put M f) ≤ 1 := by
  rw [far_count (put_like h hc)]
  have := dAll_put h hc _ (Nat.le_refl _)
  have : (if f.1.toNat < M.length then 1 else 0) ≤ 1 := by split <;> omega
  omega
theorem far_done {g : Rows} {l : List Quad} (hg : GridOk g) : ∀ k, k ≤ l.length → CanUp g l k → farOf g (doneUp g l k) ≤ k := by
  intro k
  induction k with
  | zero =>
    intro _ _
    rw [doneUp_zero, (far_zero ⟨⟨hg, hg, rfl⟩, rfl⟩).2 rfl]
    exact Int.le_refl _
  | succ m ih =>
    intro hk hc
    have i1 := ih (by omega) (hc.less (by omega))
    have d := doneUp_grid hg m (by omega) (hc.less (by omega))
    have c := hc m (by omega)
    have d2 := doneUp_grid hg (m + 1) hk hc
    rw [doneUp_succ (show m < l.length by omega)] at d2 ⊢
    have i2 := far_put d.1 c
    have i3 := far_tri (ga := g) (gb := put (doneUp g l m) (l[m]?.getD q0)) (gc := doneUp g l m) ⟨⟨hg, d2.1, d2.2.1.symm⟩, d2.2.2.symm⟩ ⟨⟨hg, d.1, d.2.1.symm⟩, d.2.2.symm⟩
    have : ((m + 1 : Nat) : Int) = (m : Int) + 1 := by omega
    omega
theorem short_len {g : Rows} {l : List Quad} (h : EdOk g l) : (diffsOf g (edition g l)).length ≤ l.length := by
  have := far_done h.1 _ (Nat.le_refl _) h.2.2
  have e : doneUp g l l.length = edition g l := rfl
  rw [e, farOf_yes h.like] at this
  omega

theorem rowDiff_asc (ga gb : Rows) (r : Nat) : ∀ c, (rowDiff ga gb r c).Pairwise CellLt ∧ ∀ q, q ∈ rowDiff ga gb r c → q.1 = (r : Int) ∧ 0 ≤ q.2.1 ∧ q.2.1 < (c : Int) := by
  intro c
  induction c with
  | zero => exact ⟨List.Pairwise.nil, fun q hq => by simp [rowDiff] at hq⟩
  | succ c ih =>
    by_cases e : (ga[r]?.getD [])[c]?.getD 0 = (gb[r]?.getD [])[c]?.getD 0
    · rw [rowDiff_same e]
      exact ⟨ih.1, fun q hq => by have := ih.2 q hq; omega⟩
    · rw [rowDiff_other rfl rfl e]
      refine ⟨List.pairwise_append.2 ⟨ih.1, List.pairwise_singleton _ _, fun p hp q hq => ?_⟩, fun q hq => ?_⟩
      · have h1 := ih.2 p hp
        rw [List.mem_singleton] at hq
        subst hq
        exact .inr ⟨h1.1, h1.2.2⟩
      · rw [List.mem_append, List.mem_singleton] at hq
        rcases hq with hq | rfl
        · have := ih.2 q hq; omega
        · exact ⟨rfl, by simp, by simp; omega⟩
theorem diffs_asc (ga gb : Rows) : ∀ r, (diffs ga gb r).Pairwise CellLt ∧ ∀ q, q ∈ diffs ga gb r → q.1 < (r : Int) := by
  intro r
  induction r with
  | zero => exact ⟨List.Pairwise.nil, fun q hq => by simp [diffs] at hq⟩
  | succ r ih =>
    rw [diffs_succ]
    have a := rowDiff_asc ga gb r (colsOf ga)
    refine ⟨List.pairwise_append.2 ⟨ih.1, a.1, fun p hp q hq => ?_⟩, fun q hq => ?_⟩
    · have h1 := ih.2 p hp
      have h2 := (a.2 q hq).1
      exact .inl (by omega)
    · rw [List.mem_append] at hq
      rcases hq with hq | hq
      · have := ih.2 q hq; omega
      · have := (a.2 q hq).1; omega
theorem asc_of {l : List Quad} (h : l.Pairwise CellLt) : AscUp l l.length := by
  intro j hj
  have := List.pairwise_iff_getElem.1 h j (j + 1) (by omega) hj (by omega)
  rw [getQ_eq (show j < l.length by omega), getQ_eq hj]
  exact this
theorem short_are {ga gb : Rows} (h : Like ga gb) : AreOk ga (diffsOf ga gb) := ⟨(make_ok h).1, asc_of (diffs_asc ga gb _).1⟩
end Go.Proofs.Ytdelcebkpdnnjaa
namespace Go.Proofs.Ytdelcebkpdnnjaa
open Go.RowKit Go.Deep Go.Sort BigFrame

def stepAt (q : Quad) (R C : Int) : List Int := if q.1 = R ∧ q.2.1 = C then [q.2.2.2] else []
def hist (l : List Quad) (R C : Int) : Nat → List Int
  | 0 => []
  | k + 1 => hist l R C k ++ stepAt (l[k]?.getD q0) R C
def AtOk (g : Rows) (l : List Quad) (R C : Int) : Prop := EdOk g l ∧ HasCell g.length (colsOf g) R C
instance (g : Rows) (l : List Quad) (R C : Int) : Decidable (AtOk g l R C) := by unfold AtOk; infer_instance
def atOf (g : Rows) (l : List Quad) (R C : Int) : List Int := if AtOk g l R C then at2 g R.toNat C.toNat :: hist l R C l.length else []
theorem atOf_yes {g : Rows} {l : List Quad} {R C : Int} (h : AtOk g l R C) : atOf g l R C = at2 g R.toNat C.toNat :: hist l R C l.length := if_pos h
theorem atOf_no {g : Rows} {l : List Quad} {R C : Int} (h : ¬ AtOk g l R C) : atOf g l R C = [] := if_neg h
theorem hist_len (l : List Quad) (R C : Int) : ∀ k, (hist l R C k).length ≤ k := by
  intro k
  induction k with
  | zero => simp [hist]
  | succ k ih => rw [hist, List.length_append]; unfold stepAt; split <;> simp <;> omega
theorem atOf_len (g : Rows) (l : List Quad) (R C : Int) : (atOf g l R C).length ≤ 1099511627776 := by
  by_cases h : AtOk g l R C
  · rw [atOf_yes h]; have := hist_len l R C l.length; have := h.1.2.1; simp; omega
  · rw [atOf_no h]; simp
theorem ints_single {w : World} {x : Int} {t : TypeId} {N : Nat} (hN : w.heap.size = N) : Ints (w.alloc (.cells #[.int .i64 x] t)) (.slice (some ⟨N, 0, none⟩) 1 1) [x] := by
  subst hN
  refine ⟨some ⟨w.heap.size, 0, none⟩, 1, rfl, by simp, by decide, fun _ => ⟨w.heap.size, 0, rfl, by simp, fun j hj => ?_⟩⟩
  obtain rfl : j = 0 := by simp at hj; omega
  simp
theorem ownsRow_single {w : World} {base : Nat} {x : Int} {t : TypeId} (h : base ≤ w.heap.size) : (w.alloc (.cells #[.int .i64 x] t)).ownsRow base t 1 (.slice (some ⟨w.heap.size, 0, none⟩) [x].length 1) [x].length ([x].map (Value.int .i64)) :=
  ⟨by simp, .inr ⟨w.heap.size, 1, #[.int .i64 x], rfl, h, heap_alloc_new w _, by simp, by unfold maxLen; omega, by simp, by simp⟩⟩

set_option maxHeartbeats 2000000 in
set_option maxRecDepth 100000 in
theorem FixesAt_any (vg vl : Value) (g : Rows) (l : List Quad) (R C : Int) (w : World) (hG : Grid w vg g) (hL : Quads w vl l) :
    Calls Try.prog 14 #[vg, vl, .int .i64 R, .int .i64 C] w fun e w' => ∃ v, e = .returned (.tuple #[v, .bool (decide (AtOk g l R C))]) ∧ Own w.heap.size w'.heap.size w' v (atOf g l R C) ∧ Below w.heap.size w w' := by
  by_cases h : EdOk g l
  · have CE := Lib.hid (editions_yes vg vl g l w hG hL h)
    have HL := Lib.hid hL.quadsB
    obtain ⟨la, lc, rfl, q1, q2, q3⟩ := hL
    have HQ := Lib.hid q3
    have hl60 := h.2.1
    have HGO := Lib.hid h.1
    have HE := Lib.hid h
    clear hG q3
    by_cases hc : HasCell g.length (colsOf g) R C
    · have HOK : Hid (AtOk g l R C) := ⟨h, hc⟩
      obtain ⟨i, rfl⟩ : ∃ i : Nat, R = (i : Int) := ⟨R.toNat, by have := hc.1; omega⟩
      obtain ⟨j, rfl⟩ : ∃ j : Nat, C = (j : Int) := ⟨C.toNat, by have := hc.2.2.1; omega⟩
      have hi : i < g.length := by have := hc.2.1; omega
      have hj : j < colsOf g := by have := hc.2.2.2; omega
      have HCD := Lib.hid (decide_eq_true hc)
      have HEnd : Hid (at2 g (i : Int).toNat (j : Int).toNat = (g[i]?.getD [])[j]?.getD 0) := by show at2 g _ _ = _; simp
      obtain ⟨x, hx⟩ : ∃ x, x = (g[i]?.getD [])[j]?.getD 0 := ⟨_, rfl⟩
      have HX := Lib.hid hx
      clear h hc hx
      rw [decide_eq_true HOK.out, atOf_yes HOK.out, HEnd.out, ← HX.out]
      go_enter Try.func14, Try.ntmps14
      go_wp2_with fail
      refine CE.out.mono ?_
      rintro e w1 ⟨a, b, cap, m, f, rfl, _, _, hra, hrow, hfo, hb⟩
      have hz := hb.size
      have HA := Lib.hid ((hra.alloc (.cells #[.int .i64 g.length, .int .i64 (colsOf g), .slice (some ⟨a, 0, none⟩) (g.length * colsOf g) (g.length * colsOf g)] 64)).alloc (.cells #[.int .i64 g.length, .int .i64 (colsOf g), .slice (some ⟨b, 0, none⟩) (g.length * colsOf g) cap] 64))
      have HB := Lib.hid ((hb.alloc hb.size (.cells #[.int .i64 g.length, .int .i64 (colsOf g), .slice (some ⟨a, 0, none⟩) (g.length * colsOf g) (g.length * colsOf g)] 64)).alloc (by simp; omega) (.cells #[.int .i64 g.length, .int .i64 (colsOf g), .slice (some ⟨b, 0, none⟩) (g.length * colsOf g) cap] 64))
      have BX := Lib.hid (Box3.block (Box3.row (field_row w1 (.int .i64 g.length) (.int .i64 (colsOf g)) (.slice (some ⟨a, 0, none⟩) (g.length * colsOf g) (g.length * colsOf g)))) (Below.heap_alloc (w1.alloc (.cells #[.int .i64 g.length, .int .i64 (colsOf g), .slice (some ⟨a, 0, none⟩) (g.length * colsOf g) (g.length * colsOf g)] 64)) (.cells #[.int .i64 g.length, .int .i64 (colsOf g), .slice (some ⟨b, 0, none⟩) (g.length * colsOf g) cap] 64) w1.heap.size (by simp)))
      clear hra hrow hfo hb CE
      go_wp2_with fail
      refine (has_any g.length (colsOf g) _ i j _).mono ?_
      rintro e w2 ⟨rfl, hb2⟩
      rw [HCD.out]
      have z2 := hb2.size
      simp only [World.size_alloc] at z2
      have HA2 := Lib.hid (HA.out.of_block (hb2.block _ HA.out.lt))
      have HB2 := Lib.hid (HB.out.trans (hb2.mono (by simp; omega)))
      obtain ⟨k0, k1, k2⟩ := BX.out.block (hb2.block w1.heap.size (by simp; omega))
      obtain ⟨F, hF⟩ : ∃ F, F = w1.heap.size := ⟨_, rfl⟩
      rw [← hF] at k0 k1 k2 z2 hz ⊢
      clear hb2 BX hF
      go_wp2_with fail
      refine (at_grid g g.length a i j _ HGO.out HA2.out hi hj).mono ?_
      rintro e w3 ⟨rfl, hb3⟩
      rw [← HX.out]
      have HB3 := Lib.hid (HB2.out.trans (hb3.mono (by omega)))
      have z3 := hb3.size
      clear hb3 k0 k1 k2
      go_wp2_with fail
      go_loopw [13, 15, 39] (fun v _ s wr => ∃ k : Nat, k ≤ l.length ∧ s = .int .i64 k ∧ wr.ownsRow w.heap.size 3 1 v (x :: hist l (i : Int) (j : Int) k).length ((x :: hist l (i : Int) (j : Int) k).map (Value.int .i64)) ∧ Below w.heap.size w wr) (fun _ _ s _ => l.length - (intOf s).toNat)
      case atStart => exact ⟨0, Nat.zero_le _, rfl, ownsRow_single HB3.out.size, HB3.out.alloc HB3.out.size _⟩
      case round =>
        obtain ⟨k, hk, rfl, hown, hbel⟩ := hrel
        have HO := Lib.hid hown
        have HBE := Lib.hid hbel
        have hzw := hbel.size
        by_cases hlt : k < l.length
        · obtain ⟨bb, off, hae, hbb, hq⟩ := HQ.out (by omega)
          subst hae
          obtain ⟨c0, c1, c2, c3⟩ := (hq k hlt).below hbel hbb
          obtain ⟨x0, x1, x2, x3, hx⟩ : ∃ x0 x1 x2 x3, (x0, x1, x2, x3) = l[k]?.getD q0 := ⟨_, _, _, _, rfl⟩
          rw [← hx] at c0 c1 c2 c3
          dsimp only at c0 c1 c2 c3
          have HX' := Lib.hid hx
          have HLN := Lib.hid (hist_len l (i : Int) (j : Int) k)
          clear hq hx hbel hown
          by_cases e0 : x0 = (i : Int)
          · by_cases e1 : x1 = (j : Int)
            · have t0 : (x0 == (i : Int)) = true := by simp [e0]
              have t1 : (x1 == (j : Int)) = true := by simp [e1]
              have HS : Hid (hist l (i : Int) (j : Int) (k + 1) = hist l (i : Int) (j : Int) k ++ [x3]) := by show _ = _; rw [hist, ← HX'.out, stepAt, if_pos ⟨e0, e1⟩]
              obtain ⟨L, hL⟩ : ∃ L, L = x :: hist l (i : Int) (j : Int) k := ⟨_, rfl⟩
              rw [← hL] at HO
              have hLn : L.length ≤ 1000 := by rw [hL]; have := HLN.out; simp; omega
              have HLE := Lib.hid hL
              clear e0 e1 hL
              have hzb : w.heap.size ≤ ((wr.alloc (.cells #[.int .i64 x0, .int .i64 x1, .int .i64 x2, .int .i64 x3] 41)).alloc (.cells #[.int .i64 x3] 3)).heap.size := by simp; omega
              have HOA := Lib.hid ((HO.out.alloc (.cells #[.int .i64 x0, .int .i64 x1, .int .i64 x2, .int .i64 x3] 41)).alloc (.cells #[.int .i64 x3] 3))
              have HBA := Lib.hid ((HBE.out.alloc hzw (.cells #[.int .i64 x0, .int .i64 x1, .int .i64 x2, .int .i64 x3] 41)).alloc (by simp; omega) (.cells #[.int .i64 x3] 3))
              go_wp2_with (at_builtin; refine app_ints _ rfl _ _ rfl w.heap.size _ L _ [x3] HOA.out (ints_single (by simp)) rfl rfl (by simp; omega) hzb ?_; intro v9 w9 hown9 hg9; have HO9 := Lib.hid hown9; have HB9 := Lib.hid (HBA.out.grown hg9 hzb (fun k e => (HOA.out.lt k e).1)); clear hown9 hg9)
              go_roundw
              case rel =>
                refine ⟨k + 1, by omega, by go_num, ?_, HB9.out⟩
                rw [HS.out, ← List.cons_append, ← HLE.out]
                exact HO9.out
              case measure => simp [intOf]; omega
            · have t0 : (x0 == (i : Int)) = true := by simp [e0]
              have t1 : (x1 == (j : Int)) = false := by simp [e1]
              have HS : Hid (hist l (i : Int) (j : Int) (k + 1) = hist l (i : Int) (j : Int) k) := by show _ = _; rw [hist, ← HX'.out, stepAt, if_neg (fun h => e1 h.2), List.append_nil]
              clear e0 e1
              go_wp2
              go_roundw
              case rel => exact ⟨k + 1, by omega, by go_num, by rw [HS.out]; exact HO.out.alloc _, HBE.out.alloc hzw _⟩
              case measure => simp [intOf]; omega
          · have t0 : (x0 == (i : Int)) = false := by simp [e0]
            have HS : Hid (hist l (i : Int) (j : Int) (k + 1) = hist l (i : Int) (j : Int) k) := by show _ = _; rw [hist, ← HX'.out, stepAt, if_neg (fun h => e0 h.1), List.append_nil]
            clear e0
            go_wp2
            go_roundw
            case rel => exact ⟨k + 1, by omega, by go_num, by rw [HS.out]; exact HO.out.alloc _, HBE.out.alloc hzw _⟩
            case measure => simp [intOf]; omega
        · obtain rfl : k = l.length := by omega
          obtain ⟨va', vc', rfl⟩ := ownsRow_sl hown
          clear hown hbel
          go_wp2
          go_ret2
          exact ⟨_, rfl, own_of_ownsRow HO.out (Nat.le_refl _), HBE.out⟩
    · have HNO : Hid (¬ AtOk g l R C) := fun h => hc h.2
      have HCD := Lib.hid (decide_eq_false hc)
      clear h hc
      rw [decide_eq_false HNO.out, atOf_no HNO.out]
      go_enter Try.func14, Try.ntmps14
      go_wp2_with fail
      refine CE.out.mono ?_
      rintro e w1 ⟨a, b, cap, m, f, rfl, _, _, _, _, _, hb⟩
      have hz := hb.size
      have HB := Lib.hid ((hb.alloc hb.size (.cells #[.int .i64 g.length, .int .i64 (colsOf g), .slice (some ⟨a, 0, none⟩) (g.length * colsOf g) (g.length * colsOf g)] 64)).alloc (by simp; omega) (.cells #[.int .i64 g.length, .int .i64 (colsOf g), .slice (some ⟨b, 0, none⟩) (g.length * colsOf g) cap] 64))
      clear hb CE
      go_wp2_with fail
      refine (has_any g.length (colsOf g) _ R C _).mono ?_
      rintro e w2 ⟨rfl, hb2⟩
      rw [HCD.out]
      have HB2 := Lib.hid (HB.out.trans (hb2.mono (by simp; omega)))
      clear hb2
      go_wp2
      go_ret2
      exact ⟨_, rfl, .inl ⟨rfl, none, 0, rfl, by omega⟩, HB2.out⟩
  · have CE := Lib.hid (editions_no vg vl g l w hG hL h)
    have HNO : Hid (¬ AtOk g l R C) := fun hh => h hh.1
    rw [decide_eq_false HNO.out, atOf_no HNO.out]
    clear hG hL h
    go_enter Try.func14, Try.ntmps14
    go_wp2_with fail
    refine CE.out.mono ?_
    rintro e w1 ⟨rfl, hb⟩
    go_wp2
    go_ret2
    exact ⟨_, rfl, .inl ⟨rfl, none, 0, rfl, by omega⟩, (hb.alloc hb.size _).alloc (by have := hb.size; simp; omega) _⟩

end Go.Proofs.Ytdelcebkpdnnjaa
namespace Go.Proofs.Ytdelcebkpdnnjaa
open Go.RowKit Go.Deep

theorem asc_lt {l : List Quad} (h : AscUp l l.length) {i : Nat} : ∀ j, i < j → j < l.length → CellLt (l[i]?.getD q0) (l[j]?.getD q0) := by
  intro j
  induction j with
  | zero => intro h0; omega
  | succ j ih =>
    intro h1 h2
    have s := h j h2
    by_cases e : i = j
    · subst e; exact s
    · have := ih (by omega) (by omega)
      unfold CellLt at this s ⊢
      omega
theorem at_step {g : Rows} {l : List Quad} (hg : GridOk g) {k : Nat} (hk : k < l.length) (hc : CanUp g l (k + 1)) {r c : Nat} (hr : r < g.length) (hcc : c < colsOf g) :
    at2 (doneUp g l (k + 1)) r c = if (l[k]?.getD q0).1 = (r : Int) ∧ (l[k]?.getD q0).2.1 = (c : Int) then (l[k]?.getD q0).2.2.2 else at2 (doneUp g l k) r c := by
  have d := doneUp_grid hg k (by omega) (hc.less (by omega))
  have cn := hc k (by omega)
  rw [doneUp_succ hk, put_at d.1 cn (by rw [d.2.1]; exact hr) (by rw [d.2.2]; exact hcc)]
  have n1 := cn.1
  have n2 := cn.2.2.1
  by_cases e : (l[k]?.getD q0).1 = (r : Int) ∧ (l[k]?.getD q0).2.1 = (c : Int)
  · rw [if_pos e, if_pos (by omega)]
  · rw [if_neg e, if_neg (by omega)]
theorem at_same {g : Rows} {l : List Quad} (hg : GridOk g) {r c : Nat} (hr : r < g.length) (hcc : c < colsOf g) : ∀ k, k ≤ l.length → CanUp g l k → (∀ j, j < k → ¬ ((l[j]?.getD q0).1 = (r : Int) ∧ (l[j]?.getD q0).2.1 = (c : Int))) → at2 (doneUp g l k) r c = at2 g r c := by
  intro k
  induction k with
  | zero => intro _ _ _; rw [doneUp_zero]
  | succ k ih =>
    intro hk hc hn
    rw [at_step hg (by omega) hc hr hcc, if_neg (hn k (by omega))]
    exact ih (by omega) (hc.less (by omega)) fun j hj => hn j (by omega)
theorem at_new {g : Rows} {l : List Quad} (hg : GridOk g) {r c m : Nat} (hr : r < g.length) (hcc : c < colsOf g) (hm : (l[m]?.getD q0).1 = (r : Int) ∧ (l[m]?.getD q0).2.1 = (c : Int)) : ∀ k, m < k → k ≤ l.length → CanUp g l k → (∀ j, m < j → j < k → ¬ ((l[j]?.getD q0).1 = (r : Int) ∧ (l[j]?.getD q0).2.1 = (c : Int))) → at2 (doneUp g l k) r c = (l[m]?.getD q0).2.2.2 := by
  intro k
  induction k with
  | zero => intro h; omega
  | succ k ih =>
    intro h1 hk hc hn
    rw [at_step hg (by omega) hc hr hcc]
    by_cases e : m = k
    · subst e; rw [if_pos hm]
    · rw [if_neg (hn k (by omega) (by omega))]
      exact ih (by omega) (by omega) (hc.less (by omega)) fun j h2 h3 => hn j h2 (by omega)
/-- a short correction's heights are those of its cell -/
theorem are_at {g : Rows} {l : List Quad} (h : AreOk g l) {m : Nat} (hm : m < l.length) : ∃ r c : Nat, r < g.length ∧ c < colsOf g ∧ (l[m]?.getD q0).1 = (r : Int) ∧ (l[m]?.getD q0).2.1 = (c : Int) ∧ (l[m]?.getD q0).2.2.1 = at2 g r c ∧ at2 (edition g l) r c = (l[m]?.getD q0).2.2.2 := by
  have cn := h.1.2.2 m hm
  have d := doneUp_grid h.1.1 m (by omega) (h.1.2.2.less (by omega))
  have a1 := cn.1
  have a2 := cn.2.1
  have a3 := cn.2.2.1
  have a4 := cn.2.2.2.1
  rw [d.2.1] at a2
  rw [d.2.2] at a4
  have e1 : (l[m]?.getD q0).1 = (((l[m]?.getD q0).1.toNat : Nat) : Int) := by omega
  have e2 : (l[m]?.getD q0).2.1 = (((l[m]?.getD q0).2.1.toNat : Nat) : Int) := by omega
  refine ⟨(l[m]?.getD q0).1.toNat, (l[m]?.getD q0).2.1.toNat, by omega, by omega, e1, e2, ?_, ?_⟩
  · rw [← cn.2.2.2.2.1]
    refine at_same h.1.1 (by omega) (by omega) m (by omega) (h.1.2.2.less (by omega)) fun j hj hc => ?_
    have := asc_lt h.2 m hj hm
    unfold CellLt at this
    omega
  · refine at_new h.1.1 (by omega) (by omega) ⟨e1, e2⟩ _ hm (Nat.le_refl _) h.1.2.2 fun j hj hj2 hc => ?_
    have := asc_lt h.2 j hj hj2
    unfold CellLt at this
    omega
theorem clash_sym {g : Rows} {a b : List Quad} (h : ClashOk g a b) : ClashOk g b a := by
  obtain ⟨i, hi, j, hj, hc⟩ := h.2.2
  exact ⟨h.2.1, h.1, j, hj, i, hi, ⟨hc.1.1.symm, hc.1.2.symm⟩, fun e => hc.2 e.symm⟩
theorem clash_self {g : Rows} {a : List Quad} (h : AreOk g a) : ¬ ClashOk g a a := by
  rintro ⟨_, _, i, hi, j, hj, hc⟩
  by_cases e : i = j
  · subst e; exact hc.2 rfl
  · by_cases l : i < j
    · have := asc_lt h.2 j l hj
      unfold CellLt at this
      have := hc.1
      omega
    · have := asc_lt h.2 i (show j < i by omega) hi
      unfold CellLt at this
      have := hc.1
      omega
theorem clash_far {g : Rows} {a b : List Quad} (h : ClashOk g a b) : 1 ≤ farOf (edition g a) (edition g b) := by
  obtain ⟨i, hi, j, hj, hc⟩ := h.2.2
  obtain ⟨r, c, hr, hcc, e1, e2, e3, e4⟩ := are_at h.1 hi
  obtain ⟨r', c', hr', hcc', f1, f2, f3, f4⟩ := are_at h.2.1 hj
  have p1 := hc.1.1
  have p2 := hc.1.2
  obtain rfl : r = r' := by omega
  obtain rfl : c = c' := by omega
  have la := h.1.1.like
  have lb := h.2.1.1.like
  have lk : Like (edition g a) (edition g b) := ⟨⟨la.1.2.1, lb.1.2.1, la.1.2.2.symm.trans lb.1.2.2⟩, la.2.symm.trans lb.2⟩
  have hne : farOf (edition g a) (edition g b) ≠ 0 := by
    intro h0
    have e := (far_zero lk).1 h0
    rw [e, f4] at e4
    refine hc.2 ?_
    have : ∀ p q : Quad, p.1 = q.1 → p.2.1 = q.2.1 → p.2.2.1 = q.2.2.1 → p.2.2.2 = q.2.2.2 → p = q := by
      rintro ⟨_, _, _, _⟩ ⟨_, _, _, _⟩ h1 h2 h3 h4
      simp only at h1 h2 h3 h4
      rw [h1, h2, h3, h4]
    exact this _ _ p1 p2 (by rw [e3, f3]) e4.symm
  have := far_small lk
  omega

/-- a cell's heights: first, and after each of its corrections -/
def outL (R C : Nat) : Rows → List Quad → List Int
  | g, [] => [at2 g R C]
  | g, f :: l => if f.1 = (R : Int) ∧ f.2.1 = (C : Int) then at2 g R C :: outL R C (put g f) l else outL R C (put g f) l
theorem at_put {g : Rows} {f : Quad} (h : GridOk g) (hc : Can g f) {R C : Nat} (hR : R < g.length) (hC : C < colsOf g) : at2 (put g f) R C = if f.1 = (R : Int) ∧ f.2.1 = (C : Int) then f.2.2.2 else at2 g R C := by
  rw [put_at h hc hR hC]
  have n1 := hc.1
  have n2 := hc.2.2.1
  by_cases e : f.1 = (R : Int) ∧ f.2.1 = (C : Int)
  · rw [if_pos e, if_pos (by omega)]
  · rw [if_neg e, if_neg (by omega)]
theorem outL_head {R C : Nat} : ∀ (l : List Quad) (g : Rows), GridOk g → R < g.length → C < colsOf g → CanL g l → ∃ t, outL R C g l = at2 g R C :: t
  | [], g, _, _, _, _ => ⟨[], rfl⟩
  | f :: l, g, hg, hR, hC, h => by
    show ∃ t, (if f.1 = (R : Int) ∧ f.2.1 = (C : Int) then _ else _) = _
    by_cases e : f.1 = (R : Int) ∧ f.2.1 = (C : Int)
    · rw [if_pos e]; exact ⟨_, rfl⟩
    · rw [if_neg e]
      obtain ⟨t, ht⟩ := outL_head l (put g f) (put_ok hg h.1) (by rw [put_len]; exact hR) (by rw [put_cols]; exact hC) h.2
      exact ⟨t, by rw [ht, at_put hg h.1 hR hC, if_neg e]⟩
def histL (R C : Int) : List Quad → List Int
  | [] => []
  | f :: l => stepAt f R C ++ histL R C l
theorem histL_app (R C : Int) : ∀ a b, histL R C (a ++ b) = histL R C a ++ histL R C b
  | [], _ => rfl
  | f :: a, b => by simp only [List.cons_append, histL]; rw [histL_app R C a b, List.append_assoc]
theorem hist_take (l : List Quad) (R C : Int) : ∀ k, k ≤ l.length → hist l R C k = histL R C (l.take k) := by
  intro k
  induction k with
  | zero => intro _; rfl
  | succ k ih =>
    intro hk
    have e : l.take (k + 1) = l.take k ++ [l[k]?.getD q0] := by rw [List.take_add_one, getQ_eq (show k < l.length by omega), List.getElem?_eq_getElem (by omega)]; rfl
    rw [e, histL_app, ← ih (by omega)]
    show _ = _ ++ (stepAt _ R C ++ [])
    rw [List.append_nil]
    rfl
theorem outL_hist {R C : Nat} : ∀ (l : List Quad) (g : Rows), GridOk g → R < g.length → C < colsOf g → CanL g l → outL R C g l = at2 g R C :: histL R C l
  | [], g, _, _, _, _ => rfl
  | f :: l, g, hg, hR, hC, h => by
    show (if f.1 = (R : Int) ∧ f.2.1 = (C : Int) then _ else _) = at2 g R C :: ((if f.1 = (R : Int) ∧ f.2.1 = (C : Int) then [f.2.2.2] else []) ++ histL R C l)
    have ih := outL_hist l (put g f) (put_ok hg h.1) (by rw [put_len]; exact hR) (by rw [put_cols]; exact hC) h.2
    have ap := at_put hg h.1 hR hC
    by_cases e : f.1 = (R : Int) ∧ f.2.1 = (C : Int)
    · rw [if_pos e] at ap
      rw [if_pos e, if_pos e, ih, ap]; rfl
    · rw [if_neg e] at ap
      rw [if_neg e, if_neg e, ih, ap]; rfl
theorem outL_snoc {R C : Nat} : ∀ (l : List Quad) (g : Rows) (f : Quad), GridOk g → R < g.length → C < colsOf g → CanL g (l ++ [f]) → outL R C g (l ++ [f]) = outL R C g l ++ (if f.1 = (R : Int) ∧ f.2.1 = (C : Int) then [f.2.2.2] else [])
  | [], g, f, hg, hR, hC, h => by
    show (if f.1 = (R : Int) ∧ f.2.1 = (C : Int) then [at2 g R C, at2 (put g f) R C] else [at2 (put g f) R C]) = [at2 g R C] ++ _
    rw [at_put hg h.1 hR hC]
    by_cases e : f.1 = (R : Int) ∧ f.2.1 = (C : Int)
    · rw [if_pos e, if_pos e, if_pos e]; rfl
    · rw [if_neg e, if_neg e, if_neg e]; rfl
  | f' :: l, g, f, hg, hR, hC, h => by
    have ih := outL_snoc l (put g f') f (put_ok hg h.1) (by rw [put_len]; exact hR) (by rw [put_cols]; exact hC) h.2
    show (if f'.1 = (R : Int) ∧ f'.2.1 = (C : Int) then at2 g R C :: outL R C (put g f') (l ++ [f]) else outL R C (put g f') (l ++ [f])) = (if f'.1 = (R : Int) ∧ f'.2.1 = (C : Int) then at2 g R C :: outL R C (put g f') l else outL R C (put g f') l) ++ _
    rw [ih]
    split <;> rfl
/-- taken back, a cell's heights are the same the other way round -/
theorem outL_back {R C : Nat} : ∀ (l : List Quad) (g : Rows), GridOk g → R < g.length → C < colsOf g → CanL g l → outL R C (l.foldl put g) (backL l) = (outL R C g l).reverse
  | [], _, _, _, _, _ => rfl
  | f :: l, g, hg, hR, hC, h => by
    have hg' := put_ok hg h.1
    have ih := outL_back l (put g f) hg' (by rw [put_len]; exact hR) (by rw [put_cols]; exact hC) h.2
    have all := (back_L (f :: l) g hg h).1
    have hE : EdOk g [] ∨ True := .inr trivial
    clear hE
    have lk : GridOk ((f :: l).foldl put g) ∧ ((f :: l).foldl put g).length = g.length ∧ colsOf ((f :: l).foldl put g) = colsOf g := by
      have := doneUp_grid hg (f :: l).length (Nat.le_refl _) (canL_up _ _ h)
      have e : doneUp g (f :: l) (f :: l).length = (f :: l).foldl put g := by unfold doneUp; rw [List.take_length]
      rw [e] at this
      exact this
    rw [back_cons] at all ⊢
    rw [outL_snoc _ _ _ lk.1 (by rw [lk.2.1]; exact hR) (by rw [lk.2.2]; exact hC) all]
    rw [List.foldl_cons, ih]
    show _ ++ (if f.1 = (R : Int) ∧ f.2.1 = (C : Int) then [f.2.2.1] else []) = (if f.1 = (R : Int) ∧ f.2.1 = (C : Int) then at2 g R C :: outL R C (put g f) l else outL R C (put g f) l).reverse
    by_cases e : f.1 = (R : Int) ∧ f.2.1 = (C : Int)
    · rw [if_pos e, if_pos e, List.reverse_cons]
      have := h.1.2.2.2.2.1
      rw [show f.1.toNat = R by omega, show f.2.1.toNat = C by omega] at this
      rw [this]
    · rw [if_neg e, if_neg e, List.append_nil]
/-- neighbours differ -/
theorem outL_step {R C : Nat} : ∀ (l : List Quad) (g : Rows), GridOk g → R < g.length → C < colsOf g → CanL g l → ∀ i, i + 1 < (outL R C g l).length → (outL R C g l)[i + 1]?.getD 0 ≠ (outL R C g l)[i]?.getD 0
  | [], _, _, _, _, _ => fun i hi => by simp [outL] at hi
  | f :: l, g, hg, hR, hC, h => by
    have hg' := put_ok hg h.1
    have hR' : R < (put g f).length := by rw [put_len]; exact hR
    have hC' : C < colsOf (put g f) := by rw [put_cols]; exact hC
    have ih := outL_step l (put g f) hg' hR' hC' h.2
    by_cases e : f.1 = (R : Int) ∧ f.2.1 = (C : Int)
    · have eo : outL R C g (f :: l) = at2 g R C :: outL R C (put g f) l := if_pos e
      rw [eo]
      intro i hi
      cases i with
      | zero =>
        obtain ⟨t, ht⟩ := outL_head l (put g f) hg' hR' hC' h.2
        rw [ht, at_put hg h.1 hR hC, if_pos e]
        show f.2.2.2 ≠ at2 g R C
        have := h.1.2.2.2.2.1
        rw [show f.1.toNat = R by omega, show f.2.1.toNat = C by omega] at this
        rw [this]
        exact h.1.2.2.2.2.2.2.2
      | succ i => exact ih i (by simpa using hi)
    · have eo : outL R C g (f :: l) = outL R C (put g f) l := if_neg e
      rw [eo]
      exact ih
theorem atOf_outL {g : Rows} {l : List Quad} {R C : Int} (h : AtOk g l R C) : atOf g l R C = outL R.toNat C.toNat g l := by
  have c := h.2
  unfold HasCell at c
  rw [atOf_yes h, outL_hist l g h.1.1 (by omega) (by omega) (canUp_L l g h.1.2.2), hist_take l R C _ (Nat.le_refl _), List.take_length, show ((R.toNat : Nat) : Int) = R by omega, show ((C.toNat : Nat) : Int) = C by omega]
end Go.Proofs.Ytdelcebkpdnnjaa
namespace Go.Proofs.Ytdelcebkpdnnjaa
open Go.RowKit Go.Deep

theorem lt_ext : ∀ a b : List Quad, a.Pairwise CellLt → b.Pairwise CellLt → (∀ x, x ∈ a ↔ x ∈ b) → a = b
  | [], [], _, _, _ => rfl
  | [], y :: b, _, _, h => absurd ((h y).2 (List.mem_cons_self ..)) (by simp)
  | x :: a, [], _, _, h => absurd ((h x).1 (List.mem_cons_self ..)) (by simp)
  | x :: a, y :: b, ha, hb, h => by
    rw [List.pairwise_cons] at ha hb
    have irr : ∀ p q : Quad, CellLt p q → CellLt q p → False := by intro p q h1 h2; unfold CellLt at h1 h2; omega
    have e : x = y := by
      have h1 := (h x).1 (List.mem_cons_self ..)
      have h2 := (h y).2 (List.mem_cons_self ..)
      rw [List.mem_cons] at h1 h2
      rcases h1 with h1 | h1
      · exact h1
      · rcases h2 with h2 | h2
        · exact h2.symm
        · exact (irr _ _ (ha.1 y h2) (hb.1 x h1)).elim
    subst e
    rw [lt_ext a b ha.2 hb.2 fun z => ?_]
    constructor
    · intro hz
      have := (h z).1 (List.mem_cons_of_mem _ hz)
      rw [List.mem_cons] at this
      rcases this with rfl | this
      · exact (irr _ _ (ha.1 z hz) (ha.1 z hz)).elim
      · exact this
    · intro hz
      have := (h z).2 (List.mem_cons_of_mem _ hz)
      rw [List.mem_cons] at this
      rcases this with rfl | this
      · exact (irr _ _ (hb.1 z hz) (hb.1 z hz)).elim
      · exact this
theorem mem_diffs {ga gb : Rows} {q : Quad} : q ∈ diffsOf ga gb ↔ ∃ i j : Nat, i < ga.length ∧ j < colsOf ga ∧ at2 ga i j ≠ at2 gb i j ∧ q = ((i : Int), (j : Int), at2 ga i j, at2 gb i j) := by
  unfold diffsOf diffs rowDiff
  simp only [List.mem_flatMap, List.mem_range, List.mem_filterMap]
  constructor
  · rintro ⟨i, hi, j, hj, h⟩
    by_cases e : (ga[i]?.getD [])[j]?.getD 0 = (gb[i]?.getD [])[j]?.getD 0
    · rw [if_pos e] at h; cases h
    · rw [if_neg e] at h
      exact ⟨i, j, hi, hj, e, (Option.some.inj h).symm⟩
  · rintro ⟨i, j, hi, hj, e, rfl⟩
    exact ⟨i, hi, j, hj, if_neg e⟩
theorem are_pair {l : List Quad} (h : AscUp l l.length) : l.Pairwise CellLt := by
  rw [List.pairwise_iff_getElem]
  intro i j hi hj hij
  have := asc_lt h j hij hj
  rw [getQ_eq hi, getQ_eq hj] at this
  exact this
theorem are_diffs {g : Rows} {l : List Quad} (h : AreOk g l) : diffsOf g (edition g l) = l := by
  refine lt_ext _ _ (diffs_asc g (edition g l) _).1 (are_pair h.2) fun q => ?_
  rw [mem_diffs]
  have key : ∀ m, m < l.length → ∀ r c : Nat, (l[m]?.getD q0).1 = (r : Int) → (l[m]?.getD q0).2.1 = (c : Int) → r < g.length ∧ c < colsOf g ∧ at2 g r c ≠ at2 (edition g l) r c ∧ l[m]?.getD q0 = ((r : Int), (c : Int), at2 g r c, at2 (edition g l) r c) := by
    intro m hm r c e1 e2
    obtain ⟨r', c', hr, hc, f1, f2, f3, f4⟩ := are_at h hm
    obtain rfl : r = r' := by omega
    obtain rfl : c = c' := by omega
    have ne := (h.1.2.2 m hm).2.2.2.2.2.2.2
    refine ⟨hr, hc, fun e => ne (by rw [f3, ← f4]; exact e.symm), ?_⟩
    rw [f4, ← f3, ← e1, ← e2]
  constructor
  · rintro ⟨i, j, hi, hj, hne, rfl⟩
    have : ¬ ∀ m, m < l.length → ¬ ((l[m]?.getD q0).1 = (i : Int) ∧ (l[m]?.getD q0).2.1 = (j : Int)) := fun hn => hne (at_same h.1.1 hi hj _ (Nat.le_refl _) h.1.2.2 hn).symm
    obtain ⟨m, hm⟩ := Classical.not_forall.1 this
    obtain ⟨hm1, hm2⟩ := Classical.not_imp.1 hm
    have hm2 := Classical.not_not.1 hm2
    have k := key m hm1 i j hm2.1 hm2.2
    rw [← k.2.2.2, getQ_eq hm1]
    exact List.getElem_mem hm1
  · intro hq
    obtain ⟨m, hm, rfl⟩ := List.mem_iff_getElem.1 hq
    obtain ⟨r, c, hr, hc, f1, f2, _, _⟩ := are_at h hm
    have k := key m hm r c f1 f2
    exact ⟨r, c, k.1, k.2.1, k.2.2.1, by rw [← getQ_eq hm]; exact k.2.2.2⟩
end Go.Proofs.Ytdelcebkpdnnjaa
namespace Go.Proofs.Ytdelcebkpdnnjaa
open Go.RowKit Go.Deep Go.Sort Go.Lib BigFrame

theorem drewN_below {a b : World} {n : Nat} (h : b = a.drewN n) : Below a.heap.size a b := by rw [h]; exact below_n (Below.refl _ _) n
theorem grown_app {w W w9 : World} {o : Obj} {n : Nat} (h : ∃ os, W = grow w os) (h9 : w9 = (W.alloc o).drew.drewN n) : ∃ q os, w9 = grow (w.drewN q) os := by
  obtain ⟨os, rfl⟩ := h
  rw [h9, alloc_eq_grow, grow_grow]
  exact ⟨1 + n, os ++ #[o], by unfold grow World.drewN World.drew; simp [Nat.add_assoc]⟩
set_option maxHeartbeats 2000000 in
set_option maxRecDepth 100000 in
theorem byCell_grow (p q : Quad) (w : World) :
    Calls Try.prog 58 #[qv p, qv q] w fun e w' => e = .returned (.int .i64 (cellCmp p q)) ∧ (∃ q os, w' = grow (w.drewN q) os) := by
  obtain ⟨p0, p1, p2, p3⟩ := p
  obtain ⟨r0, r1, r2, r3⟩ := q
  obtain ⟨x, hx⟩ : ∃ x, x = cmpI p0 r0 := ⟨_, rfl⟩
  obtain ⟨y, hy⟩ : ∃ y, y = cmpI p1 r1 := ⟨_, rfl⟩
  have HC : Hid (cellCmp (p0, p1, p2, p3) (r0, r1, r2, r3) = orI x y) := by show _ = _; rw [hx, hy]; rfl
  have CX : Hid (∀ W, Calls Try.prog 86 #[.int .i64 p0, .int .i64 r0] W fun e w' => e = .returned (.int .i64 x) ∧ W = w') := fun W => by rw [hx]; exact Compare_any _ _ W
  have CY : Hid (∀ W, Calls Try.prog 86 #[.int .i64 p1, .int .i64 r1] W fun e w' => e = .returned (.int .i64 y) ∧ W = w') := fun W => by rw [hy]; exact Compare_any _ _ W
  clear hx hy
  go_enter Try.func58, Try.ntmps58
  go_wp2_with fail
  obtain ⟨W, hW⟩ : ∃ W, W = (w.alloc (.cells #[.int .i64 p0, .int .i64 p1, .int .i64 p2, .int .i64 p3] 41)).alloc (.cells #[.int .i64 r0, .int .i64 r1, .int .i64 r2, .int .i64 r3] 41) := ⟨_, rfl⟩
  have a0 : W.cell? ⟨w.heap.size, 0, none⟩ = some (.int .i64 p0) := by rw [hW]; exact (World.cell?_alloc_old _ _ _ (by simp)).trans (by simp [World.cell?_alloc_new])
  have a1 : W.cell? ⟨w.heap.size, 1, none⟩ = some (.int .i64 p1) := by rw [hW]; exact (World.cell?_alloc_old _ _ _ (by simp)).trans (by simp [World.cell?_alloc_new])
  have b0 : W.cell? ⟨w.heap.size + 1, 0, none⟩ = some (.int .i64 r0) := by rw [hW]; simp
  have b1 : W.cell? ⟨w.heap.size + 1, 1, none⟩ = some (.int .i64 r1) := by rw [hW]; simp
  have hWz : w.heap.size + 2 ≤ W.heap.size := by rw [hW]; simp
  have B0 : Hid (∃ os, W = grow w os) := by show ∃ os, _; rw [hW, alloc_eq_grow, alloc_eq_grow, grow_grow]; exact ⟨_, rfl⟩
  rw [← hW]
  clear hW
  have CO : Hid (∀ W a, Ints W a [x, y] → Calls Try.prog 85 #[a] W fun e w' => e = .returned (.int .i64 (orI x y)) ∧ ∃ n, w' = W.drewN n) := fun W a h => Or_any a x y W h
  obtain ⟨r, hr⟩ : ∃ r, r = orI x y := ⟨_, rfl⟩
  rw [← hr] at HC CO
  clear hr
  go_region_held3 (fun w' => w'.cell? ⟨w.heap.size, 0, none⟩ = some (.int .i64 p0) ∧ w'.cell? ⟨w.heap.size, 1, none⟩ = some (.int .i64 p1) ∧ w'.cell? ⟨w.heap.size + 1, 0, none⟩ = some (.int .i64 r0) ∧ w'.cell? ⟨w.heap.size + 1, 1, none⟩ = some (.int .i64 r1))
    (first | exact ⟨a0, a1, b0, b1⟩ | exact ⟨g0, g1, g2, g3⟩ | go_keep)
    (first
      | (go_at_call 86; (with_reducible refine (CX.out _).mono ?_); rintro e w' ⟨rfl, rfl⟩)
      | (go_at_call 86; (with_reducible refine (CY.out _).mono ?_); rintro e w' ⟨rfl, rfl⟩)
      | (go_at_call 85; (with_reducible refine (CO.out _ _ ints_pair).mono ?_); rintro e w9 ⟨rfl, n9, hw9⟩; have hb9 := drewN_below hw9; have HB9 := Lib.hid (grown_app B0.out hw9); clear hw9; have g0 : w9.cell? ⟨w.heap.size, 0, none⟩ = _ := (hb9.cell (p := ⟨w.heap.size, 0, none⟩) (by show w.heap.size < (W.alloc _).heap.size; simp; omega)).trans ((World.cell?_alloc_old W _ ⟨w.heap.size, 0, none⟩ (by show w.heap.size ≠ W.heap.size; omega)).trans a0); have g1 : w9.cell? ⟨w.heap.size, 1, none⟩ = _ := (hb9.cell (p := ⟨w.heap.size, 1, none⟩) (by show w.heap.size < (W.alloc _).heap.size; simp; omega)).trans ((World.cell?_alloc_old W _ ⟨w.heap.size, 1, none⟩ (by show w.heap.size ≠ W.heap.size; omega)).trans a1); have g2 : w9.cell? ⟨w.heap.size + 1, 0, none⟩ = _ := (hb9.cell (p := ⟨w.heap.size + 1, 0, none⟩) (by show w.heap.size + 1 < (W.alloc _).heap.size; simp; omega)).trans ((World.cell?_alloc_old W _ ⟨w.heap.size + 1, 0, none⟩ (by show w.heap.size + 1 ≠ W.heap.size; omega)).trans b0); have g3 : w9.cell? ⟨w.heap.size + 1, 1, none⟩ = _ := (hb9.cell (p := ⟨w.heap.size + 1, 1, none⟩) (by show w.heap.size + 1 < (W.alloc _).heap.size; simp; omega)).trans ((World.cell?_alloc_old W _ ⟨w.heap.size + 1, 1, none⟩ (by show w.heap.size + 1 ≠ W.heap.size; omega)).trans b1); clear hb9)
      | fail)
  all_goals (go_wp2_with fail)
  all_goals go_ret
  all_goals exact ⟨ret_int HC.out.symm, HB9.out⟩

theorem ltCell (p q : Quad) : ltOf cellCmp p q = decide (CellLt p q) := by
  unfold ltOf
  exact decide_eq_decide.2 (cellCmp_lt p q)
/-- byCell(p, q) < 0 is a strict weak order -/
theorem swoCell : SWO (ltOf cellCmp) where
  irrefl x := by rw [ltCell]; exact decide_eq_false (by unfold CellLt; omega)
  trans x y z h1 h2 := by
    rw [ltCell] at h1 h2 ⊢
    have a := of_decide_eq_true h1
    have b := of_decide_eq_true h2
    exact decide_eq_true (by unfold CellLt at *; omega)
  ntrans x y z h1 h2 := by
    rw [ltCell] at h1 h2 ⊢
    have a := of_decide_eq_false h1
    have b := of_decide_eq_false h2
    exact decide_eq_false (by unfold CellLt at *; omega)
/-- a correction's four cells -/
def encQ (q : Quad) : List Value := [.int .i64 q.1, .int .i64 q.2.1, .int .i64 q.2.2.1, .int .i64 q.2.2.2]
theorem encQ_agg (q : Quad) : Value.agg (encQ q).toArray = qv q := rfl
theorem encQ_len (q : Quad) : (encQ q).length = 4 := rfl
theorem encQ_one (q : Quad) : ∀ v ∈ encQ q, v.oneCell' = true := fun v hv => by simp [encQ] at hv; rcases hv with rfl | rfl | rfl | rfl <;> rfl
theorem cmpLaysQ (blk off size : Nat) (w : World) : CmpLays Try.prog 58 #[] encQ 4 cellCmp blk off size w :=
  fun _ _ _ _ x y => byCell_grow x y _
end Go.Proofs.Ytdelcebkpdnnjaa
namespace Go.Proofs.Ytdelcebkpdnnjaa
open Go.RowKit Go.Deep Go.Sort Go.Lib BigFrame

def zeroQ : Quad := (0, 0, 0, 0)
theorem setMany_one (d : Array Quad) (i : Nat) (x : Quad) (hi : i < d.size) : setMany (flatK encQ 4 d) (i * 4) (encQ x) = flatK encQ 4 (d.setIfInBounds i x) := by
  refine ext_get! (by simp) fun t ht => ?_
  have ht' : t < d.size * 4 := by simpa using ht
  rw [get_setMany _ _ _ t (by simpa using ht'), get_flatK _ _ _ t ht', get_flatK _ _ _ t (by simpa using ht'), encQ_len]
  by_cases a : t / 4 = i
  · rw [if_pos ((blk_iff 4 i t (by omega)).2 a), show t - i * 4 = t % 4 by omega, a, getElem!_set_same _ _ _ hi]
  · rw [if_neg (fun h => a ((blk_iff 4 i t (by omega)).1 h)), getElem!_set_other _ _ _ _ a]
theorem setMany_app (F : Array Value) : ∀ (a b : List Value) (s : Nat), setMany F s (a ++ b) = setMany (setMany F s a) (s + a.length) b := by
  intro a
  induction a generalizing F with
  | nil => intro b s; rfl
  | cons x a ih => intro b s; rw [List.cons_append, setMany, ih, setMany]; congr 1; simp; omega
def flatL (xs : List Quad) : List Value := xs.flatMap encQ
theorem flatL_len (xs : List Quad) : (flatL xs).length = xs.length * 4 := by
  induction xs with
  | nil => rfl
  | cons x r ih => rw [flatL, List.flatMap_cons, List.length_append, ← flatL, ih, encQ_len, List.length_cons]; omega
theorem setMany_lay : ∀ (xs : List Quad) (d : Array Quad) (k : Nat), k + xs.length ≤ d.size → setMany (flatK encQ 4 d) (k * 4) (flatL xs) = flatK encQ 4 (lay d k xs)
  | [], _, _, _ => rfl
  | x :: r, d, k, h => by
    have hl : k + (r.length + 1) ≤ d.size := by simpa using h
    rw [flatL, List.flatMap_cons, setMany_app, encQ_len, setMany_one d k x (by omega), show k * 4 + 4 = (k + 1) * 4 by omega, ← flatL, setMany_lay r _ (k + 1) (by simp; omega)]
    rfl
theorem store_worldQ (w : World) (m blk : Nat) (dk : Array Quad) (i : Nat) (x : Quad) (hi : i < dk.size) :
    (putRowK encQ 4 (Sort.ahead w m) blk 0 dk).setCells blk (i * 4) (encQ x) = putRowK encQ 4 (Sort.ahead w m) blk 0 (dk.setIfInBounds i x) := by
  unfold putRowK
  have h := setCells_putRow (Sort.ahead w m) blk 0 (encQ x) (i * 4) (flatK encQ 4 dk) (by rw [encQ_len, size_flatK]; omega)
  rw [Nat.zero_add] at h
  rw [h, setMany_one dk i x hi]
theorem clear_worldQ (w : World) (m blk : Nat) (dk : Array Quad) (k : Nat) (xs : List Quad) (h : k + xs.length ≤ dk.size) :
    (putRowK encQ 4 (Sort.ahead w m) blk 0 dk).setCells blk (k * 4) (flatL xs) = putRowK encQ 4 (Sort.ahead w m) blk 0 (lay dk k xs) := by
  unfold putRowK
  have h' := setCells_putRow (Sort.ahead w m) blk 0 (flatL xs) (k * 4) (flatK encQ 4 dk) (by rw [flatL_len, size_flatK]; omega)
  rw [Nat.zero_add] at h'
  rw [h', setMany_lay xs dk k h]
theorem holds_store {W : World} {blk : Nat} {dk : Array Quad} (h : HoldsK encQ 4 W blk 0 dk) (i : Nat) (x : Quad) (hi : i < dk.size) :
    Sem.run Try.prog (storeCells ⟨blk, i * 4, none⟩ (encQ x) 0) W = .ok () (W.setCells blk (i * 4) (encQ x)) := by
  have hs := stores_of_holds Try.prog h (i * 4) (encQ x) (by rw [encQ_len, size_flatK]; omega) (encQ_one x)
  rwa [Nat.zero_add] at hs
theorem flatL_zero (n : Nat) : flatL (List.replicate n zeroQ) = List.replicate (n * 4) (.int .i64 0) := by
  induction n with
  | zero => rfl
  | succ n ih => rw [List.replicate_succ, flatL, List.flatMap_cons, ← flatL, ih, show (n + 1) * 4 = 4 + n * 4 by omega, ← List.replicate_append_replicate]; rfl
theorem clearQ {W : World} {blk : Nat} {dk : Array Quad} (h : HoldsK encQ 4 W blk 0 dk) (k n c : Nat) (ty : TypeId) (hn : 0 < n) (hk : k + n ≤ dk.size) :
    (Builtin.clear_ #[24] ty #[.slice (some ⟨blk, k * 4, none⟩) n c]).run Try.prog W = .ok (.tuple #[]) (W.setCells blk (k * 4) (flatL (List.replicate n zeroQ))) := by
  have hs := stores_of_holds Try.prog h (k * 4) (flatL (List.replicate n zeroQ)) (by rw [flatL_len, size_flatK, List.length_replicate]; omega) (fun v hv => by rw [flatL_zero] at hv; rw [List.eq_of_mem_replicate hv]; rfl)
  rw [Nat.zero_add] at hs
  have hz : ∀ w, (zeroValue 41).run Try.prog w = .ok (.agg #[.int .i64 0, .int .i64 0, .int .i64 0, .int .i64 0]) w := Try.zeroValue41
  have hzc : (Builtin.zeroCells (Value.agg #[.int .i64 0, .int .i64 0, .int .i64 0, .int .i64 0]).cells n).toList = flatL (List.replicate n zeroQ) := by
    rw [flatL_zero]
    refine List.ext_getElem? fun i => ?_
    by_cases hi : i < n * 4
    · have : i % 4 = 0 ∨ i % 4 = 1 ∨ i % 4 = 2 ∨ i % 4 = 3 := by omega
      rcases this with e | e | e | e <;> simp [Builtin.zeroCells, Value.cells, hi, e]
    · simp [Builtin.zeroCells, Value.cells, hi]
  obtain ⟨m, rfl⟩ : ∃ m, n = m + 1 := ⟨n - 1, by omega⟩
  simp [Builtin.clear_, run_underlying Try.underlying24, hz, hzc, hs]
end Go.Proofs.Ytdelcebkpdnnjaa
namespace Go.Proofs.Ytdelcebkpdnnjaa
open Go.RowKit Go.Deep Go.Sort Go.Lib BigFrame

theorem holdsQ {w : World} {blk : Nat} {d : Array Quad} (h : HoldsK encQ 4 w blk 0 d) {i : Nat} (hi : i < d.size) :
    w.cell? ⟨blk, i * 4, none⟩ = some (.int .i64 d[i]!.1) ∧ w.cell? ⟨blk, i * 4 + 1, none⟩ = some (.int .i64 d[i]!.2.1) ∧ w.cell? ⟨blk, i * 4 + 2, none⟩ = some (.int .i64 d[i]!.2.2.1) ∧ w.cell? ⟨blk, i * 4 + 3, none⟩ = some (.int .i64 d[i]!.2.2.2) := by
  have a := (h.cell hi (show 0 < 4 by omega)).1
  have b := (h.cell hi (show 1 < 4 by omega)).1
  have c := (h.cell hi (show 2 < 4 by omega)).1
  have e := (h.cell hi (show 3 < 4 by omega)).1
  rw [Nat.zero_add] at a b c e
  exact ⟨a, b, c, e⟩

theorem freeQ {w : World} {blk : Nat} {d : Array Quad} (h : HoldsK encQ 4 w blk 0 d) {i : Nat} (hi : i < d.size) :
    w.frozen? ⟨blk, i * 4, none⟩ = false ∧ w.frozen? ⟨blk, i * 4 + 1, none⟩ = false ∧ w.frozen? ⟨blk, i * 4 + 2, none⟩ = false ∧ w.frozen? ⟨blk, i * 4 + 3, none⟩ = false := by
  have a := (h.cell hi (show 0 < 4 by omega)).2
  have b := (h.cell hi (show 1 < 4 by omega)).2
  have c := (h.cell hi (show 2 < 4 by omega)).2
  have e := (h.cell hi (show 3 < 4 by omega)).2
  rw [Nat.zero_add] at a b c e
  exact ⟨a, b, c, e⟩

set_option maxHeartbeats 2000000 in
set_option maxRecDepth 100000 in
theorem compactQ_any (blk cap : Nat) (d : Array Quad) (w : World) (hH : HoldsK encQ 4 w blk 0 d) (hsz : d.size ≤ 1000000) (hcap : d.size ≤ cap) (hc2 : cap ≤ 9223372036854775807) :
    Calls Try.prog 59 #[.slice (some ⟨blk, 0, none⟩) d.size cap] w fun e w' =>
      e = .returned (.slice (some ⟨blk, 0, none⟩) (compactUpTo d d.size).length cap) ∧ ∃ q, w' = putRowK encQ 4 (Sort.ahead w q) blk 0 (compactUpTo d d.size ++ List.replicate (d.size - (compactUpTo d d.size).length) zeroQ).toArray := by
  have same : ∀ q, (∀ j, j < d.size → keeps d j = true) → (compactUpTo d d.size).length = d.size ∧ w.drewN q = putRowK encQ 4 (Sort.ahead w q) blk 0 (compactUpTo d d.size ++ List.replicate (d.size - (compactUpTo d d.size).length) zeroQ).toArray := by
    intro q hall
    have e : compactUpTo d d.size = d.toList := by rw [compactUpTo_all d _ hall, range_map_get]
    rw [e]
    refine ⟨by simp, ?_⟩
    simp only [Array.length_toList, Nat.sub_self, List.replicate_zero, List.append_nil, Array.toArray_toList]
    exact (putRowK_self encQ 4 (Sort.ahead w q) blk 0 d (holdsK_ahead encQ 4 w q blk 0 d hH)).symm
  have HS := Lib.hid same
  clear same
  obtain ⟨n, hn⟩ : ∃ n, n = d.size := ⟨_, rfl⟩
  rw [← hn] at HS hsz hcap ⊢
  have HN := Lib.hid hn
  clear hn
  have HH := Lib.hid hH
  clear hH
  by_cases h2 : n < 2
  · have t1 : (n : Int) < 2 := by omega
    go_enter Try.func59, Try.ntmps59
    go_wp2_with fail
    go_ret
    obtain ⟨e1, e2⟩ := HS.out 0 (fun j hj => keeps_lt_one d j (by omega))
    exact ⟨by rw [e1]; rfl, 0, e2⟩
  · have t1 : ¬ (n : Int) < 2 := by omega
    go_enter Try.func59, Try.ntmps59
    go_wp2_with fail
    go_loopw [3] (fun s3 wr => ∃ k q : Nat, 1 ≤ k ∧ k ≤ n ∧ s3 = .int .i64 k ∧ wr = w.drewN q ∧ ∀ j, j < k → keeps d j = true) (fun i _ => n - (intOf i).toNat)
    case atStart => exact ⟨1, 0, Nat.le_refl _, by omega, rfl, rfl, keeps_lt_one d⟩
    case round =>
      obtain ⟨k, q, hk1, hk, rfl, hwr, hall⟩ := hrel
      have A := Lib.hid hall
      clear hall
      by_cases hlt : k < n
      · have HW : HoldsK encQ 4 wr blk 0 d := by rw [hwr]; exact HH.out
        obtain ⟨a0, a1, a2, a3⟩ := holdsQ HW (show k < d.size by have := HN.out; omega)
        obtain ⟨b0, b1, b2, b3⟩ := holdsQ HW (show k - 1 < d.size by have := HN.out; omega)
        have WR := Lib.hid hwr
        clear HW hwr
        obtain ⟨k', hk'⟩ : ∃ k', k' = k - 1 := ⟨_, rfl⟩
        rw [← hk'] at b0 b1 b2 b3
        obtain ⟨x, hx⟩ : ∃ x, x = d[k]! := ⟨_, rfl⟩
        obtain ⟨y, hy⟩ : ∃ y, y = d[k']! := ⟨_, rfl⟩
        rw [← hx] at a0 a1 a2 a3
        rw [← hy] at b0 b1 b2 b3
        have e1 : IntKind.i64.wrap ((k : Int) - 1) = (k' : Int) := by rw [IntWalk.i64_in _ (by omega)]; omega
        have x1 : (k : Int) < (n : Int) := by omega
        have x2 : (0 : Int) ≤ (k : Int) := by omega
        have x3 : (k' : Int) < (n : Int) := by omega
        have x4 : (0 : Int) ≤ (k' : Int) := by omega
        have x5 : k < cap := by omega
        have x6 : (k : Int) ≤ (n : Int) := by omega
        have HX := Lib.hid hx
        have HY := Lib.hid hy
        have HK' := Lib.hid hk'
        clear hx hy hk'
        go_wp2_with fail
        by_cases hxy : x = y
        · have heq : ∀ W, (Op.equalIn 10000 41 (qv x) (qv y)).run Try.prog W = .ok true W := by rw [hxy]; exact eq_fix_yes y
          have HXY := Lib.hid hxy
          clear hxy
          obtain ⟨x0, x1', x2', x3'⟩ := x
          obtain ⟨y0, y1, y2, y3⟩ := y
          simp only [qv] at heq
          go_region_held3 (fun w' => w'.cell? ⟨blk, k * 4, none⟩ = some (.int .i64 x0) ∧ w'.cell? ⟨blk, k * 4 + 1, none⟩ = some (.int .i64 x1') ∧ w'.cell? ⟨blk, k * 4 + 2, none⟩ = some (.int .i64 x2') ∧ w'.cell? ⟨blk, k * 4 + 3, none⟩ = some (.int .i64 x3') ∧ w'.cell? ⟨blk, k' * 4, none⟩ = some (.int .i64 y0) ∧ w'.cell? ⟨blk, k' * 4 + 1, none⟩ = some (.int .i64 y1) ∧ w'.cell? ⟨blk, k' * 4 + 2, none⟩ = some (.int .i64 y2) ∧ w'.cell? ⟨blk, k' * 4 + 3, none⟩ = some (.int .i64 y3))
            (first | exact ⟨a0, a1, a2, a3, b0, b1, b2, b3⟩ | go_keep) (fail)
          all_goals
            clear a0 a1 a2 a3 b0 b1 b2 b3 heq e1 x3 x4
            have DUP : Hid (keeps d k = false) := keeps_neg (by omega) (by rw [← HX.out, ← HK'.out, ← HY.out]; exact HXY.out)
            clear HX HY HXY HK'
            go_wp2_with fail
            go_loopw [3, 5] (fun s3 s5 wr2 => ∃ (kk k2 q2 : Nat) (dk : Array Quad), s3 = .int .i64 kk ∧ s5 = .int .i64 k2 ∧ 1 ≤ k2 ∧ k + k2 ≤ n ∧ wr2 = putRowK encQ 4 (Sort.ahead w q2) blk 0 dk ∧ CompInv d (k + k2) kk dk) (fun _ s5 _ => n - k - (intOf s5).toNat)
            case atStart => exact ⟨k, 1, q + 1, d, rfl, rfl, Nat.le_refl _, by omega, by rw [WR.out]; exact (putRowK_self encQ 4 (Sort.ahead w (q + 1)) blk 0 d (holdsK_ahead encQ 4 w (q + 1) blk 0 d HH.out)).symm, CompInv.start A.out DUP.out⟩
            case round =>
              clear WR
              obtain ⟨kk, k2, q2, dk, rfl, rfl, h1, hle, hwr, hI⟩ := hrel
              have hkk := hI.lt
              have hds := hI.size
              rw [← HN.out] at hds
              have hHk : HoldsK encQ 4 wr blk 0 dk := by rw [hwr]; exact holdsK_putRowK encQ 4 _ blk 0 d dk (holdsK_ahead encQ 4 w q2 blk 0 d HH.out) hI.size
              have W2 := Lib.hid hwr
              have I2 := Lib.hid hI
              clear hwr
              by_cases hlt2 : k + k2 < n
              · obtain ⟨k3, hk3⟩ : ∃ k3, k3 = k2 - 1 := ⟨_, rfl⟩
                obtain ⟨a0, a1, a2, a3⟩ := holdsQ hHk (show k + k2 < dk.size by omega)
                obtain ⟨b0, b1, b2, b3⟩ := holdsQ hHk (show k + k3 < dk.size by omega)
                rw [hI.high (k + k2) (by omega), Nat.add_mul] at a0 a1 a2 a3
                rw [hI.high (k + k3) (by omega), Nat.add_mul] at b0 b1 b2 b3
                obtain ⟨x, hx⟩ : ∃ x, x = d[k + k2]! := ⟨_, rfl⟩
                obtain ⟨y, hy⟩ : ∃ y, y = d[k + k3]! := ⟨_, rfl⟩
                rw [← hx] at a0 a1 a2 a3
                rw [← hy] at b0 b1 b2 b3
                have e1 : IntKind.i64.wrap ((k2 : Int) - 1) = (k3 : Int) := by rw [IntWalk.i64_in _ (by omega)]; omega
                have x1 : (k2 : Int) < ((n - k : Nat) : Int) := by omega
                have x2 : (0 : Int) ≤ (k2 : Int) := by omega
                have x3 : (k3 : Int) < ((n - k : Nat) : Int) := by omega
                have x4 : (0 : Int) ≤ (k3 : Int) := by omega
                have HX := Lib.hid hx
                have HY := Lib.hid hy
                have HK3 := Lib.hid hk3
                have z1 : (kk : Int) < (n : Int) := by omega
                have z2 : (0 : Int) ≤ (kk : Int) := by omega
                obtain ⟨o0, o1, o2, o3⟩ := holdsQ hHk (show kk < dk.size by omega)
                obtain ⟨p0, p1, p2, p3⟩ := freeQ hHk (show kk < dk.size by omega)
                generalize dk[kk]! = old at o0 o1 o2 o3
                have NW : Hid (∀ u, wr.drew.setCells blk (kk * 4) (encQ u) = putRowK encQ 4 (Sort.ahead w (q2 + 1)) blk 0 (dk.setIfInBounds kk u)) := fun u => by
                  rw [W2.out, show (putRowK encQ 4 (Sort.ahead w q2) blk 0 dk).drew = putRowK encQ 4 (Sort.ahead w (q2 + 1)) blk 0 dk from putRowK_drewN encQ 4 w q2 1 blk 0 dk, store_worldQ _ _ _ _ _ _ (by omega)]
                clear hx hy hk3 hHk hI
                by_cases hxy : x = y
                · have heq : ∀ W, (Op.equalIn 10000 41 (qv x) (qv y)).run Try.prog W = .ok true W := by rw [hxy]; exact eq_fix_yes y
                  have HXY := Lib.hid hxy
                  clear hxy NW o0 o1 o2 o3 p0 p1 p2 p3
                  obtain ⟨x0, x1', x2', x3'⟩ := x
                  obtain ⟨y0, y1, y2, y3⟩ := y
                  simp only [qv] at heq
                  go_wp2_with fail
                  go_region_held3 (fun w' => w'.cell? ⟨blk, k * 4 + k2 * 4, none⟩ = some (.int .i64 x0) ∧ w'.cell? ⟨blk, k * 4 + k2 * 4 + 1, none⟩ = some (.int .i64 x1') ∧ w'.cell? ⟨blk, k * 4 + k2 * 4 + 2, none⟩ = some (.int .i64 x2') ∧ w'.cell? ⟨blk, k * 4 + k2 * 4 + 3, none⟩ = some (.int .i64 x3') ∧ w'.cell? ⟨blk, k * 4 + k3 * 4, none⟩ = some (.int .i64 y0) ∧ w'.cell? ⟨blk, k * 4 + k3 * 4 + 1, none⟩ = some (.int .i64 y1) ∧ w'.cell? ⟨blk, k * 4 + k3 * 4 + 2, none⟩ = some (.int .i64 y2) ∧ w'.cell? ⟨blk, k * 4 + k3 * 4 + 3, none⟩ = some (.int .i64 y3))
                    (first | exact ⟨a0, a1, a2, a3, b0, b1, b2, b3⟩ | go_keep) (fail)
                  all_goals
                    go_wp2_with fail
                    go_roundw
                    case measure => simp [intOf]; omega
                    case rel => exact ⟨kk, k2 + 1, q2 + 1, dk, rfl, by go_num, by omega, by omega, by rw [W2.out]; exact putRowK_drewN encQ 4 w q2 1 blk 0 dk, I2.out.skip (keeps_neg (by omega) (by rw [← HX.out, show k + k2 - 1 = k + k3 by have := HK3.out; omega, ← HY.out]; exact HXY.out))⟩
                · have heq := eq_fix_no x y hxy
                  have HXY := Lib.hid hxy
                  have NWx := Lib.hid (NW.out x)
                  clear hxy NW
                  obtain ⟨x0, x1', x2', x3'⟩ := x
                  obtain ⟨y0, y1, y2, y3⟩ := y
                  simp only [qv] at heq
                  go_wp2_with fail
                  go_region_held3 (fun w' => w'.cell? ⟨blk, k * 4 + k2 * 4, none⟩ = some (.int .i64 x0) ∧ w'.cell? ⟨blk, k * 4 + k2 * 4 + 1, none⟩ = some (.int .i64 x1') ∧ w'.cell? ⟨blk, k * 4 + k2 * 4 + 2, none⟩ = some (.int .i64 x2') ∧ w'.cell? ⟨blk, k * 4 + k2 * 4 + 3, none⟩ = some (.int .i64 x3') ∧ w'.cell? ⟨blk, k * 4 + k3 * 4, none⟩ = some (.int .i64 y0) ∧ w'.cell? ⟨blk, k * 4 + k3 * 4 + 1, none⟩ = some (.int .i64 y1) ∧ w'.cell? ⟨blk, k * 4 + k3 * 4 + 2, none⟩ = some (.int .i64 y2) ∧ w'.cell? ⟨blk, k * 4 + k3 * 4 + 3, none⟩ = some (.int .i64 y3) ∧ w'.cell? ⟨blk, kk * 4, none⟩ = some (.int .i64 old.1) ∧ w'.cell? ⟨blk, kk * 4 + 1, none⟩ = some (.int .i64 old.2.1) ∧ w'.cell? ⟨blk, kk * 4 + 2, none⟩ = some (.int .i64 old.2.2.1) ∧ w'.cell? ⟨blk, kk * 4 + 3, none⟩ = some (.int .i64 old.2.2.2) ∧ w'.frozen? ⟨blk, kk * 4, none⟩ = false ∧ w'.frozen? ⟨blk, kk * 4 + 1, none⟩ = false ∧ w'.frozen? ⟨blk, kk * 4 + 2, none⟩ = false ∧ w'.frozen? ⟨blk, kk * 4 + 3, none⟩ = false)
                    (first | exact ⟨a0, a1, a2, a3, b0, b1, b2, b3, o0, o1, o2, o3, p0, p1, p2, p3⟩ | go_keep) (fail)
                  all_goals
                    go_wp2_with fail
                    go_roundw
                    case measure => simp [intOf]; omega
                    case rel => exact ⟨kk + 1, k2 + 1, q2 + 1, dk.setIfInBounds kk (x0, x1', x2', x3'), by go_num, by go_num, by omega, by omega, NWx.out, by have := I2.out.keep (by have := HN.out; omega) (keeps_pos (by rw [← HX.out, show k + k2 - 1 = k + k3 by have := HK3.out; omega, ← HY.out]; exact HXY.out)); rw [← HX.out] at this; exact this⟩
              · have hend : k + k2 = n := by omega
                have hcl : ∀ ty, (Builtin.clear_ #[24] ty #[.slice (some ⟨blk, kk * 4, none⟩) (n - kk) (cap - kk)]).run Try.prog wr = .ok (.tuple #[]) (wr.setCells blk (kk * 4) (flatL (List.replicate (n - kk) zeroQ))) := fun ty => clearQ hHk kk (n - kk) (cap - kk) ty (by omega) (by omega)
                have z5 : kk < cap := by omega
                have z6 : (kk : Int) ≤ (n : Int) := by omega
                have z2 : (0 : Int) ≤ (kk : Int) := by omega
                clear hHk hI
                go_wp2_with fail
                go_ret
                have hI := I2.out
                rw [hend, HN.out] at hI
                rw [HN.out, hI.len]
                refine ⟨rfl, q2, ?_⟩
                rw [← hI.done zeroQ, W2.out]
                exact clear_worldQ w q2 blk dk kk _ (by have := hI.size; have := hI.lt; simp; omega)
        · have heq := eq_fix_no x y hxy
          have HXY := Lib.hid hxy
          clear hxy
          obtain ⟨x0, x1', x2', x3'⟩ := x
          obtain ⟨y0, y1, y2, y3⟩ := y
          simp only [qv] at heq
          go_region_held3 (fun w' => w'.cell? ⟨blk, k * 4, none⟩ = some (.int .i64 x0) ∧ w'.cell? ⟨blk, k * 4 + 1, none⟩ = some (.int .i64 x1') ∧ w'.cell? ⟨blk, k * 4 + 2, none⟩ = some (.int .i64 x2') ∧ w'.cell? ⟨blk, k * 4 + 3, none⟩ = some (.int .i64 x3') ∧ w'.cell? ⟨blk, k' * 4, none⟩ = some (.int .i64 y0) ∧ w'.cell? ⟨blk, k' * 4 + 1, none⟩ = some (.int .i64 y1) ∧ w'.cell? ⟨blk, k' * 4 + 2, none⟩ = some (.int .i64 y2) ∧ w'.cell? ⟨blk, k' * 4 + 3, none⟩ = some (.int .i64 y3))
            (first | exact ⟨a0, a1, a2, a3, b0, b1, b2, b3⟩ | go_keep) (fail)
          all_goals
            go_wp2_with fail
            go_roundw
            case measure => simp [intOf]; omega
            case rel =>
              refine ⟨k + 1, q + 1, by omega, by omega, by go_num, by rw [WR.out]; rfl, fun j hj => ?_⟩
              by_cases e : j = k
              · subst e
                exact keeps_pos (by rw [← HX.out, ← HK'.out, ← HY.out]; exact HXY.out)
              · exact A.out j (by omega)
      · obtain rfl : k = n := by omega
        have WR := Lib.hid hwr
        clear hwr hlt
        go_wp2_with fail
        go_ret
        obtain ⟨e1, e2⟩ := HS.out q A.out
        exact ⟨by rw [e1]; rfl, q, by rw [WR.out]; exact e2⟩
end Go.Proofs.Ytdelcebkpdnnjaa
namespace Go.Proofs.Ytdelcebkpdnnjaa
open Go.RowKit Go.Deep Go.Sort Go.Lib BigFrame

theorem sortQ_any (blk cap : Nat) (d : Array Quad) (w : World) (hH : HoldsK encQ 4 w blk 0 d) (hblk : blk < w.heap.size) (hsz : d.size ≤ 1000000) :
    Calls Try.prog 57 #[.slice (some ⟨blk, 0, none⟩) d.size cap, .func (.func 58) #[] #[]] w fun e w' =>
      e = .returned (.tuple #[]) ∧ ∃ d' n os, PermIn 0 d.size d d' ∧ SortedIn (ltOf cellCmp) 0 d.size d' ∧ w' = sortWorldK encQ 4 w blk 0 n d' os := by
  have eg : ∀ args w, (callFunc 58 args).run Try.prog w = .ok (.enter 58 args) w := enters_of Try.func58 (by kernel_rfl) rfl
  exact AnyQ.slices_SortFunc Try.laysSortQ 4 Try.isAgg41 Try.sizeOf41 encQ encQ_len encQ_one cellCmp swoCell 58 #[] blk 0 cap d w eg (cmpLaysQ blk 0 d.size w) hH hblk (by omega)
end Go.Proofs.Ytdelcebkpdnnjaa
namespace Go.Proofs.Ytdelcebkpdnnjaa
open Go.RowKit Go.Deep

set_option maxHeartbeats 400000 in
set_option maxRecDepth 100000 in
theorem GrowF_any (n : Nat) (w : World) (hn : n ≤ 1048576) :
    Calls Try.prog 83 #[.slice none 0 0, .int .i64 (n : Int)] w fun e w' => ∃ v, e = .returned v ∧ w'.ownsRow w.heap.size 41 4 v 0 [] ∧ Below w.heap.size w w' := by
  obtain ⟨i0, hi, hz0, hz1, hz2⟩ := info_parts info_fix
  by_cases h0 : n = 0
  · subst h0
    go_enter Try.func83, Try.ntmps83
    go_wp2
    go_ret
    exact ⟨_, rfl, World.ownsRow_nil _ _ _ _, Below.refl _ _⟩
  · have hp : (0 : Int) < (n : Int) := by omega
    have hr := fun (W : World) (ty : TypeId) => Lib.run_append_nil_zeros (P := Try.prog) W 24 3 ty 41 i0 _ .i64 .i64 Try.underlying24 Try.underlying3 hi hz0 n (by omega) (by omega) (by omega) (by rw [hz2]; omega)
    have hge := fun (W : World) => grownCap_ge W n 0 41
    have HLE := Lib.hid (fun (W : World) => grownCap_le_maxLen W n 0 41 (by unfold maxLen; omega))
    have HR := Lib.hid hr
    clear hr
    go_enter Try.func83, Try.ntmps83
    go_wp2_with (at_builtin; refine Lib.wpList_append_run _ rfl _ _ _ _ rfl _ _ rfl rfl _ _ (HR.out _ _) ?_)
    go_ret
    have hg := hge w
    refine ⟨_, rfl, (World.ownsRow_made w _ _ (Nat.le_refl _) (HLE.out w) ?_).drew, ((Below.refl _ _).alloc (Nat.le_refl _) _).drew⟩
    simp [Builtin.zeroCells]
    omega

set_option maxHeartbeats 1000000 in
set_option maxRecDepth 100000 in
theorem ConcatF_any (b : Nat) (a1 a2 : Option Addr) (n1 n2 c1 c2 : Nat) (l1 l2 : List Quad) (w : World) (hb : b < w.heap.size) (e1 : l1.length = n1) (e2 : l2.length = n2)
    (k1 : w.cell? ⟨b, 0, none⟩ = some (.slice a1 n1 c1)) (k2 : w.cell? ⟨b, 1, none⟩ = some (.slice a2 n2 c2)) (h1 : Quads w (.slice a1 n1 c1) l1) (h2 : Quads w (.slice a2 n2 c2) l2) (hn : n1 + n2 ≤ 1048576) :
    Calls Try.prog 56 #[.slice (some ⟨b, 0, none⟩) 2 2] w fun e w' => ∃ v, e = .returned v ∧ w'.ownsRow w.heap.size 41 4 v (l1 ++ l2).length (flat (l1 ++ l2)) ∧ Below w.heap.size w w' := by
  have H1 := Lib.hid h1.quadsB
  have H2 := Lib.hid h2.quadsB
  have E1 := Lib.hid e1
  have E2 := Lib.hid e2
  clear h1 h2 e1 e2
  go_enter Try.func56, Try.ntmps56
  go_wp2
  refine wp_loop_rounds 3 ?_
  rw [rounds_succ]
  go_wp2
  rw [rounds_succ]
  go_wp2
  rw [rounds_succ]
  go_wp2_with fail
  rw [show ((n1 : Int) + (n2 : Int)) = ((n1 + n2 : Nat) : Int) by omega]
  refine (GrowF_any (n1 + n2) _ (by omega)).mono ?_
  rintro e w1 ⟨v1, rfl, hown, hb1⟩
  have hs1 := hb1.size
  have j1 : w1.cell? ⟨b, 0, none⟩ = some (.slice a1 n1 c1) := (hb1.cell (p := ⟨b, 0, none⟩) hb).trans k1
  have j2 : w1.cell? ⟨b, 1, none⟩ = some (.slice a2 n2 c2) := (hb1.cell (p := ⟨b, 1, none⟩) hb).trans k2
  have HB1 := Lib.hid hb1
  have HO := Lib.hid hown
  clear hb1 hown k1 k2
  go_wp2
  refine wp_loop_rounds 3 ?_
  rw [rounds_succ]
  go_wp2_with (at_builtin; refine app_quads w _ rfl _ _ rfl w.heap.size _ [] _ l1 HO.out ((H1.out.below HB1.out (Nat.le_refl _)).quads hs1) rfl rfl (by have := E1.out; simp; omega) hs1 HB1.out ?_; intro v2 w2 hown2 hbel2)
  have HB2 := Lib.hid hbel2
  have HO2 := Lib.hid hown2
  have hs2 := hbel2.size
  have j2' : w2.cell? ⟨b, 1, none⟩ = some (.slice a2 n2 c2) := by
    have e1 := hbel2.cell (p := ⟨b, 1, none⟩) hb
    have e2 := HB1.out.cell (p := ⟨b, 1, none⟩) hb
    rw [e1, ← e2]; exact j2
  clear hown2 hbel2 j1 j2
  rw [rounds_succ]
  go_wp2_with (at_builtin; refine app_quads w _ rfl _ _ rfl w.heap.size _ _ _ l2 HO2.out ((H2.out.below HB2.out (Nat.le_refl _)).quads hs2) rfl rfl (by have := E1.out; have := E2.out; simp; omega) hs2 HB2.out ?_; intro v3 w3 hown3 hbel3)
  have HB3 := Lib.hid hbel3
  have HO3 := Lib.hid hown3
  clear hown3 hbel3 j2'
  rw [rounds_succ]
  go_wp2
  go_ret
  exact ⟨_, rfl, (by simpa using HO3.out), HB3.out⟩

end Go.Proofs.Ytdelcebkpdnnjaa
namespace Go.Proofs.Ytdelcebkpdnnjaa
open Go.RowKit Go.Deep Go.Sort Go.Lib BigFrame

/-- block g alone turned, and it is a row of corrections as long as before -/
def Trn (g N : Nat) (w w' : World) : Prop :=
  w'.os = w.os ∧ w'.tape = w.tape ∧ w'.output = w.output ∧ w.heap.size ≤ w'.heap.size ∧ (∀ k, k < w.heap.size → k ≠ g → w'.heap[k]? = w.heap[k]?) ∧
  ((∃ c, w.heap[g]? = some (.cells c 41 (0, 0)) ∧ c.size = N) → ∃ c, w'.heap[g]? = some (.cells c 41 (0, 0)) ∧ c.size = N)
theorem Trn.trans {g N : Nat} {a b c : World} (h : Trn g N a b) (k : Trn g N b c) : Trn g N a c :=
  ⟨k.1.trans h.1, k.2.1.trans h.2.1, k.2.2.1.trans h.2.2.1, Nat.le_trans h.2.2.2.1 k.2.2.2.1, fun i hi hn => (k.2.2.2.2.1 i (Nat.lt_of_lt_of_le hi h.2.2.2.1) hn).trans (h.2.2.2.2.1 i hi hn), fun hc => k.2.2.2.2.2 (h.2.2.2.2.2 hc)⟩
theorem trn_put (g N m : Nat) (w : World) (d : Array Quad) : Trn g N w (putRowK encQ 4 (Sort.ahead w m) g 0 d) := by
  refine ⟨rfl, rfl, rfl, by simp [putRowK, putRow, mapBlock, Sort.ahead], fun k hk hn => ?_, fun ⟨c, hc, hs⟩ => ?_⟩
  · simp [putRowK, putRow, mapBlock, Sort.ahead, Array.getElem?_modify, Ne.symm hn]
  · refine ⟨putCells id 0 (flatK encQ 4 d) c, ?_, by simp [putCells, hs]⟩
    simp [putRowK, putRow, mapBlock, Sort.ahead, Array.getElem?_modify, hc, onCells]
theorem trn_sort (g N m : Nat) (w : World) (d : Array Quad) (os : Array Obj) (hg : g < w.heap.size) : Trn g N w (sortWorldK encQ 4 w g 0 m d os) := by
  have h := trn_put g N m w d
  have e : (putRowK encQ 4 (Sort.ahead w m) g 0 d).heap.size = w.heap.size := by simp [putRowK, putRow, mapBlock, Sort.ahead]
  refine h.trans ⟨rfl, rfl, rfl, by simp [sortWorldK, grow], fun k hk _ => heap_grow_old _ _ hk, fun ⟨c, hc, hs⟩ => ⟨c, ?_, hs⟩⟩
  exact (heap_grow_old _ _ (by rw [e]; exact hg)).trans hc
theorem Trn.below {g N base : Nat} {w0 w w' : World} (h : Trn g N w w') (hB : Below base w0 w) (hb : base ≤ g) (hs : base ≤ w0.heap.size) : Below base w0 w' :=
  ⟨h.1.trans hB.os, h.2.1.trans hB.tape, h.2.2.1.trans hB.output, Nat.le_trans hB.size h.2.2.2.1, fun k hk => (h.2.2.2.2.1 k (by have := hB.size; omega) (by omega)).trans (hB.block k hk)⟩

theorem flat_flatK (l : List Quad) (i : Nat) (h : i < l.length * 4) : (flatK encQ 4 l.toArray)[i]! = qcell l i := by
  rw [get_flatK _ _ _ _ (by simpa using h)]
  have hq : i / 4 < l.length := by omega
  have e : l.toArray[i / 4]! = l[i / 4]?.getD q0 := by simp [hq]
  rw [e]
  unfold qcell
  have : i % 4 = 0 ∨ i % 4 = 1 ∨ i % 4 = 2 ∨ i % 4 = 3 := by omega
  rcases this with h | h | h | h <;> rw [h] <;> rfl
/-- a row that the call made is held as the shelf's kit says it -/
theorem holdsK_of_own {w : World} {base : Nat} {v : Value} {l : List Quad} (h : w.ownsRow base 41 4 v l.length (flat l)) (hl : 0 < l.length) :
    ∃ g cap, v = .slice (some ⟨g, 0, none⟩) l.length cap ∧ base ≤ g ∧ g < w.heap.size ∧ l.length ≤ cap ∧ cap ≤ 9223372036854775807 ∧ HoldsK encQ 4 w g 0 l.toArray ∧ ∃ c, w.heap[g]? = some (.cells c 41 (0, 0)) ∧ c.size = cap * 4 := by
  obtain ⟨h1, h2⟩ := h
  rcases h2 with ⟨rfl, hn⟩ | ⟨g, cap, cur, rfl, hg, hh, hc, hm, hs, ht⟩
  · omega
  · have hlt : g < w.heap.size := (Array.getElem?_eq_some_iff.1 hh).1
    unfold maxLen at hm
    refine ⟨g, cap, rfl, hg, hlt, hc, hm, fun j hj => ?_, cur, hh, hs⟩
    have hj' : j < l.length * 4 := by simpa using hj
    have e : (cur.toList.take (l.length * 4))[j]? = (flat l)[j]? := by rw [ht]
    rw [List.getElem?_take, if_pos hj', flat_get _ _ hj', Array.getElem?_toList] at e
    rw [flat_flatK l j hj', Nat.zero_add]
    constructor
    · unfold World.cell?; simp only [hh]; exact e
    · unfold World.frozen?; simp only [hh]; rfl
theorem ownQ_of_holds {w : World} {lo hi g cap : Nat} {r : Array Quad} {l : List Quad} (hc : ∃ c, w.heap[g]? = some (.cells c 41 (0, 0)) ∧ c.size = cap * 4) (hH : HoldsK encQ 4 w g 0 r) (hr : ∀ j, j < l.length → j < r.size ∧ r[j]! = l[j]?.getD q0)
    (h1 : l.length ≤ cap) (h2 : cap ≤ 9223372036854775807) (h3 : lo ≤ g) (h4 : g < hi) : OwnQ lo hi w (.slice (some ⟨g, 0, none⟩) l.length cap) l := by
  obtain ⟨c, hh, hs⟩ := hc
  refine .inr ⟨g, 0, cap, _, cap * 4, fun i => c[i]?.getD undef, rfl, h1, h2, h3, h4, ⟨c, hh, hs, fun i hi => by simp [Array.getElem?_eq_getElem (show i < c.size by omega)]⟩, by omega, fun j hj => ?_⟩
  obtain ⟨a, b⟩ := hr j hj
  have hq := holdsQ hH a
  rw [b] at hq
  have key : ∀ o v, w.cell? ⟨g, o, none⟩ = some v → c[o]?.getD undef = v := fun o v hv => by
    unfold World.cell? at hv
    simp only [hh] at hv
    have hv' : c[o]? = some v := hv
    rw [hv']; rfl
  rw [Nat.zero_add]
  exact ⟨key _ _ hq.1, key _ _ hq.2.1, key _ _ hq.2.2.1, key _ _ hq.2.2.2⟩
end Go.Proofs.Ytdelcebkpdnnjaa
namespace Go.Proofs.Ytdelcebkpdnnjaa
open Go.RowKit Go.Deep Go.Sort Go.Lib BigFrame

theorem cellLt_trans {p q r : Quad} (h : CellLt p q) (k : CellLt q r) : CellLt p r := by unfold CellLt at *; omega
theorem cellLt_irrefl (p : Quad) : ¬ CellLt p p := by unfold CellLt; omega
/-- what is kept of a sorted row rises strictly and has the row's members, where equal cells are equal corrections -/
theorem compact_asc (d : Array Quad) (hs : ∀ i j, i < j → j < d.size → ¬ CellLt d[j]! d[i]!) (hu : ∀ i j, i < d.size → j < d.size → ¬ CellLt d[i]! d[j]! → ¬ CellLt d[j]! d[i]! → d[i]! = d[j]!) :
    ∀ m, m ≤ d.size → (compactUpTo d m).Pairwise CellLt ∧ ∀ x, x ∈ compactUpTo d m ↔ ∃ j, j < m ∧ d[j]! = x := by
  intro m
  induction m with
  | zero => intro _; exact ⟨List.Pairwise.nil, fun x => ⟨fun h => by simp [compactUpTo] at h, fun ⟨j, hj, _⟩ => by omega⟩⟩
  | succ m ih =>
    intro hm
    obtain ⟨h1, h2⟩ := ih (by omega)
    rw [compactUpTo_succ]
    by_cases hk : keeps d m = true
    · rw [if_pos hk]
      refine ⟨?_, fun x => ?_⟩
      · rw [List.pairwise_append]
        refine ⟨h1, List.pairwise_singleton _ _, fun a ha b hb => ?_⟩
        rw [List.mem_singleton] at hb
        subst hb
        obtain ⟨j, hj, rfl⟩ := (h2 a).1 ha
        have hne : m = 0 ∨ d[m]! ≠ d[m - 1]! := by unfold keeps at hk; exact of_decide_eq_true hk
        have a1 := hs (m - 1) m (by omega) (by omega)
        have hlt : CellLt d[m - 1]! d[m]! := Classical.byContradiction fun hn => by
          rcases hne with e | e
          · omega
          · exact e (hu (m - 1) m (by omega) (by omega) hn a1).symm
        by_cases ej : j = m - 1
        · rw [ej]; exact hlt
        · have a2 := hs j (m - 1) (by omega) (by omega)
          by_cases hc : CellLt d[j]! d[m - 1]!
          · exact cellLt_trans hc hlt
          · rw [hu j (m - 1) (by omega) (by omega) hc a2]; exact hlt
      · rw [List.mem_append, List.mem_singleton, h2]
        constructor
        · rintro (⟨j, hj, e⟩ | e)
          · exact ⟨j, by omega, e⟩
          · exact ⟨m, by omega, e.symm⟩
        · rintro ⟨j, hj, e⟩
          by_cases ej : j = m
          · subst ej; exact .inr e.symm
          · exact .inl ⟨j, by omega, e⟩
    · rw [if_neg hk, List.append_nil]
      refine ⟨h1, fun x => ?_⟩
      rw [h2]
      have hne : ¬ (m = 0 ∨ d[m]! ≠ d[m - 1]!) := fun h => hk (by unfold keeps; exact decide_eq_true h)
      have e0 : d[m]! = d[m - 1]! := Classical.byContradiction fun h => hne (.inr h)
      have m0 : m ≠ 0 := fun h => hne (.inl h)
      constructor
      · rintro ⟨j, hj, e⟩; exact ⟨j, by omega, e⟩
      · rintro ⟨j, hj, e⟩
        by_cases ej : j = m
        · subst ej; exact ⟨j - 1, by omega, by rw [← e0]; exact e⟩
        · exact ⟨j, by omega, e⟩
/-- a strictly ascending list is fixed by its members -/
theorem asc_unique : ∀ a b : List Quad, a.Pairwise CellLt → b.Pairwise CellLt → (∀ x, x ∈ a ↔ x ∈ b) → a = b
  | [], [], _, _, _ => rfl
  | [], y :: b, _, _, h => absurd ((h y).2 (List.mem_cons_self ..)) (by simp)
  | x :: a, [], _, _, h => absurd ((h x).1 (List.mem_cons_self ..)) (by simp)
  | x :: a, y :: b, ha, hb, h => by
    have ha' := List.pairwise_cons.1 ha
    have hb' := List.pairwise_cons.1 hb
    have exy : x = y := by
      rcases List.mem_cons.1 ((h x).1 (List.mem_cons_self ..)) with e | hx
      · exact e
      · rcases List.mem_cons.1 ((h y).2 (List.mem_cons_self ..)) with e | hy
        · exact e.symm
        · exact absurd (cellLt_trans (hb'.1 x hx) (ha'.1 y hy)) (cellLt_irrefl _)
    subst exy
    rw [asc_unique a b ha'.2 hb'.2 fun z => ?_]
    constructor
    · intro hz
      rcases List.mem_cons.1 ((h z).1 (List.mem_cons_of_mem _ hz)) with e | e
      · subst e; exact absurd (ha'.1 z hz) (cellLt_irrefl _)
      · exact e
    · intro hz
      rcases List.mem_cons.1 ((h z).2 (List.mem_cons_of_mem _ hz)) with e | e
      · subst e; exact absurd (hb'.1 z hz) (cellLt_irrefl _)
      · exact e
end Go.Proofs.Ytdelcebkpdnnjaa
namespace Go.Proofs.Ytdelcebkpdnnjaa
open Go.RowKit Go.Deep Go.Sort Go.Lib BigFrame

theorem ownsRow_lower2 {w : World} {base base' n size : Nat} {e : TypeId} {v : Value} {xs : List Value} (h : w.ownsRow base e size v n xs) (hb : base' ≤ base) : w.ownsRow base' e size v n xs := by
  obtain ⟨h1, h2⟩ := h
  refine ⟨h1, ?_⟩
  rcases h2 with h | ⟨g, cap, cur, e, hg, rest⟩
  · exact .inl h
  · exact .inr ⟨g, cap, cur, e, Nat.le_trans hb hg, rest⟩
theorem sorted_members {L : List Quad} {d : Array Quad} (hp : PermIn 0 L.toArray.size L.toArray d) (hs : SortedIn (ltOf cellCmp) 0 L.toArray.size d) (HU : ∀ p q, p ∈ L → q ∈ L → ¬ CellLt p q → ¬ CellLt q p → p = q) :
    d.size = L.length ∧ (compactUpTo d d.size).Pairwise CellLt ∧ ∀ x, x ∈ compactUpTo d d.size ↔ x ∈ L := by
  obtain ⟨p1, -, p3⟩ := hp
  have hsz : d.size = L.length := by simpa using p1
  have e1 : (d.extract 0 L.toArray.size).toList = d.toList := by rw [← p1]; simp
  have e2 : (L.toArray.extract 0 L.toArray.size).toList = L := by simp
  rw [e1, e2] at p3
  have mem : ∀ x, x ∈ L ↔ ∃ j, j < d.size ∧ d[j]! = x := fun x => by
    rw [← p3.mem_iff, List.mem_iff_getElem]
    constructor
    · rintro ⟨j, hj, e⟩
      have hj' : j < d.size := by simpa using hj
      exact ⟨j, hj', by rw [getElem!_pos d j hj']; simpa using e⟩
    · rintro ⟨j, hj, e⟩
      exact ⟨j, by simpa using hj, by rw [getElem!_pos d j hj] at e; simpa using e⟩
  have h := compact_asc d (fun i j hij hj => by
    have h := hs i j (Nat.zero_le _) hij (by rw [← p1]; exact hj)
    rw [ltCell] at h
    exact of_decide_eq_false h) (fun i j hi hj a b => HU _ _ ((mem _).2 ⟨i, hi, rfl⟩) ((mem _).2 ⟨j, hj, rfl⟩) a b) d.size (Nat.le_refl _)
  exact ⟨hsz, h.1, fun x => (h.2 x).trans (mem x).symm⟩

/-- sort and compact a row that the call made -/
theorem sortCompact {base : Nat} {v : Value} {L : List Quad} {w0 w : World} (hown : w.ownsRow base 41 4 v L.length (flat L)) (hL : 0 < L.length) (hl : L.length ≤ 1000000) (hB : Below base w0 w) (hb : base ≤ w0.heap.size)
    (HU : ∀ p q, p ∈ L → q ∈ L → ¬ CellLt p q → ¬ CellLt q p → p = q) :
    Calls Try.prog 57 #[v, .func (.func 58) #[] #[]] w fun e w1 => e = .returned (.tuple #[]) ∧
      Calls Try.prog 59 #[v] w1 fun e w' => ∃ u l, e = .returned u ∧ OwnQ base w'.heap.size w' u l ∧ l.Pairwise CellLt ∧ (∀ x, x ∈ l ↔ x ∈ L) ∧ Below base w0 w' := by
  obtain ⟨g, cap, rfl, g1, g2, g3, g4, hH, hc⟩ := holdsK_of_own hown hL
  have hsz : L.toArray.size = L.length := by simp
  have hsort := sortQ_any g cap L.toArray w hH g2 (by rw [hsz]; exact hl)
  rw [hsz] at hsort
  refine hsort.mono ?_
  rintro e w1 ⟨rfl, d, n, os, hp, hs, rfl⟩
  refine ⟨rfl, ?_⟩
  rw [← hsz] at hp hs
  obtain ⟨k1, k2, k3⟩ := sorted_members hp hs HU
  have T1 := trn_sort g (cap * 4) n w d os g2
  have hH1 := holdsK_sortWorldK_c encQ 4 w g 0 L.toArray d n os hH g2 (by rw [k1, hsz])
  obtain ⟨w1, hw1⟩ : ∃ w1, w1 = sortWorldK encQ 4 w g 0 n d os := ⟨_, rfl⟩
  rw [← hw1] at T1 hH1 ⊢
  have hcmp := compactQ_any g cap d w1 hH1 (by rw [k1]; exact hl) (by rw [k1]; exact g3) g4
  rw [k1] at hcmp
  refine hcmp.mono ?_
  rintro e w' ⟨rfl, q, rfl⟩
  rw [k1] at k2 k3
  have T2 := T1.trans (trn_put g (cap * 4) q w1 (compactUpTo d L.length ++ List.replicate (L.length - (compactUpTo d L.length).length) zeroQ).toArray)
  have hle : (compactUpTo d L.length).length ≤ L.length := by
    unfold compactUpTo
    rw [List.length_map]
    exact Nat.le_trans (List.length_filter_le _ _) (by simp)
  refine ⟨_, _, rfl, ownQ_of_holds (T2.2.2.2.2.2 hc) (holdsK_putRowK encQ 4 _ g 0 d _ (holdsK_ahead encQ 4 w1 q g 0 d hH1) (by simp; omega)) (fun j hj => ⟨by simp; omega, ?_⟩) (by omega) g4 g1 (Nat.lt_of_lt_of_le g2 T2.2.2.2.1), k2, k3, T2.below hB g1 hb⟩
  rw [getElem!_pos _ j (by simp; omega)]
  simp [List.getElem_append_left, hj]

set_option maxHeartbeats 2000000 in
set_option maxRecDepth 100000 in
theorem FixesBoth_yes (vg : Value) (a1 a2 : Option Addr) (c1 c2 : Nat) (g : Rows) (la lb : List Quad) (w : World) (hG : Grid w vg g) (hA : Quads w (.slice a1 la.length c1) la) (hB : Quads w (.slice a2 lb.length c2) lb)
    (ha : AreOk g la) (hb : AreOk g lb) (hc : ¬ ClashL la lb) (hn : 0 < la.length + lb.length) (hl : la.length + lb.length ≤ 1000000) (HU : ∀ p q, p ∈ la ++ lb → q ∈ la ++ lb → ¬ CellLt p q → ¬ CellLt q p → p = q) :
    Calls Try.prog 17 #[vg, .slice a1 la.length c1, .slice a2 lb.length c2] w fun e w' => ∃ v l, e = .returned (.tuple #[v, .bool true]) ∧ OwnQ w.heap.size w'.heap.size w' v l ∧ l.Pairwise CellLt ∧ (∀ x, x ∈ l ↔ x ∈ la ++ lb) ∧ Below w.heap.size w w' := by
  have HG := Lib.hid (show GridB w.heap.size w vg g from hG)
  have HA := Lib.hid hA.quadsB
  have HB := Lib.hid hB.quadsB
  have CA : Hid (∀ W, Below w.heap.size w W → Calls Try.prog 35 #[vg, .slice a1 la.length c1] W fun e w' => e = .returned (.bool true) ∧ Below W.heap.size W w') := fun W h => by
    have k := FixesAre_any vg _ g la W ((HG.out.below h (Nat.le_refl _)).grid h.size) ((HA.out.below h (Nat.le_refl _)).quads h.size)
    rwa [decide_eq_true ha] at k
  have CB : Hid (∀ W, Below w.heap.size w W → Calls Try.prog 35 #[vg, .slice a2 lb.length c2] W fun e w' => e = .returned (.bool true) ∧ Below W.heap.size W w') := fun W h => by
    have k := FixesAre_any vg _ g lb W ((HG.out.below h (Nat.le_refl _)).grid h.size) ((HB.out.below h (Nat.le_refl _)).quads h.size)
    rwa [decide_eq_true hb] at k
  have CC : Hid (∀ W, Below w.heap.size w W → Calls Try.prog 55 #[.slice a1 la.length c1, .slice a2 lb.length c2] W fun e w' => e = .returned (.bool false) ∧ Below W.heap.size W w') := fun W h => by
    have k := clashing_any (.slice a1 la.length c1) (.slice a2 lb.length c2) la lb W ((HA.out.below h (Nat.le_refl _)).quads h.size) ((HB.out.below h (Nat.le_refl _)).quads h.size)
    rwa [decide_eq_false hc] at k
  have HUh := Lib.hid HU
  clear hG hA hB ha hb hc HU
  go_enter Try.func17, Try.ntmps17
  go_wp2_with fail
  refine (CA.out w (Below.refl _ _)).mono ?_
  rintro e w1 ⟨rfl, hb1⟩
  have B1 := Lib.hid hb1
  clear hb1
  go_wp2_with fail
  refine (CB.out w1 B1.out).mono ?_
  rintro e w2 ⟨rfl, hb2⟩
  have B2 := Lib.hid (B1.out.trans (hb2.mono B1.out.size))
  clear hb2
  go_wp2_with fail
  refine (CC.out w2 B2.out).mono ?_
  rintro e w3 ⟨rfl, hb3⟩
  have B3 := Lib.hid (B2.out.trans (hb3.mono B2.out.size))
  clear hb3 CA CB CC B1 B2
  go_wp2_with fail
  obtain ⟨W, hW⟩ : ∃ W, W = w3.alloc (.cells #[.slice a1 la.length c1, .slice a2 lb.length c2] 24) := ⟨_, rfl⟩
  have BW : Below w.heap.size w W := by rw [hW]; exact B3.out.alloc B3.out.size _
  have q1 : W.cell? ⟨w3.heap.size, 0, none⟩ = some (.slice a1 la.length c1) := by rw [hW]; simp
  have q2 : W.cell? ⟨w3.heap.size, 1, none⟩ = some (.slice a2 lb.length c2) := by rw [hW]; simp
  have q3 : w3.heap.size < W.heap.size := by rw [hW]; simp
  rw [← hW]
  clear hW
  refine (ConcatF_any w3.heap.size a1 a2 la.length lb.length c1 c2 la lb W q3 rfl rfl q1 q2 ((HA.out.below BW (Nat.le_refl _)).quads BW.size) ((HB.out.below BW (Nat.le_refl _)).quads BW.size) (by omega)).mono ?_
  rintro e w4 ⟨v, rfl, hown, hb4⟩
  have B4 := Lib.hid (BW.trans (hb4.mono BW.size))
  have SC := Lib.hid (sortCompact (ownsRow_lower2 hown BW.size) (by rw [List.length_append]; exact hn) (by rw [List.length_append]; exact hl) B4.out (Nat.le_refl _) HUh.out)
  clear hb4 hown B3 BW q1 q2 q3 HUh
  go_wp2_with fail
  refine SC.out.mono ?_
  rintro e w5 ⟨rfl, hcm⟩
  have CM := Lib.hid hcm
  clear hcm SC
  go_wp2_with fail
  refine CM.out.mono ?_
  rintro e w6 ⟨u, l, rfl, k1, k2, k3, k4⟩
  have K := Lib.hid (And.intro k1 (And.intro k2 (And.intro k3 k4)))
  clear k1 k2 k3 k4 CM
  go_wp2_with fail
  exact bodyPost_ret (v := .tuple #[u, .bool true]) (by simp [results, Try.results17, go_sem]) rfl ⟨u, l, rfl, K.out.1, K.out.2.1, K.out.2.2.1, K.out.2.2.2⟩
end Go.Proofs.Ytdelcebkpdnnjaa
namespace Go.Proofs.Ytdelcebkpdnnjaa
open Go.RowKit Go.Deep Go.Sort Go.Lib BigFrame

def BothOk (g : Rows) (la lb : List Quad) : Prop := AreOk g la ∧ AreOk g lb ∧ ¬ ClashL la lb
set_option maxHeartbeats 1000000 in
set_option maxRecDepth 100000 in
theorem FixesBoth_no (vg va vb : Value) (g : Rows) (la lb : List Quad) (w : World) (hG : Grid w vg g) (hA : Quads w va la) (hB : Quads w vb lb) (h : ¬ BothOk g la lb) :
    Calls Try.prog 17 #[vg, va, vb] w fun e w' => e = .returned (.tuple #[.slice none 0 0, .bool false]) ∧ Below w.heap.size w w' := by
  have HG := Lib.hid (show GridB w.heap.size w vg g from hG)
  have HA := Lib.hid hA.quadsB
  have HB := Lib.hid hB.quadsB
  have CA := Lib.hid (fun W (h : Below w.heap.size w W) => FixesAre_any vg va g la W ((HG.out.below h (Nat.le_refl _)).grid h.size) ((HA.out.below h (Nat.le_refl _)).quads h.size))
  have CB := Lib.hid (fun W (h : Below w.heap.size w W) => FixesAre_any vg vb g lb W ((HG.out.below h (Nat.le_refl _)).grid h.size) ((HB.out.below h (Nat.le_refl _)).quads h.size))
  have CC := Lib.hid (fun W (h : Below w.heap.size w W) => clashing_any va vb la lb W ((HA.out.below h (Nat.le_refl _)).quads h.size) ((HB.out.below h (Nat.le_refl _)).quads h.size))
  clear hG hA hB
  have NO := Lib.hid h
  clear h
  go_enter Try.func17, Try.ntmps17
  go_wp2_with fail
  refine (CA.out w (Below.refl _ _)).mono ?_
  rintro e w1 ⟨rfl, hb1⟩
  have B1 := Lib.hid hb1
  clear hb1 CA
  by_cases ha : AreOk g la
  · rw [decide_eq_true ha]
    have OA := Lib.hid ha
    clear ha
    go_wp2_with fail
    refine (CB.out w1 B1.out).mono ?_
    rintro e w2 ⟨rfl, hb2⟩
    have B2 := Lib.hid (B1.out.trans (hb2.mono B1.out.size))
    clear hb2 CB B1
    by_cases hb : AreOk g lb
    · rw [decide_eq_true hb]
      have hc : ClashL la lb := Classical.byContradiction fun hc => NO.out ⟨OA.out, hb, hc⟩
      clear hb
      go_wp2_with fail
      refine (CC.out w2 B2.out).mono ?_
      rintro e w3 ⟨rfl, hb3⟩
      rw [decide_eq_true hc]
      have B3 := Lib.hid (B2.out.trans (hb3.mono B2.out.size))
      clear hb3 CC B2 hc
      go_wp2_with fail
      exact bodyPost_ret (v := .tuple #[.slice none 0 0, .bool false]) (by simp [results, Try.results17, go_sem]) rfl ⟨rfl, B3.out⟩
    · rw [decide_eq_false hb]
      clear hb
      go_wp2_with fail
      exact bodyPost_ret (v := .tuple #[.slice none 0 0, .bool false]) (by simp [results, Try.results17, go_sem]) rfl ⟨rfl, B2.out⟩
  · rw [decide_eq_false ha]
    clear ha
    go_wp2_with fail
    exact bodyPost_ret (v := .tuple #[.slice none 0 0, .bool false]) (by simp [results, Try.results17, go_sem]) rfl ⟨rfl, B1.out⟩
end Go.Proofs.Ytdelcebkpdnnjaa
namespace Go.Proofs.Ytdelcebkpdnnjaa
open Go.RowKit Go.Deep Go.Sort Go.Lib BigFrame

theorem both_unique {g : Rows} {la lb : List Quad} (h : BothOk g la lb) : ∀ p q, p ∈ la ++ lb → q ∈ la ++ lb → ¬ CellLt p q → ¬ CellLt q p → p = q := by
  obtain ⟨ha, hb, hc⟩ := h
  have one : ∀ {l : List Quad}, AreOk g l → ∀ p q, p ∈ l → q ∈ l → ¬ CellLt p q → ¬ CellLt q p → p = q := fun {l} hl p q hp hq h1 h2 => by
    obtain ⟨i, hi, rfl⟩ := List.mem_iff_getElem.1 hp
    obtain ⟨j, hj, rfl⟩ := List.mem_iff_getElem.1 hq
    have hw := are_pair hl.2
    rcases Nat.lt_trichotomy i j with hij | rfl | hij
    · exact absurd (List.pairwise_iff_getElem.1 hw i j hi hj hij) h1
    · rfl
    · exact absurd (List.pairwise_iff_getElem.1 hw j i hj hi hij) h2
  have two : ∀ p q, p ∈ la → q ∈ lb → ¬ CellLt p q → ¬ CellLt q p → p = q := fun p q hp hq h1 h2 => by
    obtain ⟨i, hi, rfl⟩ := List.mem_iff_getElem.1 hp
    obtain ⟨j, hj, rfl⟩ := List.mem_iff_getElem.1 hq
    refine Classical.byContradiction fun hne => hc ⟨i, hi, j, hj, ?_⟩
    rw [getQ_eq hi, getQ_eq hj]
    unfold Cl
    unfold CellLt at h1 h2
    exact ⟨⟨by omega, by omega⟩, hne⟩
  intro p q hp hq h1 h2
  rcases List.mem_append.1 hp with hp | hp
  · rcases List.mem_append.1 hq with hq | hq
    · exact one ha p q hp hq h1 h2
    · exact two p q hp hq h1 h2
  · rcases List.mem_append.1 hq with hq | hq
    · exact (two q p hq hp h2 h1).symm
    · exact one hb p q hp hq h1 h2
end Go.Proofs.Ytdelcebkpdnnjaa
namespace Go.Proofs.Ytdelcebkpdnnjaa
open Go.RowKit Go.Deep Go.Sort Go.Lib BigFrame

/-- a correction's cell lies in the grid -/
def InG (g : Rows) (q : Quad) (r c : Nat) : Prop := r < g.length ∧ c < (g[r]?.getD []).length ∧ q.1 = (r : Int) ∧ q.2.1 = (c : Int)
theorem put_at_in {g : Rows} {q : Quad} {r c : Nat} (h : InG g q r c) (i j : Nat) : at2 (put g q) i j = if i = r ∧ j = c then q.2.2.2 else at2 g i j := by
  obtain ⟨h1, h2, h3, h4⟩ := h
  unfold at2 put
  rw [h3, h4, show ((r : Int)).toNat = r by omega, show ((c : Int)).toNat = c by omega]
  by_cases hi : i = r
  · subst hi
    rw [List.getElem?_set_self h1]
    simp only [Option.getD_some]
    by_cases hj : j = c
    · subst hj
      rw [List.getElem?_set_self h2]; simp
    · rw [List.getElem?_set_ne (Ne.symm hj), if_neg (fun e => hj e.2)]
  · rw [List.getElem?_set_ne (Ne.symm hi), if_neg (fun e => hi e.1)]
theorem put_in {g : Rows} {q p : Quad} {r c : Nat} (h : InG g p r c) : InG (put g q) p r c := ⟨by rw [put_len]; exact h.1, by rw [put_row]; exact h.2.1, h.2.2.1, h.2.2.2⟩
/-- the grid behind all writes of a list -/
theorem puts_at {g0 : Rows} : ∀ (L : List Quad) (g : Rows), (∀ q, q ∈ L → ∃ r c, InG g q r c) → ∀ i j : Nat,
    (∀ q, q ∈ L → ¬ (q.1 = (i : Int) ∧ q.2.1 = (j : Int))) → at2 (L.foldl put g) i j = at2 g i j
  | [], _, _, _, _, _ => rfl
  | q :: L, g, h, i, j, hn => by
    obtain ⟨r, c, hq⟩ := h q (List.mem_cons_self ..)
    rw [List.foldl_cons, puts_at (g0 := g0) L (put g q) (fun p hp => by obtain ⟨r', c', hp'⟩ := h p (List.mem_cons_of_mem _ hp); exact ⟨r', c', put_in hp'⟩) i j (fun p hp => hn p (List.mem_cons_of_mem _ hp)), put_at_in hq, if_neg]
    rintro ⟨rfl, rfl⟩
    exact hn q (List.mem_cons_self ..) ⟨hq.2.2.1, hq.2.2.2⟩
theorem puts_hit : ∀ (L : List Quad) (g : Rows), (∀ q, q ∈ L → ∃ r c, InG g q r c) → ∀ (i j : Nat) (p : Quad), p ∈ L → p.1 = (i : Int) → p.2.1 = (j : Int) →
    (∀ q, q ∈ L → q.1 = (i : Int) → q.2.1 = (j : Int) → q.2.2.2 = p.2.2.2) → at2 (L.foldl put g) i j = p.2.2.2
  | [], _, _, _, _, _, hp, _, _, _ => by simp at hp
  | q :: L, g, h, i, j, p, hp, e1, e2, hu => by
    obtain ⟨r, c, hq⟩ := h q (List.mem_cons_self ..)
    have h' : ∀ p, p ∈ L → ∃ r c, InG (put g q) p r c := fun p hp => by obtain ⟨r', c', hp'⟩ := h p (List.mem_cons_of_mem _ hp); exact ⟨r', c', put_in hp'⟩
    rw [List.foldl_cons]
    by_cases hin : ∃ p', p' ∈ L ∧ p'.1 = (i : Int) ∧ p'.2.1 = (j : Int)
    · obtain ⟨p', k1, k2, k3⟩ := hin
      have e := hu p' (List.mem_cons_of_mem _ k1) k2 k3
      rw [puts_hit L (put g q) h' i j p' k1 k2 k3 (fun z hz z1 z2 => (hu z (List.mem_cons_of_mem _ hz) z1 z2).trans e.symm), e]
    · have hno : ∀ z, z ∈ L → ¬ (z.1 = (i : Int) ∧ z.2.1 = (j : Int)) := fun z hz hh => hin ⟨z, hz, hh.1, hh.2⟩
      rw [puts_at (g0 := g) L (put g q) h' i j hno, put_at_in hq]
      rcases List.mem_cons.1 hp with rfl | hp'
      · have k3 := hq.2.2.1
        have k4 := hq.2.2.2
        rw [if_pos ⟨by omega, by omega⟩]
      · exact absurd ⟨e1, e2⟩ (hno p hp')
end Go.Proofs.Ytdelcebkpdnnjaa
namespace Go.Proofs.Ytdelcebkpdnnjaa
open Go.RowKit Go.Deep Go.Sort Go.Lib BigFrame

/-- the grid with both lists' corrections -/
def bothG (g : Rows) (la lb : List Quad) : Rows := (la ++ lb).foldl put g
theorem are_mem {g : Rows} {l : List Quad} (h : AreOk g l) {q : Quad} (hq : q ∈ l) : ∃ i j : Nat, i < g.length ∧ j < colsOf g ∧ q.1 = (i : Int) ∧ q.2.1 = (j : Int) ∧ q.2.2.1 = at2 g i j ∧ q.2.2.2 ≠ at2 g i j := by
  rw [← are_diffs h, mem_diffs] at hq
  obtain ⟨i, j, hi, hj, hne, rfl⟩ := hq
  exact ⟨i, j, hi, hj, rfl, rfl, rfl, fun e => hne e.symm⟩
theorem both_mem {g : Rows} {la lb : List Quad} (h : BothOk g la lb) {q : Quad} (hq : q ∈ la ++ lb) : ∃ i j : Nat, i < g.length ∧ j < colsOf g ∧ q.1 = (i : Int) ∧ q.2.1 = (j : Int) ∧ q.2.2.1 = at2 g i j ∧ q.2.2.2 ≠ at2 g i j := by
  rcases List.mem_append.1 hq with hq | hq
  · exact are_mem h.1 hq
  · exact are_mem h.2.1 hq
theorem both_in {g : Rows} {la lb : List Quad} (h : BothOk g la lb) : ∀ q, q ∈ la ++ lb → ∃ r c, InG g q r c := fun q hq => by
  obtain ⟨i, j, hi, hj, e1, e2, -, -⟩ := both_mem h hq
  exact ⟨i, j, hi, by rw [(h.1.1.1.2.2.2.2 i hi).1]; exact hj, e1, e2⟩
theorem both_hit {g : Rows} {la lb : List Quad} (h : BothOk g la lb) {p : Quad} (hp : p ∈ la ++ lb) {i j : Nat} (e1 : p.1 = (i : Int)) (e2 : p.2.1 = (j : Int)) : at2 (bothG g la lb) i j = p.2.2.2 :=
  puts_hit (la ++ lb) g (both_in h) i j p hp e1 e2 fun q hq k1 k2 => by
    rw [both_unique h q p hq hp (by unfold CellLt; omega) (by unfold CellLt; omega)]
theorem both_list {g : Rows} {la lb l : List Quad} (h : BothOk g la lb) (ha : l.Pairwise CellLt) (hm : ∀ x, x ∈ l ↔ x ∈ la ++ lb) : l = diffsOf g (bothG g la lb) := by
  refine asc_unique _ _ ha (diffs_asc g (bothG g la lb) g.length).1 fun q => ?_
  rw [hm, mem_diffs]
  constructor
  · intro hq
    obtain ⟨i, j, hi, hj, e1, e2, e3, e4⟩ := both_mem h hq
    have hx := both_hit h hq e1 e2
    exact ⟨i, j, hi, hj, by rw [hx]; exact fun e => e4 e.symm, by rw [hx, ← e3, ← e1, ← e2]⟩
  · rintro ⟨i, j, hi, hj, hne, rfl⟩
    have hin : ∃ p, p ∈ la ++ lb ∧ p.1 = (i : Int) ∧ p.2.1 = (j : Int) := Classical.byContradiction fun hno =>
      hne (puts_at (g0 := g) (la ++ lb) g (both_in h) i j fun q hq hh => hno ⟨q, hq, hh.1, hh.2⟩).symm
    obtain ⟨p, hp, e1, e2⟩ := hin
    obtain ⟨i', j', hi', hj', k1, k2, k3, k4⟩ := both_mem h hp
    have hx := both_hit h hp e1 e2
    obtain rfl : i' = i := by omega
    obtain rfl : j' = j := by omega
    rw [hx, ← k3, ← k1, ← k2]
    exact hp
end Go.Proofs.Ytdelcebkpdnnjaa
namespace Go.Proofs.Ytdelcebkpdnnjaa
open Go.RowKit Go.Deep Go.Sort Go.Lib BigFrame

theorem sortQ_none (p : Option Addr) (cap : Nat) (w : World) :
    Calls Try.prog 57 #[.slice p 0 cap, .func (.func 58) #[] #[]] w fun e w' => e = .returned (.tuple #[]) ∧ w = w' :=
  (AnyF.slices_SortFunc_none { Try.laysSortQ with } p cap (.func (.func 58) #[] #[]) w).mono fun _ _ h => ⟨h.1, h.2.symm⟩
set_option maxHeartbeats 1000000 in
theorem compactQ_none (p : Option Addr) (cap : Nat) (w : World) :
    Calls Try.prog 59 #[.slice p 0 cap] w fun e w' => e = .returned (.slice p 0 cap) ∧ w = w' := by
  go_enter Try.func59, Try.ntmps59
  go_wp2_with fail
  go_ret
  exact ⟨rfl, rfl⟩
set_option maxHeartbeats 2000000 in
set_option maxRecDepth 100000 in
theorem FixesBoth_none (vg : Value) (a1 a2 : Option Addr) (c1 c2 : Nat) (g : Rows) (w : World) (hG : Grid w vg g) (hA : Quads w (.slice a1 0 c1) []) (hB : Quads w (.slice a2 0 c2) [])
    (ha : AreOk g []) (hb : AreOk g []) (hc : ¬ ClashL [] []) :
    Calls Try.prog 17 #[vg, .slice a1 0 c1, .slice a2 0 c2] w fun e w' => ∃ v, e = .returned (.tuple #[v, .bool true]) ∧ OwnQ w.heap.size w'.heap.size w' v [] ∧ Below w.heap.size w w' := by
  have HG := Lib.hid (show GridB w.heap.size w vg g from hG)
  have HA := Lib.hid hA.quadsB
  have HB := Lib.hid hB.quadsB
  have CA : Hid (∀ W, Below w.heap.size w W → Calls Try.prog 35 #[vg, .slice a1 0 c1] W fun e w' => e = .returned (.bool true) ∧ Below W.heap.size W w') := fun W h => by
    have k := FixesAre_any vg _ g [] W ((HG.out.below h (Nat.le_refl _)).grid h.size) ((HA.out.below h (Nat.le_refl _)).quads h.size)
    rwa [decide_eq_true ha] at k
  have CB : Hid (∀ W, Below w.heap.size w W → Calls Try.prog 35 #[vg, .slice a2 0 c2] W fun e w' => e = .returned (.bool true) ∧ Below W.heap.size W w') := fun W h => by
    have k := FixesAre_any vg _ g [] W ((HG.out.below h (Nat.le_refl _)).grid h.size) ((HB.out.below h (Nat.le_refl _)).quads h.size)
    rwa [decide_eq_true hb] at k
  have CC : Hid (∀ W, Below w.heap.size w W → Calls Try.prog 55 #[.slice a1 0 c1, .slice a2 0 c2] W fun e w' => e = .returned (.bool false) ∧ Below W.heap.size W w') := fun W h => by
    have k := clashing_any (.slice a1 0 c1) (.slice a2 0 c2) [] [] W ((HA.out.below h (Nat.le_refl _)).quads h.size) ((HB.out.below h (Nat.le_refl _)).quads h.size)
    rwa [decide_eq_false hc] at k
  clear hG hA hB ha hb hc
  go_enter Try.func17, Try.ntmps17
  go_wp2_with fail
  refine (CA.out w (Below.refl _ _)).mono ?_
  rintro e w1 ⟨rfl, hb1⟩
  have B1 := Lib.hid hb1
  clear hb1
  go_wp2_with fail
  refine (CB.out w1 B1.out).mono ?_
  rintro e w2 ⟨rfl, hb2⟩
  have B2 := Lib.hid (B1.out.trans (hb2.mono B1.out.size))
  clear hb2
  go_wp2_with fail
  refine (CC.out w2 B2.out).mono ?_
  rintro e w3 ⟨rfl, hb3⟩
  have B3 := Lib.hid (B2.out.trans (hb3.mono B2.out.size))
  clear hb3 CA CB CC B1 B2
  go_wp2_with fail
  obtain ⟨W, hW⟩ : ∃ W, W = w3.alloc (.cells #[.slice a1 0 c1, .slice a2 0 c2] 24) := ⟨_, rfl⟩
  have BW : Below w.heap.size w W := by rw [hW]; exact B3.out.alloc B3.out.size _
  have q1 : W.cell? ⟨w3.heap.size, 0, none⟩ = some (.slice a1 0 c1) := by rw [hW]; simp
  have q2 : W.cell? ⟨w3.heap.size, 1, none⟩ = some (.slice a2 0 c2) := by rw [hW]; simp
  have q3 : w3.heap.size < W.heap.size := by rw [hW]; simp
  rw [← hW]
  clear hW
  refine (ConcatF_any w3.heap.size a1 a2 0 0 c1 c2 [] [] W q3 rfl rfl q1 q2 ((HA.out.below BW (Nat.le_refl _)).quads BW.size) ((HB.out.below BW (Nat.le_refl _)).quads BW.size) (by omega)).mono ?_
  rintro e w4 ⟨v, rfl, hown, hb4⟩
  have B4 := Lib.hid (BW.trans (hb4.mono BW.size))
  obtain ⟨p, cp, rfl, hcp⟩ : ∃ p cp, v = .slice p 0 cp ∧ cp ≤ 9223372036854775807 := by
    rcases hown.2 with ⟨rfl, _⟩ | ⟨g', cap', cur, rfl, _, _, _, hm, _⟩
    · exact ⟨none, 0, rfl, by omega⟩
    · unfold maxLen at hm; exact ⟨_, cap', rfl, by omega⟩
  clear hb4 hown B3 BW q1 q2 q3
  go_wp2_with fail
  refine (sortQ_none p cp w4).mono ?_
  rintro e w5 ⟨rfl, rfl⟩
  go_wp2_with fail
  refine (compactQ_none p cp w4).mono ?_
  rintro e w6 ⟨rfl, rfl⟩
  go_wp2_with fail
  exact bodyPost_ret (v := .tuple #[.slice p 0 cp, .bool true]) (by simp [results, Try.results17, go_sem]) rfl ⟨_, rfl, .inl ⟨rfl, p, cp, rfl, hcp⟩, B4.out⟩

instance (g : Rows) (la lb : List Quad) : Decidable (BothOk g la lb) := by unfold BothOk; infer_instance
/-- what FixesBoth hands back -/
def bothOf (g : Rows) (la lb : List Quad) : List Quad := if BothOk g la lb then diffsOf g (bothG g la lb) else []
theorem bothOf_yes {g : Rows} {la lb : List Quad} (h : BothOk g la lb) : bothOf g la lb = diffsOf g (bothG g la lb) := if_pos h
theorem bothOf_no {g : Rows} {la lb : List Quad} (h : ¬ BothOk g la lb) : bothOf g la lb = [] := if_neg h
theorem FixesBoth_any (vg va vb : Value) (g : Rows) (la lb : List Quad) (w : World) (hG : Grid w vg g) (hA : Quads w va la) (hB : Quads w vb lb) :
    Calls Try.prog 17 #[vg, va, vb] w fun e w' => ∃ v, e = .returned (.tuple #[v, .bool (decide (BothOk g la lb))]) ∧ OwnQ w.heap.size w'.heap.size w' v (bothOf g la lb) ∧ Below w.heap.size w w' := by
  by_cases h : BothOk g la lb
  · rw [decide_eq_true h]
    have l1 := h.1.1.2.1
    have l2 := h.2.1.1.2.1
    obtain ⟨a1, c1, rfl, _, _, _⟩ := id hA
    obtain ⟨a2, c2, rfl, _, _, _⟩ := id hB
    by_cases hn : 0 < la.length + lb.length
    · refine (FixesBoth_yes vg a1 a2 c1 c2 g la lb w hG hA hB h.1 h.2.1 h.2.2 hn (by omega) (both_unique h)).mono ?_
      rintro e w' ⟨v, l, he, k1, k2, k3, k4⟩
      rw [bothOf_yes h, ← both_list h k2 k3]
      exact ⟨v, he, k1, k4⟩
    · obtain rfl : la = [] := List.length_eq_zero_iff.1 (by omega)
      obtain rfl : lb = [] := List.length_eq_zero_iff.1 (by omega)
      refine (FixesBoth_none vg a1 a2 c1 c2 g w hG hA hB h.1 h.2.1 h.2.2).mono ?_
      rintro e w' ⟨v, he, k1, k4⟩
      rw [bothOf_yes h, ← both_list h (l := []) List.Pairwise.nil (fun x => by simp)]
      exact ⟨v, he, k1, k4⟩
  · rw [decide_eq_false h, bothOf_no h]
    refine (FixesBoth_no vg va vb g la lb w hG hA hB h).mono ?_
    rintro e w' ⟨he, hb⟩
    exact ⟨_, he, .inl ⟨rfl, none, 0, rfl, by omega⟩, hb⟩
end Go.Proofs.Ytdelcebkpdnnjaa
namespace Go.Proofs.Ytdelcebkpdnnjaa
open Go.RowKit Go.Deep Go.Sort Go.Lib BigFrame

theorem put_ok_in {g : Rows} {q : Quad} {r c : Nat} (h : GridOk g) (hq : InG g q r c) (hv : 0 ≤ q.2.2.2 ∧ q.2.2.2 ≤ 99) : GridOk (put g q) := by
  refine ⟨by rw [put_len]; exact h.1, by rw [put_len]; exact h.2.1, by rw [put_cols]; exact h.2.2.1, by rw [put_cols]; exact h.2.2.2.1, fun i hi => ?_⟩
  rw [put_len] at hi
  rw [put_cols]
  have hl := (h.2.2.2.2 i hi).1
  refine ⟨by rw [put_row]; exact hl, fun j hj => ?_⟩
  rw [put_row, hl] at hj
  have := put_at_in hq i j
  unfold at2 at this
  rw [this]
  split
  · exact hv
  · exact h.cell hi hj
theorem puts_ok : ∀ (L : List Quad) (g : Rows), GridOk g → (∀ q, q ∈ L → (∃ r c, InG g q r c) ∧ 0 ≤ q.2.2.2 ∧ q.2.2.2 ≤ 99) → GridOk (L.foldl put g) ∧ (L.foldl put g).length = g.length ∧ colsOf (L.foldl put g) = colsOf g
  | [], _, h, _ => ⟨h, rfl, rfl⟩
  | q :: L, g, h, hL => by
    obtain ⟨⟨r, c, hq⟩, hv⟩ := hL q (List.mem_cons_self ..)
    obtain ⟨k1, k2, k3⟩ := puts_ok L (put g q) (put_ok_in h hq hv) fun p hp => by
      obtain ⟨⟨r', c', hp'⟩, hv'⟩ := hL p (List.mem_cons_of_mem _ hp)
      exact ⟨⟨r', c', put_in hp'⟩, hv'⟩
    rw [List.foldl_cons]
    exact ⟨k1, by rw [k2, put_len], by rw [k3, put_cols]⟩
theorem are_val {g : Rows} {l : List Quad} (h : AreOk g l) {q : Quad} (hq : q ∈ l) : 0 ≤ q.2.2.2 ∧ q.2.2.2 ≤ 99 := by
  obtain ⟨k, hk, rfl⟩ := List.mem_iff_getElem.1 hq
  have hc := h.1.2.2 k hk
  rw [getQ_eq hk] at hc
  exact ⟨hc.2.2.2.2.2.1, hc.2.2.2.2.2.2.1⟩
theorem both_ok {g : Rows} {la lb : List Quad} (h : BothOk g la lb) : GridOk (bothG g la lb) ∧ (bothG g la lb).length = g.length ∧ colsOf (bothG g la lb) = colsOf g :=
  puts_ok (la ++ lb) g h.1.1.1 fun q hq => ⟨both_in h q hq, by
    rcases List.mem_append.1 hq with hq | hq
    · exact are_val h.1 hq
    · exact are_val h.2.1 hq⟩
end Go.Proofs.Ytdelcebkpdnnjaa
namespace Go.Proofs.Ytdelcebkpdnnjaa
open Go.RowKit Go.Deep Go.Sort Go.Lib BigFrame

theorem both_like {g : Rows} {la lb : List Quad} (h : BothOk g la lb) : Like g (bothG g la lb) := by
  obtain ⟨h1, h2, h3⟩ := both_ok h
  exact ⟨⟨h.1.1.1, h1, h2.symm⟩, h3.symm⟩
theorem both_up {g : Rows} {la lb : List Quad} (h : BothOk g la lb) (k : Nat) : GridOk (doneUp g (la ++ lb) k) ∧ (doneUp g (la ++ lb) k).length = g.length ∧ colsOf (doneUp g (la ++ lb) k) = colsOf g :=
  puts_ok ((la ++ lb).take k) g h.1.1.1 fun q hq => ⟨both_in h q (List.mem_of_mem_take hq), by
    rcases List.mem_append.1 (List.mem_of_mem_take hq) with hq | hq
    · exact are_val h.1 hq
    · exact are_val h.2.1 hq⟩
theorem both_cell {g : Rows} {la lb : List Quad} (h : BothOk g la lb) (k : Nat) (hk : k < (la ++ lb).length) :
    0 ≤ ((la ++ lb)[k]?.getD q0).1 ∧ ((la ++ lb)[k]?.getD q0).1 < (g.length : Int) ∧ 0 ≤ ((la ++ lb)[k]?.getD q0).2.1 ∧ ((la ++ lb)[k]?.getD q0).2.1 < (colsOf g : Int) := by
  rw [getQ_eq hk]
  obtain ⟨i, j, hi, hj, e1, e2, -, -⟩ := both_mem h (List.getElem_mem hk)
  omega

theorem bothOf_len (g : Rows) (la lb : List Quad) : (bothOf g la lb).length ≤ 1099511627776 := by
  by_cases h : BothOk g la lb
  · rw [bothOf_yes h]
    have := make_len (both_like h)
    omega
  · rw [bothOf_no h]; simp

set_option maxHeartbeats 4000000 in
set_option maxRecDepth 100000 in
theorem specFixesBoth_yes (vg : Value) (a1 a2 : Option Addr) (c1 c2 : Nat) (g : Rows) (la lb : List Quad) (w : World) (hG : Grid w vg g) (hA : Quads w (.slice a1 la.length c1) la) (hB : Quads w (.slice a2 lb.length c2) lb) (h : BothOk g la lb) :
    Calls Try.prog 18 #[vg, .slice a1 la.length c1, .slice a2 lb.length c2] w fun e w' => ∃ v, e = .returned (.tuple #[v, .bool true]) ∧ OwnQ w.heap.size w'.heap.size w' v (diffsOf g (bothG g la lb)) ∧ Below w.heap.size w w' := by
  have HG := Lib.hid (show GridB w.heap.size w vg g from hG)
  have HA := Lib.hid hA.quadsB
  have HB := Lib.hid hB.quadsB
  have CA : Hid (∀ W, Below w.heap.size w W → Calls Try.prog 36 #[vg, .slice a1 la.length c1] W fun e w' => e = .returned (.bool true) ∧ Below W.heap.size W w') := fun W hW => by
    have k := specFixesAre_any vg _ g la W ((HG.out.below hW (Nat.le_refl _)).grid hW.size) ((HA.out.below hW (Nat.le_refl _)).quads hW.size)
    rwa [decide_eq_true h.1] at k
  have CB : Hid (∀ W, Below w.heap.size w W → Calls Try.prog 36 #[vg, .slice a2 lb.length c2] W fun e w' => e = .returned (.bool true) ∧ Below W.heap.size W w') := fun W hW => by
    have k := specFixesAre_any vg _ g lb W ((HG.out.below hW (Nat.le_refl _)).grid hW.size) ((HB.out.below hW (Nat.le_refl _)).quads hW.size)
    rwa [decide_eq_true h.2.1] at k
  have CC : Hid (∀ W, Below w.heap.size w W → Calls Try.prog 60 #[.slice a1 la.length c1, .slice a2 lb.length c2] W fun e w' => e = .returned (.bool false) ∧ Below W.heap.size W w') := fun W hW => by
    have k := l9Clash_any (.slice a1 la.length c1) (.slice a2 lb.length c2) la lb W ((HA.out.below hW (Nat.le_refl _)).quads hW.size) ((HB.out.below hW (Nat.le_refl _)).quads hW.size)
    rwa [decide_eq_false h.2.2] at k
  have HMK : Hid (∀ W x, Grid W vg g → Grid W x (bothG g la lb) → Calls Try.prog 62 #[vg, x] W fun e w' => ∃ v, e = .returned (.tuple #[v, .bool true]) ∧ OwnQ W.heap.size w'.heap.size w' v (diffsOf g (bothG g la lb)) ∧ Below W.heap.size W w') := fun W x h1 h2 => by
    have k := specFixesMake_any vg x g (bothG g la lb) W h1 h2
    rwa [decide_eq_true (both_like h), makeOf_yes (both_like h)] at k
  have hg := h.1.1.1
  have hgl2 := hg.2.1
  have hca2 := hg.2.2.2.1
  have HRL : Hid (∀ k, k < g.length → (g[k]?.getD []).length ≤ 1000000) := fun k hk => by have := (hg.2.2.2.2 k hk).1; omega
  obtain ⟨L, hL⟩ : ∃ L, L = la ++ lb := ⟨_, rfl⟩
  have HUP := Lib.hid (both_up h)
  have HIN := Lib.hid (both_cell h)
  have HLN : Hid (L.length = la.length + lb.length) := by rw [hL]; exact List.length_append
  have HBG : Hid (bothG g la lb = doneUp g L L.length) := by
    rw [hL]
    show _ = ((la ++ lb).take (la ++ lb).length).foldl put g
    rw [List.take_length]
    rfl
  have HLA : Hid (∀ k, k < la.length → L[k]?.getD q0 = la[k]?.getD q0) := fun k hk => by rw [hL, List.getElem?_append_left hk]
  have HLB : Hid (∀ k, k < lb.length → L[la.length + k]?.getD q0 = lb[k]?.getD q0) := fun k hk => by rw [hL, List.getElem?_append_right (by omega), Nat.add_sub_cancel_left]
  rw [← hL] at HUP HIN
  have HQA := Lib.hid hA.quadsB
  have HQB := Lib.hid hB.quadsB
  obtain ⟨a1', c1', e1, q1, q2, q3⟩ := HQA.out
  obtain ⟨rfl, -, rfl⟩ : a1 = a1' ∧ la.length = la.length ∧ c1 = c1' := by simpa using e1
  obtain ⟨a2', c2', e2, q4, q5, q6⟩ := HQB.out
  obtain ⟨rfl, -, rfl⟩ : a2 = a2' ∧ lb.length = lb.length ∧ c2 = c2' := by simpa using e2
  clear HQA HQB e1 e2
  have HQA := Lib.hid q3
  have HQB := Lib.hid q6
  clear hG hA hB h hg hL q3 q6
  go_enter Try.func18, Try.ntmps18
  go_wp2_with fail
  refine (CA.out w (Below.refl _ _)).mono ?_
  rintro e w1 ⟨rfl, hb1⟩
  have B1 := Lib.hid hb1
  clear hb1
  go_wp2_with fail
  refine (CB.out w1 B1.out).mono ?_
  rintro e w2 ⟨rfl, hb2⟩
  have B2 := Lib.hid (B1.out.trans (hb2.mono B1.out.size))
  clear hb2
  go_wp2_with fail
  refine (CC.out w2 B2.out).mono ?_
  rintro e w3 ⟨rfl, hb3⟩
  have B3 := Lib.hid (B2.out.trans (hb3.mono B2.out.size))
  clear hb3 CA CB CC B1 B2
  have z3 := B3.out.size
  go_wp2_with fail
  refine (l1Copy_any _ g _ ((HG.out.below B3.out (Nat.le_refl _)).grid z3) (by omega) HRL.out).mono ?_
  rintro e w4 ⟨x, rfl, hOx, b4'⟩
  have B4 := Lib.hid (B3.out.trans (b4'.mono z3))
  have z4 := b4'.size
  have HX := Lib.hid hOx
  clear b4' hOx
  obtain ⟨L0, hL0⟩ : ∃ L, L = w3.heap.size := ⟨_, rfl⟩
  obtain ⟨L1, hL1⟩ : ∃ L, L = w4.heap.size := ⟨_, rfl⟩
  rw [← hL0, ← hL1] at HX
  rw [← hL0] at z3 z4
  rw [← hL1] at z4
  have HL1 := Lib.hid hL1
  clear hL0 hL1
  go_wp2
  go_loopw [9] (fun i w5 => ∃ k : Nat, k ≤ la.length ∧ i = .int .i64 k ∧ OwnG L0 L1 w5 x (doneUp g L (k)) ∧ L1 ≤ w5.heap.size ∧ Below w.heap.size w w5) (fun i _ => la.length - (intOf i).toNat)
  case atStart => exact ⟨0, Nat.zero_le _, rfl, by rw [doneUp_zero]; exact HX.out, by rw [HL1.out]; exact Nat.le_refl _, B4.out⟩
  case round =>
    obtain ⟨w5, rfl⟩ : ∃ w : World, w = wr := ⟨_, rfl⟩
    obtain ⟨k, hkk, rfl, hO, hLw5, hbel⟩ := hrel
    have HOw5 := Lib.hid hO
    have HBw5 := Lib.hid hbel
    have hzw5 := hbel.size
    by_cases hlt : k < la.length
    · obtain ⟨b, off, hae, hbb, hq⟩ := HQA.out (by omega)
      subst hae
      obtain ⟨c0, c1, c2, c3⟩ := (hq k hlt).below hbel hbb
      obtain ⟨R, C, O, V, hx⟩ : ∃ R C O V, (R, C, O, V) = la[k]?.getD q0 := ⟨_, _, _, _, rfl⟩
      have hn := HLN.out
      have HX' := Lib.hid (hx.trans (HLA.out k hlt).symm)
      have hin := HIN.out (k) (by omega)
      rw [← HX'.out] at hin
      rw [← hx] at c0 c1 c2 c3
      dsimp only at c0 c1 c2 c3 hin
      obtain ⟨h1, h2, h3, h4⟩ := hin
      obtain ⟨i, rfl⟩ : ∃ i : Nat, R = (i : Int) := ⟨R.toNat, by omega⟩
      obtain ⟨j, rfl⟩ : ∃ j : Nat, C = (j : Int) := ⟨C.toNat, by omega⟩
      obtain ⟨g1, g2, g3⟩ := HUP.out (k)
      have hi : i < (doneUp g L (k)).length := by omega
      have hrl := (g1.2.2.2.2 i hi).1
      obtain ⟨bx, ox, cx, bx2, ox2, cx2, hxv, s1, s2, s3, s4, s5, s6, s7, s8⟩ := HOw5.out.cell (r := i) (c := j) hi (by omega)
      have S8 : Hid (OwnG L0 L1 (w5.setCell ⟨bx2, ox2 + j, none⟩ (.int .i64 V)) x (doneUp g L ((k + 1)))) := by
        have := s8 V
        rw [show (k + 1) = k + 1 by omega, doneUp_succ (show k < L.length by omega), ← HX'.out]
        exact this
      have j1 : (i : Int) < (g.length : Int) := by omega
      have j2 : (0 : Int) ≤ (i : Int) := by omega
      have j3 : (j : Int) < (colsOf g : Int) := by omega
      have j4 : (0 : Int) ≤ (j : Int) := by omega
      have k1 : (0 : Int) ≤ (k : Int) := by omega
      have k2 : (k : Int) < (la.length : Int) := by omega
      rw [hrl, g3] at s1 s6
      rw [g2] at hxv
      subst hxv
      obtain ⟨u, hu⟩ : ∃ u, u = ((doneUp g L (k))[i]?.getD [])[j]?.getD 0 := ⟨_, rfl⟩
      rw [← hu] at s2
      have j5 : w.heap.size ≤ bx2 := by omega
      clear hq hx hbel hO hn h1 h2 h3 h4 s8 hrl hu hi g1 g2 g3
      go_wp2_with fail
      go_still_tail 19, (by kernel_rfl)
      change wpList _ _ _ _ _ w5.drew
      have t2' : w5.drew.cell? ⟨bx2, ox2 + j, none⟩ = _ := s2
      have t3' : w5.drew.frozen? ⟨bx2, ox2 + j, none⟩ = _ := s3
      go_wp2
      go_roundw
      case rel =>
        have hTB : Touch L0 L1 w5 (w5.setCell ⟨bx2, ox2 + j, none⟩ (.int .i64 V)).drew := ((Touch.refl L0 L1 w5).setCell s4 s5 _).drew
        have hzB : w5.heap.size ≤ (w5.setCell ⟨bx2, ox2 + j, none⟩ (.int .i64 V)).drew.heap.size := hTB.size
        exact ⟨k + 1, by omega, by go_num, S8.out, by omega, (HBw5.out.setCell (p := ⟨bx2, ox2 + j, none⟩) j5 _).drew⟩
      case measure => simp [intOf]; omega
    · have HKK := Lib.hid (show k = la.length by omega)
      have hn : ¬ ((k : Int) < (la.length : Int)) := by omega
      clear hO hbel
      go_wp2
      go_loopw [10] (fun i w6 => ∃ k : Nat, k ≤ lb.length ∧ i = .int .i64 k ∧ OwnG L0 L1 w6 x (doneUp g L (la.length + k)) ∧ L1 ≤ w6.heap.size ∧ Below w.heap.size w w6) (fun i _ => lb.length - (intOf i).toNat)
      case atStart => exact ⟨0, Nat.zero_le _, rfl, by rw [Nat.add_zero, ← HKK.out]; exact HOw5.out, hLw5, HBw5.out⟩
      case round =>
        obtain ⟨w6, rfl⟩ : ∃ w : World, w = wr := ⟨_, rfl⟩
        obtain ⟨m, hkm, rfl, hO, hLw6, hbel⟩ := hrel
        have HOw6 := Lib.hid hO
        have HBw6 := Lib.hid hbel
        have hzw6 := hbel.size
        by_cases hlt : m < lb.length
        · obtain ⟨b, off, hae, hbb, hq⟩ := HQB.out (by omega)
          subst hae
          obtain ⟨c0, c1, c2, c3⟩ := (hq m hlt).below hbel hbb
          obtain ⟨R, C, O, V, hx⟩ : ∃ R C O V, (R, C, O, V) = lb[m]?.getD q0 := ⟨_, _, _, _, rfl⟩
          have hn := HLN.out
          have HX' := Lib.hid (hx.trans (HLB.out m hlt).symm)
          have hin := HIN.out (la.length + m) (by omega)
          rw [← HX'.out] at hin
          rw [← hx] at c0 c1 c2 c3
          dsimp only at c0 c1 c2 c3 hin
          obtain ⟨h1, h2, h3, h4⟩ := hin
          obtain ⟨i, rfl⟩ : ∃ i : Nat, R = (i : Int) := ⟨R.toNat, by omega⟩
          obtain ⟨j, rfl⟩ : ∃ j : Nat, C = (j : Int) := ⟨C.toNat, by omega⟩
          obtain ⟨g1, g2, g3⟩ := HUP.out (la.length + m)
          have hi : i < (doneUp g L (la.length + m)).length := by omega
          have hrl := (g1.2.2.2.2 i hi).1
          obtain ⟨bx, ox, cx, bx2, ox2, cx2, hxv, s1, s2, s3, s4, s5, s6, s7, s8⟩ := HOw6.out.cell (r := i) (c := j) hi (by omega)
          have S8 : Hid (OwnG L0 L1 (w6.setCell ⟨bx2, ox2 + j, none⟩ (.int .i64 V)) x (doneUp g L (la.length + (m + 1)))) := by
            have := s8 V
            rw [show la.length + (m + 1) = la.length + m + 1 by omega, doneUp_succ (show la.length + m < L.length by omega), ← HX'.out]
            exact this
          have j1 : (i : Int) < (g.length : Int) := by omega
          have j2 : (0 : Int) ≤ (i : Int) := by omega
          have j3 : (j : Int) < (colsOf g : Int) := by omega
          have j4 : (0 : Int) ≤ (j : Int) := by omega
          have k1 : (0 : Int) ≤ (m : Int) := by omega
          have k2 : (m : Int) < (lb.length : Int) := by omega
          rw [hrl, g3] at s1 s6
          rw [g2] at hxv
          subst hxv
          obtain ⟨u, hu⟩ : ∃ u, u = ((doneUp g L (la.length + m))[i]?.getD [])[j]?.getD 0 := ⟨_, rfl⟩
          rw [← hu] at s2
          have j5 : w.heap.size ≤ bx2 := by omega
          clear hq hx hbel hO hn h1 h2 h3 h4 s8 hrl hu hi g1 g2 g3
          go_wp2_with fail
          go_still_tail 19, (by kernel_rfl)
          change wpList _ _ _ _ _ w6.drew
          have t2' : w6.drew.cell? ⟨bx2, ox2 + j, none⟩ = _ := s2
          have t3' : w6.drew.frozen? ⟨bx2, ox2 + j, none⟩ = _ := s3
          go_wp2
          go_roundw
          case rel =>
            have hTB : Touch L0 L1 w6 (w6.setCell ⟨bx2, ox2 + j, none⟩ (.int .i64 V)).drew := ((Touch.refl L0 L1 w6).setCell s4 s5 _).drew
            have hzB : w6.heap.size ≤ (w6.setCell ⟨bx2, ox2 + j, none⟩ (.int .i64 V)).drew.heap.size := hTB.size
            exact ⟨m + 1, by omega, by go_num, S8.out, by omega, (HBw6.out.setCell (p := ⟨bx2, ox2 + j, none⟩) j5 _).drew⟩
          case measure => simp [intOf]; omega
        · have HKM := Lib.hid (show m = lb.length by omega)
          have hn : ¬ ((m : Int) < (lb.length : Int)) := by omega
          clear hO hbel
          have HXB : Hid (OwnG L0 L1 w6 x (bothG g la lb)) := by
            have h := HOw6.out
            rw [HKM.out, ← HLN.out] at h
            rw [HBG.out]
            exact h
          clear HOw6 HOw5 HX
          have CM := Lib.hid (HMK.out w6 x ((HG.out.below HBw6.out (Nat.le_refl _)).grid hzw6) (HXB.out.grid hLw6))
          clear HXB HMK
          go_wp2_with fail
          refine CM.out.mono ?_
          rintro e w7 ⟨v, rfl, hO7, hb7⟩
          have HO7 := Lib.hid (hO7.mono hzw6 (Nat.le_refl _))
          have HB7 := Lib.hid (HBw6.out.trans (hb7.mono hzw6))
          obtain ⟨b7, c7, rfl, _, _, _⟩ := hO7.quads
          clear hO7 hb7 CM
          go_wp2_with fail
          exact bodyPost_ret (v := .tuple #[.slice b7 (diffsOf g (bothG g la lb)).length c7, .bool true]) (by simp [results, Try.results18, go_sem]) rfl ⟨_, rfl, HO7.out, HB7.out⟩

set_option maxHeartbeats 1000000 in
set_option maxRecDepth 100000 in
theorem specFixesBoth_no (vg va vb : Value) (g : Rows) (la lb : List Quad) (w : World) (hG : Grid w vg g) (hA : Quads w va la) (hB : Quads w vb lb) (h : ¬ BothOk g la lb) :
    Calls Try.prog 18 #[vg, va, vb] w fun e w' => ∃ v, e = .returned (.tuple #[v, .bool false]) ∧ OwnQ w.heap.size w'.heap.size w' v [] ∧ Below w.heap.size w w' := by
  have HG := Lib.hid (show GridB w.heap.size w vg g from hG)
  have HA := Lib.hid hA.quadsB
  have HB := Lib.hid hB.quadsB
  have CA := Lib.hid (fun W (h : Below w.heap.size w W) => specFixesAre_any vg va g la W ((HG.out.below h (Nat.le_refl _)).grid h.size) ((HA.out.below h (Nat.le_refl _)).quads h.size))
  have CB := Lib.hid (fun W (h : Below w.heap.size w W) => specFixesAre_any vg vb g lb W ((HG.out.below h (Nat.le_refl _)).grid h.size) ((HB.out.below h (Nat.le_refl _)).quads h.size))
  have CC := Lib.hid (fun W (h : Below w.heap.size w W) => l9Clash_any va vb la lb W ((HA.out.below h (Nat.le_refl _)).quads h.size) ((HB.out.below h (Nat.le_refl _)).quads h.size))
  clear hG hA hB
  have NO := Lib.hid h
  clear h
  go_enter Try.func18, Try.ntmps18
  go_wp2_with fail
  refine (CA.out w (Below.refl _ _)).mono ?_
  rintro e w1 ⟨rfl, hb1⟩
  have B1 := Lib.hid hb1
  clear hb1 CA
  by_cases ha : AreOk g la
  · rw [decide_eq_true ha]
    have OA := Lib.hid ha
    clear ha
    go_wp2_with fail
    refine (CB.out w1 B1.out).mono ?_
    rintro e w2 ⟨rfl, hb2⟩
    have B2 := Lib.hid (B1.out.trans (hb2.mono B1.out.size))
    clear hb2 CB B1
    by_cases hb : AreOk g lb
    · rw [decide_eq_true hb]
      have hc : ClashL la lb := Classical.byContradiction fun hc => NO.out ⟨OA.out, hb, hc⟩
      clear hb
      go_wp2_with fail
      refine (CC.out w2 B2.out).mono ?_
      rintro e w3 ⟨rfl, hb3⟩
      rw [decide_eq_true hc]
      have B3 := Lib.hid (B2.out.trans (hb3.mono B2.out.size))
      clear hb3 CC B2 hc
      go_wp2
      go_ret2
      exact ⟨_, by first | done | rfl, .inl ⟨rfl, _, _, rfl, by omega⟩, B3.out.alloc B3.out.size _⟩
    · rw [decide_eq_false hb]
      clear hb
      go_wp2
      go_ret2
      exact ⟨_, by first | done | rfl, .inl ⟨rfl, _, _, rfl, by omega⟩, B2.out.alloc B2.out.size _⟩
  · rw [decide_eq_false ha]
    clear ha
    go_wp2
    go_ret2
    exact ⟨_, by first | done | rfl, .inl ⟨rfl, _, _, rfl, by omega⟩, B1.out.alloc B1.out.size _⟩
theorem specFixesBoth_any (vg va vb : Value) (g : Rows) (la lb : List Quad) (w : World) (hG : Grid w vg g) (hA : Quads w va la) (hB : Quads w vb lb) :
    Calls Try.prog 18 #[vg, va, vb] w fun e w' => ∃ v, e = .returned (.tuple #[v, .bool (decide (BothOk g la lb))]) ∧ OwnQ w.heap.size w'.heap.size w' v (bothOf g la lb) ∧ Below w.heap.size w w' := by
  by_cases h : BothOk g la lb
  · rw [decide_eq_true h, bothOf_yes h]
    obtain ⟨a1, c1, rfl, _, _, _⟩ := id hA
    obtain ⟨a2, c2, rfl, _, _, _⟩ := id hB
    exact specFixesBoth_yes vg a1 a2 c1 c2 g la lb w hG hA hB h
  · rw [decide_eq_false h, bothOf_no h]
    exact specFixesBoth_no vg va vb g la lb w hG hA hB h
end Go.Proofs.Ytdelcebkpdnnjaa
