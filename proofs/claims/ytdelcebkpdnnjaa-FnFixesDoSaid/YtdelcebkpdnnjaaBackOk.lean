/-
  Corrections taken back, and short ones: what they lead to. Plain.
-/
import Derived.Test.YtdelcebkpdnnjaaMakeOk
import Derived.Test.YtdelcebkpdnnjaaTake
import Derived.Test.YtdelcebkpdnnjaaAre
import Derived.Test.YtdelcebkpdnnjaaShort
namespace Go.Proofs.Ytdelcebkpdnnjaa
open Go.RowKit Go.Deep

theorem put_like {g : Rows} {f : Quad} (h : GridOk g) (hc : Can g f) : Like g (put g f) := ⟨⟨h, put_ok h hc, (put_len _ _).symm⟩, (put_cols _ _).symm⟩
theorem put_back {g : Rows} {f : Quad} (h : GridOk g) (hc : Can g f) : Can (put g f) (swapQ f) ∧ put (put g f) (swapQ f) = g := by
  have hr : f.1.toNat < g.length := by have := hc.1; have := hc.2.1; omega
  have hj : f.2.1.toNat < colsOf g := by have := hc.2.2.1; have := hc.2.2.2.1; omega
  have h2 := put_ok h hc
  have hat := at2_small h hr hj
  have hc2 : Can (put g f) (swapQ f) := by
    refine ⟨hc.1, by rw [put_len]; exact hc.2.1, hc.2.2.1, by rw [put_cols]; exact hc.2.2.2.1, ?_, ?_, ?_, ?_⟩
    · show at2 (put g f) f.1.toNat f.2.1.toNat = f.2.2.2
      rw [put_at h hc hr hj, if_pos ⟨rfl, rfl⟩]
    · show 0 ≤ f.2.2.1
      have := hc.2.2.2.2.1
      omega
    · show f.2.2.1 ≤ 99
      have := hc.2.2.2.2.1
      omega
    · show f.2.2.1 ≠ f.2.2.2
      exact fun e => hc.2.2.2.2.2.2.2 e.symm
  refine ⟨hc2, grid_ext ⟨⟨put_ok h2 hc2, h, by rw [put_len, put_len]⟩, by rw [put_cols, put_cols]⟩ fun i j hi hj' => ?_⟩
  rw [put_len, put_len] at hi
  rw [put_cols, put_cols] at hj'
  rw [put_at h2 hc2 (by rw [put_len]; exact hi) (by rw [put_cols]; exact hj'), put_at h hc hi hj']
  show (if i = f.1.toNat ∧ j = f.2.1.toNat then f.2.2.1 else _) = _
  by_cases e : i = f.1.toNat ∧ j = f.2.1.toNat
  · rw [if_pos e, e.1, e.2]
    exact hc.2.2.2.2.1.symm
  · rw [if_neg e, if_neg e]
theorem back_cons (f : Quad) (l : List Quad) : backL (f :: l) = backL l ++ [swapQ f] := by unfold backL; rw [List.reverse_cons, List.map_append]; rfl
theorem back_L : ∀ (l : List Quad) (g : Rows), GridOk g → CanL g l → CanL (l.foldl put g) (backL l) ∧ (backL l).foldl put (l.foldl put g) = g
  | [], g, _, _ => ⟨trivial, rfl⟩
  | f :: l, g, hg, h => by
    obtain ⟨i1, i2⟩ := back_L l (put g f) (put_ok hg h.1) h.2
    obtain ⟨b1, b2⟩ := put_back hg h.1
    rw [back_cons, List.foldl_cons, canL_app, List.foldl_append, i2]
    exact ⟨⟨i1, b1, trivial⟩, b2⟩
theorem back_ok {g : Rows} {l : List Quad} (h : EdOk g l) : EdOk (edition g l) (backL l) ∧ edition (edition g l) (backL l) = g := by
  obtain ⟨i1, i2⟩ := back_L l g h.1 (canUp_L l g h.2.2)
  refine ⟨⟨h.grid.1, by rw [backL_length]; exact h.2.1, canL_up _ _ (by rw [edition_fold]; exact i1)⟩, ?_⟩
  rw [edition_fold, edition_fold]; exact i2
theorem back_back (l : List Quad) : backL (backL l) = l := by
  unfold backL
  rw [← List.map_reverse, List.reverse_reverse, List.map_map]
  show l.map (fun q => swapQ (swapQ q)) = l
  exact List.map_id _
theorem back_rise {g : Rows} {l : List Quad} (h : EdOk g l) : riseOf g l + riseOf (edition g l) (backL l) = 0 := by
  have b := back_ok h
  rw [rise_tot h, rise_tot b.1, b.2]; omega

theorem dRow_put {M : Rows} {f : Quad} (h : GridOk M) (hc : Can M f) {i : Nat} (hi : i < M.length) : ∀ c, c ≤ colsOf M → dRow M (put M f) i c ≤ if i = f.1.toNat ∧ f.2.1.toNat < c then 1 else 0 := by
  intro c
  induction c with
  | zero => intro _; exact Nat.zero_le _
  | succ c ih =>
    intro hcc
    have i1 := ih (by omega)
    have e0 := put_at h hc hi (show c < colsOf M by omega)
    show dRow M (put M f) i c + one (at2 M i c) (at2 (put M f) i c) ≤ _
    rw [e0]
    by_cases e : i = f.1.toNat ∧ c = f.2.1.toNat
    · rw [if_pos e]
      rw [if_neg (by omega)] at i1
      rw [if_pos (by omega)]
      have : one (at2 M i c) f.2.2.2 ≤ 1 := by unfold one; split <;> omega
      omega
    · rw [if_neg e]
      have : one (at2 M i c) (at2 M i c) = 0 := by unfold one; rw [if_pos rfl]
      rw [this]
      by_cases e2 : i = f.1.toNat ∧ f.2.1.toNat < c
      · rw [if_pos e2] at i1; rw [if_pos (by omega)]; omega
      · rw [if_neg e2] at i1; omega
theorem dAll_put {M : Rows} {f : Quad} (h : GridOk M) (hc : Can M f) : ∀ r, r ≤ M.length → dAll M (put M f) (colsOf M) r ≤ if f.1.toNat < r then 1 else 0 := by
  intro r
  induction r with
  | zero => intro _; exact Nat.zero_le _
  | succ r ih =>
    intro hr
    have i1 := ih (by omega)
    have i2 := dRow_put h hc (show r < M.length by omega) _ (Nat.le_refl _)
    show dAll M (put M f) (colsOf M) r + dRow M (put M f) r (colsOf M) ≤ _
    by_cases e : r = f.1.toNat
    · rw [if_neg (by omega)] at i1
      rw [if_pos (by omega)]
      have : dRow M (put M f) r (colsOf M) ≤ 1 := by refine Nat.le_trans i2 ?_; split <;> omega
      omega
    · rw [if_neg (by omega)] at i2
      by_cases e2 : f.1.toNat < r
      · rw [if_pos e2] at i1; rw [if_pos (by omega)]; omega
      · rw [if_neg e2] at i1; omega
theorem far_put {M : Rows} {f : Quad} (h : GridOk M) (hc : Can M f) : farOf M (put M f) ≤ 1 := by
  rw [far_count (put_like h hc)]
  have := dAll_put h hc _ (Nat.le_refl _)
  have : (if f.1.toNat < M.length then 1 else 0) ≤ 1 := by split <;> omega
  omega
theorem far_done {g : Rows} {l : List Quad} (hg : GridOk g) : ∀ k, k ≤ l.length → CanUp g l k → farOf g (doneUp g l k) ≤ k := by
  intro k
  induction k with
  | zero =>
    intro _ _
    rw [doneUp_zero, (far_zero ⟨⟨hg, hg, rfl⟩, rfl⟩).2 rfl]
    exact Int.le_refl _
  | succ m ih =>
    intro hk hc
    have i1 := ih (by omega) (hc.less (by omega))
    have d := doneUp_grid hg m (by omega) (hc.less (by omega))
    have c := hc m (by omega)
    have d2 := doneUp_grid hg (m + 1) hk hc
    rw [doneUp_succ (show m < l.length by omega)] at d2 ⊢
    have i2 := far_put d.1 c
    have i3 := far_tri (ga := g) (gb := put (doneUp g l m) (l[m]?.getD q0)) (gc := doneUp g l m) ⟨⟨hg, d2.1, d2.2.1.symm⟩, d2.2.2.symm⟩ ⟨⟨hg, d.1, d.2.1.symm⟩, d.2.2.symm⟩
    have : ((m + 1 : Nat) : Int) = (m : Int) + 1 := by omega
    omega
theorem short_len {g : Rows} {l : List Quad} (h : EdOk g l) : (diffsOf g (edition g l)).length ≤ l.length := by
  have := far_done h.1 _ (Nat.le_refl _) h.2.2
  have e : doneUp g l l.length = edition g l := rfl
  rw [e, farOf_yes h.like] at this
  omega

theorem rowDiff_asc (ga gb : Rows) (r : Nat) : ∀ c, (rowDiff ga gb r c).Pairwise CellLt ∧ ∀ q, q ∈ rowDiff ga gb r c → q.1 = (r : Int) ∧ 0 ≤ q.2.1 ∧ q.2.1 < (c : Int) := by
  intro c
  induction c with
  | zero => exact ⟨List.Pairwise.nil, fun q hq => by simp [rowDiff] at hq⟩
  | succ c ih =>
    by_cases e : (ga[r]?.getD [])[c]?.getD 0 = (gb[r]?.getD [])[c]?.getD 0
    · rw [rowDiff_same e]
      exact ⟨ih.1, fun q hq => by have := ih.2 q hq; omega⟩
    · rw [rowDiff_other rfl rfl e]
      refine ⟨List.pairwise_append.2 ⟨ih.1, List.pairwise_singleton _ _, fun p hp q hq => ?_⟩, fun q hq => ?_⟩
      · have h1 := ih.2 p hp
        rw [List.mem_singleton] at hq
        subst hq
        exact .inr ⟨h1.1, h1.2.2⟩
      · rw [List.mem_append, List.mem_singleton] at hq
        rcases hq with hq | rfl
        · have := ih.2 q hq; omega
        · exact ⟨rfl, by simp, by simp; omega⟩
theorem diffs_asc (ga gb : Rows) : ∀ r, (diffs ga gb r).Pairwise CellLt ∧ ∀ q, q ∈ diffs ga gb r → q.1 < (r : Int) := by
  intro r
  induction r with
  | zero => exact ⟨List.Pairwise.nil, fun q hq => by simp [diffs] at hq⟩
  | succ r ih =>
    rw [diffs_succ]
    have a := rowDiff_asc ga gb r (colsOf ga)
    refine ⟨List.pairwise_append.2 ⟨ih.1, a.1, fun p hp q hq => ?_⟩, fun q hq => ?_⟩
    · have h1 := ih.2 p hp
      have h2 := (a.2 q hq).1
      exact .inl (by omega)
    · rw [List.mem_append] at hq
      rcases hq with hq | hq
      · have := ih.2 q hq; omega
      · have := (a.2 q hq).1; omega
theorem asc_of {l : List Quad} (h : l.Pairwise CellLt) : AscUp l l.length := by
  intro j hj
  have := List.pairwise_iff_getElem.1 h j (j + 1) (by omega) hj (by omega)
  rw [getQ_eq (show j < l.length by omega), getQ_eq hj]
  exact this
theorem short_are {ga gb : Rows} (h : Like ga gb) : AreOk ga (diffsOf ga gb) := ⟨(make_ok h).1, asc_of (diffs_asc ga gb _).1⟩
end Go.Proofs.Ytdelcebkpdnnjaa
