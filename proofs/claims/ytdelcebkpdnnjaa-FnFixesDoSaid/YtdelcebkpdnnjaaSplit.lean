/-
  Corrections in two parts: the first ones, and the rest. Plain.
-/
import Derived.Test.YtdelcebkpdnnjaaFixI
namespace Go.Proofs.Ytdelcebkpdnnjaa
open Go.RowKit Go.Deep

theorem doneUp_take {g : Rows} {l : List Quad} {k j : Nat} (h : j ≤ k) : doneUp g (l.take k) j = doneUp g l j := by unfold doneUp; rw [List.take_take, Nat.min_eq_left h]
theorem doneUp_drop {g : Rows} {l : List Quad} {k j : Nat} : doneUp (doneUp g l k) (l.drop k) j = doneUp g l (k + j) := by unfold doneUp; rw [← List.foldl_append, ← List.take_add]
theorem getQ_take {l : List Quad} {k j : Nat} (h : j < k) : (l.take k)[j]?.getD q0 = l[j]?.getD q0 := by rw [List.getElem?_take_of_lt h]
theorem getQ_drop {l : List Quad} {k j : Nat} : (l.drop k)[j]?.getD q0 = l[k + j]?.getD q0 := by rw [List.getElem?_drop]
theorem EdOk.take {g : Rows} {l : List Quad} (h : EdOk g l) {k : Nat} (hk : k ≤ l.length) : EdOk g (l.take k) := by
  have e : (l.take k).length = k := by rw [List.length_take]; omega
  refine ⟨h.1, by rw [e]; have := h.2.1; omega, fun j hj => ?_⟩
  rw [e] at hj
  rw [doneUp_take (by omega), getQ_take hj]
  exact h.2.2 j (by omega)
theorem EdOk.drop {g : Rows} {l : List Quad} (h : EdOk g l) {k : Nat} (hk : k ≤ l.length) : EdOk (doneUp g l k) (l.drop k) := by
  have e : (l.drop k).length = l.length - k := by rw [List.length_drop]
  refine ⟨(doneUp_grid h.1 k hk (h.2.2.less hk)).1, by rw [e]; have := h.2.1; omega, fun j hj => ?_⟩
  rw [e] at hj
  rw [doneUp_drop, getQ_drop]
  exact h.2.2 (k + j) (by omega)
theorem edition_take {g : Rows} {l : List Quad} {k : Nat} (hk : k ≤ l.length) : edition g (l.take k) = doneUp g l k := by
  have e : (l.take k).length = k := by rw [List.length_take]; omega
  unfold edition; rw [e, doneUp_take (Nat.le_refl _)]
theorem edition_drop {g : Rows} {l : List Quad} {k : Nat} (hk : k ≤ l.length) : edition (doneUp g l k) (l.drop k) = edition g l := by
  have e : (l.drop k).length = l.length - k := by rw [List.length_drop]
  unfold edition; rw [doneUp_drop, e]; congr 1; omega
theorem riseUp_take {l : List Quad} {k : Nat} : ∀ j, j ≤ k → riseUp (l.take k) j = riseUp l j := by
  intro j
  induction j with
  | zero => intro _; rfl
  | succ m ih => intro h; unfold riseUp; rw [ih (by omega), getQ_take (by omega)]
theorem riseUp_drop {l : List Quad} {k : Nat} : ∀ j, riseUp l k + riseUp (l.drop k) j = riseUp l (k + j) := by
  intro j
  induction j with
  | zero => show riseUp l k + 0 = riseUp l (k + 0); rw [Nat.add_zero]; omega
  | succ m ih =>
    show riseUp l k + (riseUp (l.drop k) m + (((l.drop k)[m]?.getD q0).2.2.2 - ((l.drop k)[m]?.getD q0).2.2.1)) = riseUp l (k + m) + ((l[k + m]?.getD q0).2.2.2 - (l[k + m]?.getD q0).2.2.1)
    rw [← ih, getQ_drop]; omega
theorem rise_parts {g : Rows} {l : List Quad} (h : EdOk g l) {k : Nat} (hk : k ≤ l.length) : riseOf g (l.take k) + riseOf (doneUp g l k) (l.drop k) = riseOf g l := by
  have e : (l.take k).length = k := by rw [List.length_take]; omega
  have e2 : (l.drop k).length = l.length - k := by rw [List.length_drop]
  rw [riseOf_yes (h.take hk), riseOf_yes (h.drop hk), riseOf_yes h, e, e2, riseUp_take k (Nat.le_refl _), riseUp_drop]
  congr 1; omega

theorem rise_bound (g : Rows) (l : List Quad) : -5940 ≤ riseOf g l ∧ riseOf g l ≤ 5940 := by
  by_cases h : EdOk g l
  · rw [riseOf_yes h]
    have := rise_small h _ (Nat.le_refl _)
    have := h.2.1
    omega
  · rw [riseOf_no h]; omega

/-- the heights of the first cells, added up -/
def totUp (g : Rows) : Nat → Int
  | 0 => 0
  | n + 1 => totUp g n + cellOf g n
theorem totUp_put {g : Rows} {f : Quad} (h : GridOk g) (hc : Can g f) : ∀ n, n ≤ g.length * colsOf g → totUp (put g f) n = totUp g n + if f.1.toNat * colsOf g + f.2.1.toNat < n then f.2.2.2 - f.2.2.1 else 0 := by
  have hx : cellOf g (f.1.toNat * colsOf g + f.2.1.toNat) = f.2.2.1 := by
    have h0 := hc.2.2.2.2.1
    have hj : f.2.1.toNat < colsOf g := by have := hc.2.2.2.1; have := hc.2.2.1; omega
    unfold at2 at h0
    unfold cellOf
    rw [show (f.1.toNat * colsOf g + f.2.1.toNat) / colsOf g = f.1.toNat by rw [Nat.mul_comm, Nat.mul_add_div (by omega), Nat.div_eq_of_lt hj]; rfl, show (f.1.toNat * colsOf g + f.2.1.toNat) % colsOf g = f.2.1.toNat by rw [Nat.mul_comm, Nat.mul_add_mod, Nat.mod_eq_of_lt hj]]
    exact h0
  intro n
  induction n with
  | zero => intro _; simp [totUp]
  | succ m ih =>
    intro hn
    show totUp (put g f) m + cellOf (put g f) m = totUp g m + cellOf g m + _
    rw [ih (by omega), put_cell h hc (by omega)]
    generalize he : f.1.toNat * colsOf g + f.2.1.toNat = p at hx ⊢
    by_cases e : m = p
    · subst e
      rw [if_neg (Nat.lt_irrefl _), if_pos rfl, if_pos (Nat.lt_succ_self _), hx]; omega
    · rw [if_neg e]
      by_cases e2 : p < m
      · rw [if_pos e2, if_pos (by omega)]; omega
      · rw [if_neg e2, if_neg (by omega)]; omega
def totOf (g : Rows) : Int := totUp g (g.length * colsOf g)
theorem totOf_put {g : Rows} {f : Quad} (h : GridOk g) (hc : Can g f) : totOf (put g f) = totOf g + (f.2.2.2 - f.2.2.1) := by
  unfold totOf
  rw [put_len, put_cols, totUp_put h hc _ (Nat.le_refl _), if_pos]
  have a1 : f.1.toNat + 1 ≤ g.length := by have := hc.1; have := hc.2.1; omega
  have a2 : f.2.1.toNat < colsOf g := by have := hc.2.2.1; have := hc.2.2.2.1; omega
  have := Nat.mul_le_mul_right (colsOf g) a1
  rw [Nat.succ_mul] at this
  omega
theorem totOf_done {g : Rows} {l : List Quad} (hg : GridOk g) : ∀ k, k ≤ l.length → CanUp g l k → totOf (doneUp g l k) = totOf g + riseUp l k := by
  intro k
  induction k with
  | zero => intro _ _; rw [doneUp_zero]; show _ = _ + 0; omega
  | succ m ih =>
    intro hk hc
    rw [doneUp_succ (by omega), totOf_put (doneUp_grid hg m (by omega) (hc.less (by omega))).1 (hc m (by omega)), ih (by omega) (hc.less (by omega))]
    show _ = _ + (riseUp l m + _)
    omega
/-- the rise is what the edition has more -/
theorem rise_tot {g : Rows} {l : List Quad} (h : EdOk g l) : riseOf g l = totOf (edition g l) - totOf g := by
  rw [riseOf_yes h]; unfold edition; rw [totOf_done h.1 _ (Nat.le_refl _) h.2.2]; omega

/-- the first cells of a read list, and the rest of it -/
theorem QuadsB.take {B k n : Nat} {w : World} {a : Option Addr} {cap : Nat} {l : List Quad} (h : QuadsB B w (.slice a n cap) l) (hk : k ≤ l.length) : QuadsB B w (.slice a k cap) (l.take k) := by
  obtain ⟨a', cap', hv, h1, h2, h3⟩ := h
  simp only [Value.slice.injEq] at hv
  obtain ⟨rfl, rfl, rfl⟩ := hv
  have e : (l.take k).length = k := by rw [List.length_take]; omega
  refine ⟨a, cap, by rw [e], by omega, h2, fun hp => ?_⟩
  rw [e] at hp
  obtain ⟨b, off, rfl, hb, hc⟩ := h3 (by omega)
  refine ⟨b, off, rfl, hb, fun j hj => ?_⟩
  rw [e] at hj
  rw [getQ_take hj]
  exact hc j (by omega)
theorem QuadsB.drop {B k n : Nat} {w : World} {a : Option Addr} {cap : Nat} {l : List Quad} (h : QuadsB B w (.slice a n cap) l) (hk : k ≤ l.length) : QuadsB B w (.slice (Option.map (fun x => x.add (k * 4)) a) (n - k) (cap - k)) (l.drop k) := by
  obtain ⟨a', cap', hv, h1, h2, h3⟩ := h
  simp only [Value.slice.injEq] at hv
  obtain ⟨rfl, rfl, rfl⟩ := hv
  have e : (l.drop k).length = l.length - k := by rw [List.length_drop]
  refine ⟨_, cap - k, by rw [e], by omega, by omega, fun hp => ?_⟩
  rw [e] at hp
  obtain ⟨b, off, rfl, hb, hc⟩ := h3 (by omega)
  refine ⟨b, off + k * 4, by simp [Addr.add], hb, fun j hj => ?_⟩
  rw [e] at hj
  have q := hc (k + j) (by omega)
  rw [getQ_drop, show off + k * 4 + j * 4 = off + (k + j) * 4 by omega]
  exact q
theorem QuadsB.dropAll {B k n : Nat} {w : World} {a : Option Addr} {cap : Nat} {l : List Quad} (h : QuadsB B w (.slice a n cap) l) (hk : k = l.length) : QuadsB B w (.slice a 0 0) (l.drop k) := by
  obtain ⟨a', cap', hv, h1, h2, h3⟩ := h
  simp only [Value.slice.injEq] at hv
  obtain ⟨rfl, rfl, rfl⟩ := hv
  subst hk
  exact ⟨a, 0, by simp, by simp, by omega, fun hp => absurd hp (by simp)⟩
end Go.Proofs.Ytdelcebkpdnnjaa
