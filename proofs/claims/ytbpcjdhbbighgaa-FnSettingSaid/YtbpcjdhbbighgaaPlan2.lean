/-
  Plain laws of settings, part 2: greedy settings, flips, labels dropped, counting, texts. Own work; no condition.
-/
import Derived.Test.YtbpcjdhbbighgaaPlan
namespace Go.Proofs.Ytbpcjdhbbighgaa

/-- the least side at which a label can be set, -1 if there is none -/
def firstSide (M : Plan) (q : Quad) : Int := (([0, 1, 2, 3] : List Int).find? fun side => decide (CanSet M q side)).getD (-1)
/-- one label of the greedy setting -/
def gStep (l : List Quad) (st : Plan × List Int) (k : Nat) : Plan × List Int :=
  (next st.1 (l[k]?.getD q0) (firstSide st.1 (l[k]?.getD q0)) ((k : Int) + 1), st.2.set k (firstSide st.1 (l[k]?.getD q0)))
def gStart (l : List Quad) : Plan × List Int := (mPts l, List.replicate l.length (-1))
def wOf (l : List Quad) (k : Nat) : Int := (l[k]?.getD q0).2.2.2
/-- the labels from the greatest weight on, those of one weight in their order -/
def orderOf (l : List Quad) : List Nat := ([9, 8, 7, 6, 5, 4, 3, 2, 1] : List Int).flatMap fun w => (List.range l.length).filter fun k => decide (wOf l k = w)
def greedyOf (l : List Quad) : List Int := ((orderOf l).foldl (gStep l) (gStart l)).2

theorem firstSide_spec (M : Plan) (q : Quad) : (firstSide M q = -1 ∧ ∀ side, ¬ CanSet M q side) ∨ (CanSet M q (firstSide M q) ∧ 0 ≤ firstSide M q ∧ firstSide M q ≤ 3 ∧ ∀ side, CanSet M q side → firstSide M q ≤ side) := by
  unfold firstSide
  have hr : ∀ side, CanSet M q side → side ∈ ([0, 1, 2, 3] : List Int) := by
    intro side h
    have := h.1.1; have := h.1.2.1
    simp; omega
  cases h : ([0, 1, 2, 3] : List Int).find? fun side => decide (CanSet M q side) with
  | none =>
    left
    refine ⟨rfl, fun side hc => ?_⟩
    have := (List.find?_eq_none.1 h) side (hr side hc)
    simp [hc] at this
  | some a =>
    right
    rw [List.find?_eq_some_iff_append] at h
    obtain ⟨h1, us, bs, h2, h3⟩ := h
    have ha : CanSet M q a := of_decide_eq_true h1
    refine ⟨ha, ha.1.1, ha.1.2.1, fun side hs => ?_⟩
    have hp : ([0, 1, 2, 3] : List Int).Pairwise (· < ·) := by decide
    have hm := hr side hs
    rw [h2] at hm hp
    rcases List.mem_append.1 hm with hm | hm
    · have := h3 side hm; simp [hs] at this
    · rcases List.mem_cons.1 hm with rfl | hm
      · exact Int.le_refl _
      · have := (List.pairwise_cons.1 (List.pairwise_append.1 hp).2.1).1 side hm
        show a ≤ side
        omega
/-- while labels are set one by one: the map is that of the setting so far, the labels still to come are left out -/
theorem greedy_inv (l : List Quad) : ∀ (todo : List Nat) (st : Plan × List Int), todo.Nodup → (∀ k ∈ todo, k < l.length ∧ st.2[k]?.getD 0 = -1) → st.2.length = l.length → OkUp l st.2 l.length → st.1 = planUp l st.2 l.length →
    let r := todo.foldl (gStep l) st
    r.2.length = l.length ∧ OkUp l r.2 l.length ∧ r.1 = planUp l r.2 l.length ∧ (∀ k, ¬ k ∈ todo → r.2[k]?.getD 0 = st.2[k]?.getD 0) ∧ (∀ c, st.1 c ≠ 0 → r.1 c ≠ 0) ∧
      ∀ k ∈ todo, r.2[k]?.getD 0 = -1 → ∀ side, ¬ CanSet r.1 (l[k]?.getD q0) side := by
  intro todo
  induction todo with
  | nil => intro st _ _ h1 h2 h3; exact ⟨h1, h2, h3, fun _ _ => rfl, fun _ h => h, by simp⟩
  | cons k todo ih =>
    intro st hnd htodo h1 h2 h3
    simp only [List.foldl_cons]
    obtain ⟨hk, hks⟩ := htodo k (List.mem_cons_self ..)
    have hnd' := List.nodup_cons.1 hnd
    have hstep : (gStep l st k).2.length = l.length ∧ OkUp l (gStep l st k).2 l.length ∧ (gStep l st k).1 = planUp l (gStep l st k).2 l.length ∧ (∀ c, st.1 c ≠ 0 → (gStep l st k).1 c ≠ 0) ∧
        ((gStep l st k).2[k]?.getD 0 = -1 → ∀ side, ¬ CanSet (gStep l st k).1 (l[k]?.getD q0) side) ∧ ∀ j : Nat, j ≠ k → (gStep l st k).2[j]?.getD 0 = st.2[j]?.getD 0 := by
      rcases firstSide_spec st.1 (l[k]?.getD q0) with ⟨g1, g2⟩ | ⟨g1, g2, g3, g4⟩
      · have e1 : (gStep l st k).1 = st.1 := by unfold gStep; rw [g1]; show next st.1 (l[k]?.getD q0) (-1) ((k : Int) + 1) = st.1; exact if_pos rfl
        have e2 : (gStep l st k).2 = st.2.set k (-1) := by unfold gStep; rw [g1]
        have e3 : ∀ j : Nat, (st.2.set k (-1))[j]?.getD 0 = st.2[j]?.getD 0 := by
          intro j
          by_cases e : j = k
          · subst e; rw [set_same (by omega), hks]
          · exact set_other e
        rw [e1, e2]
        refine ⟨by simp [h1], ?_, ?_, fun c h => h, fun _ => g2, fun j hj => e3 j⟩
        · exact (okUp_congr (fun j _ => e3 j)).2 h2
        · rw [h3]; exact (planUp_congr (fun j _ => e3 j)).symm
      · have hne : firstSide st.1 (l[k]?.getD q0) ≠ -1 := by omega
        have e1 : (gStep l st k).1 = setOn st.1 (l[k]?.getD q0) (firstSide st.1 (l[k]?.getD q0)) ((k : Int) + 1) := by unfold gStep; exact if_neg hne
        have e2 : (gStep l st k).2 = st.2.set k (firstSide st.1 (l[k]?.getD q0)) := rfl
        have hcan : CanSet (planUp l st.2 l.length) (l[k]?.getD q0) (firstSide st.1 (l[k]?.getD q0)) := by rw [← h3]; exact g1
        refine ⟨by rw [e2]; simp [h1], ?_, ?_, ?_, ?_, ?_⟩
        · rw [e2]; exact (okUp_in h2 (by omega) hk hks hne).2 hcan
        · rw [e1, e2, planUp_in (by omega) hk hks hne hcan, ← h3]
        · rw [e1]; intro c hc
          simp only [setOn, putOn]; split <;> omega
        · intro h; rw [e2, set_same (by omega)] at h; exact absurd h hne
        · intro j hj; rw [e2]; exact set_other hj
    obtain ⟨s1, s2, s3, s4, s5, s6⟩ := hstep
    obtain ⟨i1, i2, i3, i4, i5, i6⟩ := ih (gStep l st k) hnd'.2 (fun j hj => ⟨(htodo j (List.mem_cons_of_mem _ hj)).1, by
      rw [s6 j (fun e => hnd'.1 (e ▸ hj))]; exact (htodo j (List.mem_cons_of_mem _ hj)).2⟩) s1 s2 s3
    refine ⟨i1, i2, i3, ?_, fun c hc => i5 c (s4 c hc), ?_⟩
    · intro j hj
      rw [i4 j (fun h => hj (List.mem_cons_of_mem _ h)), s6 j (fun e => hj (e ▸ List.mem_cons_self ..))]
    · intro j hj
      rcases List.mem_cons.1 hj with rfl | hj
      · intro hr side hc
        rw [i4 j hnd'.1] at hr
        refine s5 hr side ⟨hc.1, fun c hcc => ?_⟩
        have := hc.2 c hcc
        rcases Decidable.em ((gStep l st j).1 c.toNat = 0) with h | h
        · exact h
        · exact absurd this (i5 _ h)
      · exact i6 j hj
theorem mem_orderOf {l : List Quad} (hw : ∀ k, k < l.length → 1 ≤ wOf l k ∧ wOf l k ≤ 9) (k : Nat) : k ∈ orderOf l ↔ k < l.length := by
  unfold orderOf
  simp only [List.mem_flatMap, List.mem_filter, List.mem_range, decide_eq_true_eq]
  constructor
  · rintro ⟨_, _, h, _⟩; exact h
  · intro h
    have := hw k h
    exact ⟨wOf l k, by simp; omega, h, rfl⟩
def befW (l : List Quad) (i k : Nat) : Prop := wOf l k < wOf l i ∨ (wOf l i = wOf l k ∧ i < k)
theorem orderOf_pairwise (l : List Quad) : (orderOf l).Pairwise (befW l) := by
  unfold orderOf
  have hws : ([9, 8, 7, 6, 5, 4, 3, 2, 1] : List Int).Pairwise (fun a b => b < a) := by decide
  generalize ([9, 8, 7, 6, 5, 4, 3, 2, 1] : List Int) = ws at hws
  induction ws with
  | nil => exact List.Pairwise.nil
  | cons w ws ih =>
    rw [List.flatMap_cons, List.pairwise_append]
    rw [List.pairwise_cons] at hws
    refine ⟨?_, ih hws.2, ?_⟩
    · refine List.Pairwise.imp_of_mem ?_ (List.Pairwise.filter _ List.pairwise_lt_range)
      intro a b ha hb hab
      simp at ha hb
      exact .inr ⟨by rw [ha.2, hb.2], hab⟩
    · intro a ha b hb
      simp only [List.mem_flatMap, List.mem_filter, List.mem_range, decide_eq_true_eq] at ha hb
      obtain ⟨w', hw', _, hb'⟩ := hb
      left
      rw [ha.2, hb']
      exact hws.1 w' hw'
theorem orderOf_nodup (l : List Quad) : (orderOf l).Nodup := by
  refine List.Pairwise.imp ?_ (orderOf_pairwise l)
  intro a b h e
  subst e
  rcases h with h | ⟨_, h⟩ <;> omega
/-- an order of all labels by weight is this one -/
theorem order_unique (l : List Quad) : ∀ a b : List Nat, a.Pairwise (befW l) → b.Pairwise (befW l) → (∀ x, x ∈ a ↔ x ∈ b) → a = b
  | [], [], _, _, _ => rfl
  | [], y :: b, _, _, h => absurd ((h y).2 (List.mem_cons_self ..)) (by simp)
  | x :: a, [], _, _, h => absurd ((h x).1 (List.mem_cons_self ..)) (by simp)
  | x :: a, y :: b, ha, hb, h => by
    rw [List.pairwise_cons] at ha hb
    have e : x = y := by
      rcases List.mem_cons.1 ((h x).1 (List.mem_cons_self ..)) with e | hx
      · exact e
      · rcases List.mem_cons.1 ((h y).2 (List.mem_cons_self ..)) with e | hy
        · exact e.symm
        · have h1 := hb.1 x hx
          have h2 := ha.1 y hy
          rcases h1 with h1 | ⟨h1, h1'⟩ <;> rcases h2 with h2 | ⟨h2, h2'⟩ <;> omega
    subst e
    refine congrArg _ (order_unique l a b ha.2 hb.2 fun z => ?_)
    have hx := h z
    constructor
    · intro hz
      rcases List.mem_cons.1 (hx.1 (List.mem_cons_of_mem _ hz)) with e | h
      · subst e
        have := ha.1 z hz
        rcases this with h | ⟨_, h⟩ <;> omega
      · exact h
    · intro hz
      rcases List.mem_cons.1 (hx.2 (List.mem_cons_of_mem _ hz)) with e | h
      · subst e
        have := hb.1 z hz
        rcases this with h | ⟨_, h⟩ <;> omega
      · exact h
theorem valid_w {l : List Quad} (h : ValidL l) (k : Nat) (hk : k < l.length) : 1 ≤ wOf l k ∧ wOf l k ≤ 9 := ((h.2 k hk).1).2.2.2.2.2.2
theorem start_ok (l : List Quad) : OkUp l (gStart l).2 l.length ∧ (gStart l).1 = planUp l (gStart l).2 l.length ∧ ∀ k, k < l.length → (gStart l).2[k]?.getD 0 = -1 := by
  have h3 : ∀ k, k < l.length → (gStart l).2[k]?.getD 0 = -1 := by intro k hk; simp [gStart, hk]
  have key : ∀ n, n ≤ l.length → OkUp l (gStart l).2 n ∧ planUp l (gStart l).2 n = mPts l := by
    intro n
    induction n with
    | zero => intro _; exact ⟨trivial, rfl⟩
    | succ n ih =>
      intro hn
      obtain ⟨a, b⟩ := ih (by omega)
      exact ⟨⟨a, .inl (h3 n (by omega))⟩, by rw [planUp, if_pos (h3 n (by omega)), b]⟩
  obtain ⟨a, b⟩ := key _ (Nat.le_refl _)
  exact ⟨a, b.symm, h3⟩
/-- the greedy setting is one, and can take no more -/
theorem greedy_ok {l : List Quad} (h : ValidL l) : SetOk l (greedyOf l) ∧ ∀ i, i < l.length → (greedyOf l)[i]?.getD 0 = -1 → ∀ side, side ≠ -1 → ¬ SetOk l ((greedyOf l).set i side) := by
  obtain ⟨s1, s2, s3⟩ := start_ok l
  have hw := valid_w h
  obtain ⟨i1, i2, i3, i4, i5, i6⟩ := greedy_inv l (orderOf l) (gStart l) (orderOf_nodup l) (fun k hk => ⟨(mem_orderOf hw k).1 hk, s3 k ((mem_orderOf hw k).1 hk)⟩) (by simp [gStart]) s1 s2
  refine ⟨⟨h, i1, i2⟩, fun i hi hm side hs hc => ?_⟩
  have hc' := (okUp_in i2 (by rw [i1]; exact hi) hi hm hs).1 hc.2.2
  rw [← i3] at hc'
  exact i6 i ((mem_orderOf hw i).2 hi) hm side hc'
/-- flips: the map turned from north to south -/
def fcell (c : Int) : Int := 10 * (9 - c / 10) + c % 10
def fplan (M : Plan) : Plan := fun i => if i < 100 then M (fcell (i : Int)).toNat else M i
def fq (q : Quad) : Quad := (q.1, 9 - q.2.1, q.2.2.1, q.2.2.2)
def fs (s : Int) : Int := if s = 2 then 3 else if s = 3 then 2 else s
theorem fs_fs (s : Int) : fs (fs s) = s := by unfold fs; repeat' split <;> omega
theorem fcell_range {c : Int} (h0 : 0 ≤ c) (h1 : c ≤ 99) : 0 ≤ fcell c ∧ fcell c ≤ 99 ∧ fcell (fcell c) = c := by unfold fcell; omega
theorem fits_flip (q : Quad) (side : Int) : Fits (fq q) (fs side) ↔ Fits q side := by
  unfold Fits
  by_cases h : 0 ≤ side ∧ side ≤ 3
  · rcases (show side = 0 ∨ side = 1 ∨ side = 2 ∨ side = 3 by omega) with rfl | rfl | rfl | rfl
    all_goals simp only [fs, fq, sx, sy]; simp; try omega
  · have : ¬ (0 ≤ fs side ∧ fs side ≤ 3) := by unfold fs; repeat' split <;> omega
    constructor
    · intro hh; exact absurd ⟨hh.1, hh.2.1⟩ this
    · intro hh; exact absurd ⟨hh.1, hh.2.1⟩ h
theorem flip_mul (x y : Int) : 10 * y + x = 10 * y + x := rfl
theorem places_flip (q : Quad) (side c : Int) (_ : 0 ≤ c) (_ : c ≤ 99) : fcell c ∈ placesOf (fq q) (fs side) ↔ c ∈ placesOf q side := by
  unfold placesOf
  by_cases hf : Fits q side
  · rw [if_pos hf, if_pos ((fits_flip q side).2 hf)]
    obtain ⟨f1, f2, f3, f4, f5, f6⟩ := hf
    have ex : sx (fs side) (fq q) = sx side q := by
      rcases (show side = 0 ∨ side = 1 ∨ side = 2 ∨ side = 3 by omega) with rfl | rfl | rfl | rfl <;> simp [fs, fq, sx]
    have ey : sy (fs side) (fq q) = 9 - sy side q := by
      rcases (show side = 0 ∨ side = 1 ∨ side = 2 ∨ side = 3 by omega) with rfl | rfl | rfl | rfl <;> simp [fs, fq, sy] <;> omega
    rw [ex, ey]
    simp only [rowOf, List.mem_map, List.mem_range, fq]
    constructor
    · rintro ⟨i, hi, he⟩; refine ⟨i, hi, ?_⟩; unfold fcell at he; omega
    · rintro ⟨i, hi, he⟩; refine ⟨i, hi, ?_⟩; unfold fcell; omega
  · rw [if_neg hf, if_neg (fun h => hf ((fits_flip q side).1 h))]; simp
theorem places_flip' (q : Quad) (side c : Int) (h0 : 0 ≤ c) (h1 : c ≤ 99) : c ∈ placesOf (fq q) (fs side) ↔ fcell c ∈ placesOf q side := by
  obtain ⟨a, b, e⟩ := fcell_range h0 h1
  rw [← places_flip q side (fcell c) a b, e]
theorem canSet_flip (M : Plan) (q : Quad) (side : Int) : CanSet (fplan M) (fq q) (fs side) ↔ CanSet M q side := by
  unfold CanSet FreeOn
  rw [fits_flip]
  refine and_congr_right fun _ => ?_
  constructor
  · intro h c hc
    obtain ⟨c0, c1, _⟩ := places_in hc
    obtain ⟨f0, f1, fe⟩ := fcell_range c0 c1
    have := h (fcell c) ((places_flip q side c c0 c1).2 hc)
    unfold fplan at this
    rw [if_pos (by omega), show (((fcell c).toNat : Nat) : Int) = fcell c by omega, fe] at this
    exact this
  · intro h c hc
    obtain ⟨c0, c1, c2⟩ := places_in hc
    unfold fplan
    rw [if_pos (by omega), c2]
    exact h _ ((places_flip' q side c c0 c1).1 hc)
theorem setOn_flip (M : Plan) (q : Quad) (side m : Int) : setOn (fplan M) (fq q) (fs side) m = fplan (setOn M q side m) := by
  funext i
  simp only [setOn, putOn, fplan]
  by_cases hi : i < 100
  · rw [if_pos hi, if_pos hi]
    obtain ⟨f0, f1, fe⟩ := fcell_range (c := (i : Int)) (by omega) (by omega)
    rw [show (((fcell (i : Int)).toNat : Nat) : Int) = fcell i by omega]
    by_cases hc : (i : Int) ∈ placesOf (fq q) (fs side)
    · rw [if_pos hc, if_pos ((places_flip' q side i (by omega) (by omega)).1 hc)]
    · rw [if_neg hc, if_neg (fun h => hc ((places_flip' q side i (by omega) (by omega)).2 h))]
  · rw [if_neg hi, if_neg hi, if_neg (fun h => by have := places_in h; omega), if_neg (fun h => by have := places_in h; omega)]
theorem fq_get (l : List Quad) (k : Nat) (h : k < l.length) : (l.map fq)[k]?.getD q0 = fq (l[k]?.getD q0) := by simp [h]
theorem many_flip (l : List Quad) : ∀ n k M, k + n = l.length → many (l.map fq) n k (fplan M) = many l n k M := by
  intro n
  induction n with
  | zero => intros; rfl
  | succ n ih =>
    intro k M hk
    rw [many, many, ih (k + 1) M (by omega), fq_get l k (by omega)]
    have key : ∀ side : Int, (if CanSet (fplan M) (fq (l[k]?.getD q0)) (fs side) then many (l.map fq) n (k + 1) (setOn (fplan M) (fq (l[k]?.getD q0)) (fs side) ((k : Int) + 1)) else 0) = if CanSet M (l[k]?.getD q0) side then many l n (k + 1) (setOn M (l[k]?.getD q0) side ((k : Int) + 1)) else 0 := by
      intro side
      by_cases h : CanSet M (l[k]?.getD q0) side
      · rw [if_pos h, if_pos ((canSet_flip M _ side).2 h), setOn_flip, ih (k + 1) _ (by omega)]
      · rw [if_neg h, if_neg (fun hh => h ((canSet_flip M _ side).1 hh))]
    have k0 := key 0
    have k1 := key 1
    have k2 := key 2
    have k3 := key 3
    simp only [show fs 0 = 0 from rfl, show fs 1 = 1 from rfl, show fs 2 = 3 from rfl, show fs 3 = 2 from rfl] at k0 k1 k2 k3
    simp only [List.map_cons, List.map_nil, List.sum_cons, List.sum_nil]
    rw [k0, k1, k2, k3]
    omega
theorem bst_flip (wt : Quad → Int) (hwt : ∀ q, wt (fq q) = wt q) (l : List Quad) : ∀ n k M, k + n = l.length → bst wt (l.map fq) n k (fplan M) = bst wt l n k M := by
  intro n
  induction n with
  | zero => intros; rfl
  | succ n ih =>
    intro k M hk
    rw [bst, bst, ih (k + 1) M (by omega), fq_get l k (by omega), hwt]
    have key : ∀ side : Int, ∀ b : Int, (if CanSet (fplan M) (fq (l[k]?.getD q0)) (fs side) then max b (wt (l[k]?.getD q0) + bst wt (l.map fq) n (k + 1) (setOn (fplan M) (fq (l[k]?.getD q0)) (fs side) ((k : Int) + 1))) else b) = if CanSet M (l[k]?.getD q0) side then max b (wt (l[k]?.getD q0) + bst wt l n (k + 1) (setOn M (l[k]?.getD q0) side ((k : Int) + 1))) else b := by
      intro side b
      by_cases h : CanSet M (l[k]?.getD q0) side
      · rw [if_pos h, if_pos ((canSet_flip M _ side).2 h), setOn_flip, ih (k + 1) _ (by omega)]
      · rw [if_neg h, if_neg (fun hh => h ((canSet_flip M _ side).1 hh))]
    simp only [List.foldl_cons, List.foldl_nil]
    have k0 := key 0
    have k1 := key 1
    have k2 := key 2
    have k3 := key 3
    simp only [show fs 0 = 0 from rfl, show fs 1 = 1 from rfl, show fs 2 = 3 from rfl, show fs 3 = 2 from rfl] at k0 k1 k2 k3
    rw [k0, k1, k3, k2]
    generalize (if CanSet M (l[k]?.getD q0) 1 then _ else _ : Int) = X
    by_cases h2 : CanSet M (l[k]?.getD q0) 2 <;> by_cases h3 : CanSet M (l[k]?.getD q0) 3 <;> simp only [h2, h3, if_true, if_false] <;> omega
theorem pt_flip {q : Quad} (h : LabOk q) : pt (fq q) = (fcell (pt q : Int)).toNat ∧ pt q < 100 := by
  obtain ⟨h1, h2, h3, h4, _⟩ := h
  unfold pt fq fcell; simp only; omega
theorem mPts_flip {l : List Quad} (h : ∀ k, k < l.length → LabOk (l[k]?.getD q0)) : mPts (l.map fq) = fplan (mPts l) := by
  have hq : ∀ q ∈ l, LabOk q := by
    intro q hq
    obtain ⟨k, hk, rfl⟩ := List.mem_iff_getElem.1 hq
    have := h k hk
    rwa [getQ_eq hk] at this
  funext i
  unfold mPts fplan
  simp only [List.map_map]
  have key : ∀ i : Nat, i < 100 → (i ∈ List.map (pt ∘ fq) l ↔ (fcell (i : Int)).toNat ∈ List.map pt l) := by
    intro i hi
    simp only [List.mem_map, Function.comp]
    obtain ⟨f0, f1, fe⟩ := fcell_range (c := (i : Int)) (by omega) (by omega)
    constructor
    · rintro ⟨q, hql, he⟩
      refine ⟨q, hql, ?_⟩
      obtain ⟨e1, e2⟩ := pt_flip (hq q hql)
      obtain ⟨g0, g1, ge⟩ := fcell_range (c := (pt q : Int)) (by omega) (by omega)
      have : (i : Int) = fcell (pt q : Int) := by omega
      rw [this, ge]; omega
    · rintro ⟨q, hql, he⟩
      refine ⟨q, hql, ?_⟩
      obtain ⟨e1, e2⟩ := pt_flip (hq q hql)
      rw [e1, he, show (((fcell (i : Int)).toNat : Nat) : Int) = fcell i by omega, fe]; omega
  by_cases hi : i < 100
  · rw [if_pos hi]
    by_cases hm : i ∈ List.map (pt ∘ fq) l
    · rw [if_pos hm, if_pos ((key i hi).1 hm)]
    · rw [if_neg hm, if_neg (fun h => hm ((key i hi).2 h))]
  · rw [if_neg hi]
    have n1 : ¬ i ∈ List.map (pt ∘ fq) l := by
      simp only [List.mem_map, Function.comp, not_exists, not_and]
      intro q hql he
      obtain ⟨e1, e2⟩ := pt_flip (hq q hql)
      obtain ⟨g0, g1, ge⟩ := fcell_range (c := (pt q : Int)) (by omega) (by omega)
      omega
    have n2 : ¬ i ∈ List.map pt l := by
      simp only [List.mem_map, not_exists, not_and]
      intro q hql he
      have := (pt_flip (hq q hql)).2
      omega
    rw [if_neg n1, if_neg n2]
theorem valid_flip {l : List Quad} (h : ValidL l) : ValidL (l.map fq) := by
  refine ⟨by simpa using h.1, fun i hi => ?_⟩
  simp only [List.length_map] at hi
  obtain ⟨h1, h2⟩ := h.2 i hi
  rw [fq_get l i hi]
  obtain ⟨a1, a2, a3, a4, a5, a6, a7, a8⟩ := h1
  refine ⟨⟨a1, a2, by show (0 : Int) ≤ 9 - _; omega, by show 9 - _ ≤ (9 : Int); omega, a5, a6, a7, a8⟩, fun j hj => ?_⟩
  rw [fq_get l j (by omega)]
  rintro ⟨e1, e2⟩
  refine h2 j hj ⟨e1, ?_⟩
  simp only [fq] at e2
  omega
/-- the settings of the flipped map are the flipped ones -/
theorem fs_neg (s : Int) : fs s = -1 ↔ s = -1 := by unfold fs; repeat' split <;> omega
theorem map_fs_get (s : List Int) (i : Nat) (h : i < s.length) : (s.map fs)[i]?.getD 0 = fs (s[i]?.getD 0) := by simp [h]
theorem okUp_flip {l : List Quad} {s : List Int} (hl : ∀ k, k < l.length → LabOk (l[k]?.getD q0)) (hs : s.length = l.length) : ∀ k, k ≤ l.length → (OkUp (l.map fq) (s.map fs) k ↔ OkUp l s k) ∧ planUp (l.map fq) (s.map fs) k = fplan (planUp l s k) := by
  intro k
  induction k with
  | zero => intro _; exact ⟨Iff.rfl, mPts_flip hl⟩
  | succ k ih =>
    intro hk
    obtain ⟨h1, h2⟩ := ih (by omega)
    rw [OkUp, OkUp, planUp, planUp, h1, h2, map_fs_get s k (by omega), fq_get l k (by omega)]
    refine ⟨by rw [fs_neg, canSet_flip], ?_⟩
    by_cases e : s[k]?.getD 0 = -1
    · rw [if_pos e, if_pos ((fs_neg _).2 e)]
    · rw [if_neg e, if_neg (fun h => e ((fs_neg _).1 h)), setOn_flip]
theorem setOk_flip {l : List Quad} {s : List Int} (h : SetOk l s) : SetOk (l.map fq) (s.map fs) := by
  refine ⟨valid_flip h.1, by simp [h.2.1], ?_⟩
  rw [List.length_map]
  exact ((okUp_flip (fun k hk => (h.1.2 k hk).1) h.2.1 _ (Nat.le_refl _)).1).2 h.2.2
theorem weightUp_flip (wt : Quad → Int) (hwt : ∀ q, wt (fq q) = wt q) {l : List Quad} {s : List Int} (hs : s.length = l.length) : ∀ k, k ≤ l.length → weightUp wt (l.map fq) (s.map fs) k = weightUp wt l s k := by
  intro k
  induction k with
  | zero => intro _; rfl
  | succ k ih =>
    intro hk
    rw [weightUp, weightUp, ih (by omega), map_fs_get s k (by omega), fq_get l k (by omega), hwt]
    by_cases e : s[k]?.getD 0 = -1
    · rw [if_pos e, if_pos ((fs_neg _).2 e)]
    · rw [if_neg e, if_neg (fun h => e ((fs_neg _).1 h))]
/-- one label fewer -/
def dropAt {α : Type} (l : List α) (k : Nat) : List α := l.take k ++ l.drop (k + 1)
def upIx (k i : Nat) : Nat := if i < k then i else i + 1
theorem upIx_lt {k i : Nat} (h : i < k) : upIx k i = i := if_pos h
theorem upIx_ge {k i : Nat} (h : k ≤ i) : upIx k i = i + 1 := if_neg (by omega)
theorem upIx_mono {k i j : Nat} (h : j < i) : upIx k j < upIx k i := by unfold upIx; split <;> split <;> omega
theorem dropAt_length {α : Type} {l : List α} {k : Nat} (h : k < l.length) : (dropAt l k).length = l.length - 1 := by simp [dropAt]; omega
theorem dropAt_get {α : Type} {l : List α} {k : Nat} (h : k < l.length) (i : Nat) : (dropAt l k)[i]? = l[upIx k i]? := by
  unfold dropAt upIx
  by_cases hi : i < k
  · rw [if_pos hi, List.getElem?_append_left (by simp; omega), List.getElem?_take_of_lt hi]
  · rw [if_neg hi, List.getElem?_append_right (by simp; omega), List.getElem?_drop]
    congr 1; simp; omega
theorem dropAt_sub {α : Type} {l : List α} {k : Nat} {x : α} (h : x ∈ dropAt l k) : x ∈ l := by
  unfold dropAt at h
  rcases List.mem_append.1 h with h | h
  · exact List.mem_of_mem_take h
  · exact List.mem_of_mem_drop h
theorem okUp_drop {l : List Quad} {s : List Int} {k : Nat} (hk : k < l.length) (hs : s.length = l.length) (h : OkUp l s l.length) : OkUp (dropAt l k) (dropAt s k) (dropAt l k).length := by
  rw [okUp_iff] at h ⊢
  rw [dropAt_length hk]
  intro i hi
  have hup : upIx k i < l.length := by unfold upIx; split <;> omega
  have hpl : ∀ i, plc (dropAt l k) (dropAt s k) i = plc l s (upIx k i) := by
    intro i; unfold plc; rw [dropAt_get hk, dropAt_get (by omega)]
  obtain ⟨h1, h2, h3⟩ := h _ hup
  refine ⟨by rw [dropAt_get hk, dropAt_get (by omega)]; exact h1, ?_, ?_⟩
  · intro c hc
    rw [hpl] at hc
    intro hm
    refine h2 c hc ?_
    rw [List.mem_map] at hm ⊢
    obtain ⟨q, hq, he⟩ := hm
    exact ⟨q, dropAt_sub hq, he⟩
  · intro j hj c hc
    rw [hpl] at hc ⊢
    exact h3 (upIx k j) (upIx_mono hj) c hc
theorem valid_drop {l : List Quad} {k : Nat} (hk : k < l.length) (h : ValidL l) : ValidL (dropAt l k) := by
  refine ⟨by rw [dropAt_length hk]; have := h.1; omega, fun i hi => ?_⟩
  rw [dropAt_length hk] at hi
  have hup : upIx k i < l.length := by unfold upIx; split <;> omega
  obtain ⟨h1, h2⟩ := h.2 _ hup
  rw [dropAt_get hk]
  refine ⟨h1, fun j hj => ?_⟩
  rw [dropAt_get hk]
  exact h2 _ (upIx_mono hj)
theorem weightUp_drop {wt : Quad → Int} {l : List Quad} {s : List Int} {k : Nat} (hk : k < l.length) (hs : s.length = l.length) : weightUp wt (dropAt l k) (dropAt s k) (l.length - 1) = weightUp wt l s l.length - if s[k]?.getD 0 = -1 then 0 else wt (l[k]?.getD q0) := by
  have h1 : ∀ i, i ≤ k → weightUp wt (dropAt l k) (dropAt s k) i = weightUp wt l s i := by
    intro i
    induction i with
    | zero => intro _; rfl
    | succ i ih =>
      intro hi
      rw [weightUp, weightUp, ih (by omega), dropAt_get hk, dropAt_get (by omega), upIx_lt (by omega)]
  have h2 : ∀ m, k + 1 + m ≤ l.length → weightUp wt (dropAt l k) (dropAt s k) (k + m) = weightUp wt l s (k + 1 + m) - if s[k]?.getD 0 = -1 then 0 else wt (l[k]?.getD q0) := by
    intro m
    induction m with
    | zero => intro _; rw [Nat.add_zero, h1 k (Nat.le_refl _), Nat.add_zero, weightUp]; omega
    | succ m ih =>
      intro hm
      rw [show k + (m + 1) = (k + m) + 1 by omega, show k + 1 + (m + 1) = (k + 1 + m) + 1 by omega, weightUp, weightUp, ih (by omega), dropAt_get hk, dropAt_get (by omega), upIx_ge (by omega), show k + m + 1 = k + 1 + m by omega]
      omega
  have := h2 (l.length - 1 - k) (by omega)
  rwa [show k + (l.length - 1 - k) = l.length - 1 by omega, show k + 1 + (l.length - 1 - k) = l.length by omega] at this

/-- a greatest sum is one of a setting, and no setting has more -/
def bestAll (wt : Quad → Int) (l : List Quad) : List Int := bestOf wt l l.length 0 (mPts l)
def bstAll (wt : Quad → Int) (l : List Quad) : Int := bst wt l l.length 0 (mPts l)
def manyAll (l : List Quad) : Nat := many l l.length 0 (mPts l)
theorem bestAll_ok (wt : Quad → Int) (l : List Quad) : (bestAll wt l).length = l.length ∧ OkUp l (bestAll wt l) l.length ∧ weightUp wt l (bestAll wt l) l.length = bstAll wt l := by
  obtain ⟨h1, h2⟩ := best_mem wt l l.length 0 (mPts l) [] rfl
  rw [List.nil_append] at h1 h2
  have h3 := (mem_allOf l _).1 h1
  refine ⟨h3.1, h3.2, ?_⟩
  rw [Nat.zero_add] at h2
  rw [show bestAll wt l = bestOf wt l l.length 0 (mPts l) from rfl, h2]
  simp [weightUp, bstAll]
theorem bstAll_le (wt : Quad → Int) {l : List Quad} {s : List Int} (h1 : s.length = l.length) (h2 : OkUp l s l.length) : weightUp wt l s l.length ≤ bstAll wt l := by
  have := each_le wt l l.length l.length 0 (mPts l) [] rfl (Nat.zero_add _) s ((mem_allOf l s).2 ⟨h1, h2⟩)
  simpa [weightUp, bstAll] using this
theorem bestAll_first (wt : Quad → Int) {l : List Quad} {s : List Int} (h1 : s.length = l.length) (h2 : OkUp l s l.length) (h3 : weightUp wt l s l.length = bstAll wt l) :
    s = bestAll wt l ∨ ∃ j, j < l.length ∧ (∀ i, i < j → s[i]?.getD 0 = (bestAll wt l)[i]?.getD 0) ∧ ordS ((bestAll wt l)[j]?.getD 0) < ordS (s[j]?.getD 0) := by
  have := best_first wt l l.length l.length 0 (mPts l) [] rfl (Nat.zero_add _) s ((mem_allOf l s).2 ⟨h1, h2⟩) (by simpa [weightUp, bstAll] using h3)
  rcases this with h | ⟨j, _, j2, j3, j4⟩
  · rw [List.nil_append] at h; exact .inl h
  · rw [List.nil_append] at j3 j4; exact .inr ⟨j, j2, j3, j4⟩
/-- the law of the best setting: no label that is left out fits, none fits at a lesser side -/
theorem best_tight {wt : Quad → Int} {l : List Quad} (hw : ∀ i, i < l.length → 1 ≤ wt (l[i]?.getD q0)) {i : Nat} (hi : i < l.length) {side : Int} (h0 : 0 ≤ side) (h3 : side ≤ 3)
    (hs : (bestAll wt l)[i]?.getD 0 < 0 ∨ side < (bestAll wt l)[i]?.getD 0) : ¬ OkUp l ((bestAll wt l).set i side) l.length := by
  intro hok
  obtain ⟨b1, b2, b3⟩ := bestAll_ok wt l
  have hlen : ((bestAll wt l).set i side).length = l.length := by simp [b1]
  have hle := bstAll_le wt hlen hok
  have hset := weightUp_set (wt := wt) (l := l) (s := bestAll wt l) (i := i) (a := side) (by omega) l.length hi
  rw [if_neg (show ¬ side = -1 by omega)] at hset
  have hwi := hw i hi
  have hside := ((okUp_iff l _ _).1 b2 i hi).side
  by_cases hm : (bestAll wt l)[i]?.getD 0 = -1
  · rw [if_pos hm] at hset
    omega
  · rw [if_neg hm] at hset
    have hlt : side < (bestAll wt l)[i]?.getD 0 := by omega
    have heq : weightUp wt l ((bestAll wt l).set i side) l.length = bstAll wt l := by omega
    rcases bestAll_first wt hlen hok heq with h | ⟨j, j1, j2, j3⟩
    · have := congrArg (fun x : List Int => x[i]?.getD 0) h
      rw [show ((bestAll wt l).set i side)[i]?.getD 0 = side from set_same (by omega)] at this
      have : side = (bestAll wt l)[i]?.getD 0 := this
      omega
    · rcases Nat.lt_trichotomy i j with hij | rfl | hij
      · have := j2 i hij
        rw [set_same (by omega)] at this
        omega
      · rw [set_same (by omega)] at j3
        unfold ordS at j3
        rw [if_neg hm, if_neg (by omega)] at j3
        omega
      · rw [set_other (by omega)] at j3
        omega

/-- how many settings there are -/
theorem many_bounds (l : List Quad) : ∀ n k M, 1 ≤ many l n k M ∧ many l n k M ≤ 5 ^ n := by
  intro n
  induction n with
  | zero => intros; exact ⟨Nat.le_refl _, Nat.le_refl _⟩
  | succ n ih =>
    intro k M
    rw [many]
    have h0 := ih (k + 1) M
    have hb : ∀ side : Int, (if CanSet M (l[k]?.getD q0) side then many l n (k + 1) (setOn M (l[k]?.getD q0) side ((k : Int) + 1)) else 0) ≤ 5 ^ n := by
      intro side
      split
      · exact (ih _ _).2
      · exact Nat.zero_le _
    have b0 := hb 0
    have b1 := hb 1
    have b2 := hb 2
    have b3 := hb 3
    simp only [List.map_cons, List.map_nil, List.sum_cons, List.sum_nil]
    rw [Nat.pow_succ]
    omega
/-- only one setting if no label can be set alone -/
theorem many_one {l : List Quad} {M : Plan} (h : ∀ i, i < l.length → ∀ side, ¬ CanSet M (l[i]?.getD q0) side) : ∀ n k, k + n ≤ l.length → many l n k M = 1 := by
  intro n
  induction n with
  | zero => intros; rfl
  | succ n ih =>
    intro k hk
    rw [many, ih (k + 1) (by omega)]
    simp only [List.map_cons, List.map_nil, List.sum_cons, List.sum_nil, if_neg (h k (by omega) _)]
    rfl
theorem many_more {l : List Quad} {M : Plan} {i : Nat} {side : Int} (h : CanSet M (l[i]?.getD q0) side) : ∀ n k, k ≤ i → i < k + n → 1 < many l n k M := by
  intro n
  induction n with
  | zero => intro k h1 h2; omega
  | succ n ih =>
    intro k h1 h2
    rw [many]
    have h0 := (many_bounds l n (k + 1) M).1
    simp only [List.map_cons, List.map_nil, List.sum_cons, List.sum_nil]
    by_cases e : k = i
    · subst e
      have hs := h.1.1
      have hs3 := h.1.2.1
      have hb := (many_bounds l n (k + 1) (setOn M (l[k]?.getD q0) side ((k : Int) + 1))).1
      rcases (show side = 0 ∨ side = 1 ∨ side = 2 ∨ side = 3 by omega) with rfl | rfl | rfl | rfl <;> rw [if_pos h] <;> omega
    · have := ih (k + 1) (by omega) (by omega)
      omega
def alone (n i : Nat) (side : Int) : List Int := (List.replicate n (-1 : Int)).set i side
theorem alone_ok {l : List Quad} {i : Nat} {side : Int} (hi : i < l.length) (hs : side ≠ -1) : OkUp l (alone l.length i side) l.length ↔ CanSet (mPts l) (l[i]?.getD q0) side := by
  obtain ⟨s1, s2, s3⟩ := start_ok l
  have hg : (gStart l).2 = List.replicate l.length (-1) := rfl
  rw [hg] at s1 s2 s3
  have := okUp_in (s := List.replicate l.length (-1)) s1 (by simpa using hi) hi (s3 i hi) hs
  rw [← s2] at this
  exact this
theorem many_some {l : List Quad} : 1 < manyAll l ↔ ∃ i, i < l.length ∧ ∃ side : Int, 0 ≤ side ∧ side ≤ 3 ∧ OkUp l (alone l.length i side) l.length := by
  constructor
  · intro h
    refine Classical.byContradiction fun hn => ?_
    have : manyAll l = 1 := many_one (fun i hi side hc => hn ⟨i, hi, side, hc.1.1, hc.1.2.1, (alone_ok hi (by have := hc.1.1; omega)).2 hc⟩) l.length 0 (by omega)
    omega
  · rintro ⟨i, hi, side, h0, h3, hc⟩
    exact many_more ((alone_ok hi (by omega)).1 hc) l.length 0 (Nat.zero_le _) (by omega)
/-- counting by digits -/
def digs : Nat → Nat → List Int
  | 0, _ => []
  | n + 1, x => (((x % 5 : Nat) : Int) - 1) :: digs n (x / 5)
def cntUp (p : Nat → Prop) [DecidablePred p] : Nat → Nat
  | 0 => 0
  | m + 1 => cntUp p m + if p m then 1 else 0
theorem cntUp_congr {p q : Nat → Prop} [DecidablePred p] [DecidablePred q] (m : Nat) (h : ∀ i, i < m → (p i ↔ q i)) : cntUp p m = cntUp q m := by
  induction m with
  | zero => rfl
  | succ m ih =>
    rw [cntUp, cntUp, ih (fun i hi => h i (by omega))]
    by_cases hp : p m
    · rw [if_pos hp, if_pos ((h m (by omega)).1 hp)]
    · rw [if_neg hp, if_neg (fun hq => hp ((h m (by omega)).2 hq))]
theorem cntUp_five (p : Nat → Prop) [DecidablePred p] (m : Nat) : cntUp p (5 * m) = cntUp (fun r => p (5 * r)) m + cntUp (fun r => p (5 * r + 1)) m + cntUp (fun r => p (5 * r + 2)) m + cntUp (fun r => p (5 * r + 3)) m + cntUp (fun r => p (5 * r + 4)) m := by
  induction m with
  | zero => rfl
  | succ m ih =>
    have e : cntUp p (5 * (m + 1)) = cntUp p (5 * m) + (if p (5 * m) then 1 else 0) + (if p (5 * m + 1) then 1 else 0) + (if p (5 * m + 2) then 1 else 0) + (if p (5 * m + 3) then 1 else 0) + (if p (5 * m + 4) then 1 else 0) := rfl
    rw [e, ih]
    simp only [cntUp]
    omega
theorem cntUp_none {p : Nat → Prop} [DecidablePred p] (m : Nat) (h : ∀ i, i < m → ¬ p i) : cntUp p m = 0 := by
  induction m with
  | zero => rfl
  | succ m ih => rw [cntUp, ih (fun i hi => h i (by omega)), if_neg (h m (by omega))]
theorem okUp_less {l : List Quad} {s : List Int} {k : Nat} : ∀ m, OkUp l s (k + m) → OkUp l s k := by
  intro m
  induction m with
  | zero => exact id
  | succ m ih => intro h; exact ih h.1
theorem count_digs (l : List Quad) : ∀ n k (pre : List Int), pre.length = k → OkUp l pre k → cntUp (fun x => OkUp l (pre ++ digs n x) (k + n)) (5 ^ n) = many l n k (planUp l pre k) := by
  intro n
  induction n with
  | zero =>
    intro k pre hk ho
    simp only [digs, List.append_nil, Nat.add_zero, Nat.pow_zero, many, cntUp]
    rw [if_pos ho]
  | succ n ih =>
    intro k pre hk ho
    rw [Nat.pow_succ, Nat.mul_comm, cntUp_five, many]
    have key : ∀ d : Nat, d < 5 → cntUp (fun r => OkUp l (pre ++ digs (n + 1) (5 * r + d)) (k + (n + 1))) (5 ^ n) = if canDo (planUp l pre k) (l[k]?.getD q0) ((d : Int) - 1) then many l n (k + 1) (next (planUp l pre k) (l[k]?.getD q0) ((d : Int) - 1) ((k : Int) + 1)) else 0 := by
      intro d hd
      have hget : (pre ++ [(d : Int) - 1])[k]?.getD 0 = (d : Int) - 1 := by rw [← hk]; simp
      have hlt : ∀ j, j < k → (pre ++ [(d : Int) - 1])[j]?.getD 0 = pre[j]?.getD 0 := by intro j hj; rw [List.getElem?_append_left (by omega)]
      have hpl : planUp l (pre ++ [(d : Int) - 1]) (k + 1) = next (planUp l pre k) (l[k]?.getD q0) ((d : Int) - 1) ((k : Int) + 1) := by
        rw [planUp, hget, planUp_congr hlt, next]
      have hok : OkUp l (pre ++ [(d : Int) - 1]) (k + 1) ↔ canDo (planUp l pre k) (l[k]?.getD q0) ((d : Int) - 1) := by
        rw [OkUp, hget, planUp_congr hlt, okUp_congr hlt]
        exact ⟨fun h => h.2, fun h => ⟨ho, h⟩⟩
      have hdig : ∀ r, pre ++ digs (n + 1) (5 * r + d) = (pre ++ [(d : Int) - 1]) ++ digs n r := by
        intro r
        rw [digs, show (5 * r + d) % 5 = d by omega, show (5 * r + d) / 5 = r by omega, List.append_assoc]; rfl
      by_cases hc : canDo (planUp l pre k) (l[k]?.getD q0) ((d : Int) - 1)
      · rw [if_pos hc, ← hpl, ← ih (k + 1) (pre ++ [(d : Int) - 1]) (by simp [hk]) (hok.2 hc)]
        exact cntUp_congr _ fun r _ => by rw [hdig r, show k + (n + 1) = k + 1 + n by omega]
      · rw [if_neg hc]
        refine cntUp_none _ fun r _ hr => hc (hok.1 ?_)
        rw [hdig r, show k + (n + 1) = k + 1 + n by omega] at hr
        have h1 := okUp_less n hr
        refine (okUp_congr fun j hj => ?_).1 h1
        rw [List.getElem?_append_left (by simp [hk]; omega)]
    have k0 := key 0 (by omega)
    have k1 := key 1 (by omega)
    have k2 := key 2 (by omega)
    have k3 := key 3 (by omega)
    have k4 := key 4 (by omega)
    simp only [Nat.add_zero] at k0
    rw [k0, k1, k2, k3, k4]
    have hcd : ∀ a : Int, a ≠ -1 → (if canDo (planUp l pre k) (l[k]?.getD q0) a then many l n (k + 1) (next (planUp l pre k) (l[k]?.getD q0) a ((k : Int) + 1)) else 0) = if CanSet (planUp l pre k) (l[k]?.getD q0) a then many l n (k + 1) (setOn (planUp l pre k) (l[k]?.getD q0) a ((k : Int) + 1)) else 0 := by
      intro a ha
      by_cases hc : CanSet (planUp l pre k) (l[k]?.getD q0) a
      · rw [if_pos hc, if_pos (.inr hc), next, if_neg ha]
      · rw [if_neg hc, if_neg (fun h => hc (h.resolve_left ha))]
    have hz : (if canDo (planUp l pre k) (l[k]?.getD q0) (((0 : Nat) : Int) - 1) then many l n (k + 1) (next (planUp l pre k) (l[k]?.getD q0) (((0 : Nat) : Int) - 1) ((k : Int) + 1)) else 0) = many l n (k + 1) (planUp l pre k) := by
      rw [if_pos (.inl (by omega)), next, if_pos (by omega)]
    rw [hz, hcd _ (by omega), hcd _ (by omega), hcd _ (by omega), hcd _ (by omega)]
    simp only [List.map_cons, List.map_nil, List.sum_cons, List.sum_nil]
    simp only [show (((1 : Nat) : Int) - 1) = 0 from rfl, show (((2 : Nat) : Int) - 1) = 1 from rfl, show (((3 : Nat) : Int) - 1) = 2 from rfl, show (((4 : Nat) : Int) - 1) = 3 from rfl]
    omega
theorem count_all (l : List Quad) : cntUp (fun x => OkUp l (digs l.length x) l.length) (5 ^ l.length) = manyAll l := by
  have := count_digs l l.length 0 [] rfl trivial
  rw [Nat.zero_add] at this
  exact this
theorem digs_length : ∀ n x, (digs n x).length = n := by
  intro n; induction n with
  | zero => intro x; rfl
  | succ n ih => intro x; rw [digs, List.length_cons, ih]
/-- a label does not lie on its own point -/
theorem own_point {q : Quad} (hq : LabOk q) {side c : Int} (h : c ∈ placesOf q side) : c.toNat ≠ pt q := by
  unfold placesOf at h
  obtain ⟨q1, q2, q3, q4, q5, q6, _, _⟩ := hq
  split at h
  · rename_i hf
    obtain ⟨f0, f3, f1, f2, f4, f5⟩ := hf
    simp only [rowOf, List.mem_map, List.mem_range] at h
    obtain ⟨i, hi, rfl⟩ := h
    unfold pt
    rcases (show side = 0 ∨ side = 1 ∨ side = 2 ∨ side = 3 by omega) with rfl | rfl | rfl | rfl <;> simp [sx, sy] at f1 f2 f4 f5 ⊢ <;> omega
  · simp at h
theorem wt1_le (l : List Quad) : ∀ n k M, bst (fun _ => 1) l n k M ≤ (n : Int) ∧ 0 ≤ bst (fun _ => 1) l n k M := by
  intro n
  induction n with
  | zero => intro k M; simp [bst]
  | succ n ih =>
    intro k M
    obtain ⟨h1, z, hz, hzc, hzv⟩ := bst_max (fun _ => 1) l n k M
    have h2 := h1 (-1) (by simp [sides5]) (.inl rfl)
    rw [valOf] at h2 hzv
    have h3 := ih (k + 1) (next M (l[k]?.getD q0) z ((k : Int) + 1))
    have h4 := ih (k + 1) (next M (l[k]?.getD q0) (-1) ((k : Int) + 1))
    rw [if_pos rfl] at h2
    split at hzv <;> omega
/-- the text of a map: row by row -/
def chrOf (m : Int) : Nat := if m < 0 then 42 else if m = 0 then 46 else (47 + m).toNat
def textUp (M : Plan) : Nat → List UInt8
  | 0 => []
  | i + 1 => textUp M i ++ UInt8.ofNat (chrOf (M i)) :: if i % 10 = 9 then [10] else []
theorem textUp_length (M : Plan) : ∀ i, (textUp M i).length = i + i / 10 := by
  intro i
  induction i with
  | zero => rfl
  | succ i ih =>
    rw [textUp, List.length_append, ih, List.length_cons]
    split <;> simp <;> omega
theorem cntUp_disj (p q : Nat → Prop) [DecidablePred p] [DecidablePred q] (n : Nat) (h : ∀ i, i < n → ¬ (p i ∧ q i)) : cntUp p n + cntUp q n = cntUp (fun i => p i ∨ q i) n := by
  induction n with
  | zero => rfl
  | succ n ih =>
    simp only [cntUp]
    have := ih (fun i hi => h i (by omega))
    have hn := h n (by omega)
    by_cases h1 : p n
    · rw [if_pos h1, if_neg (fun h2 => hn ⟨h1, h2⟩), if_pos (.inl h1)]; omega
    · by_cases h2 : q n
      · rw [if_neg h1, if_pos h2, if_pos (.inr h2)]; omega
      · rw [if_neg h1, if_neg h2, if_neg (fun h => h.elim h1 h2)]; omega
theorem cntUp_eq (x n : Nat) : cntUp (fun i => i = x) n = if x < n then 1 else 0 := by
  induction n with
  | zero => rfl
  | succ n ih =>
    rw [cntUp, ih]
    by_cases h1 : x < n
    · rw [if_pos h1, if_neg (by omega), if_pos (by omega)]
    · rw [if_neg h1]
      by_cases h2 : n = x
      · rw [if_pos h2, if_pos (by omega)]
      · rw [if_neg h2, if_neg (by omega)]
theorem cntUp_mem (n : Nat) : ∀ L : List Nat, L.Nodup → (∀ x ∈ L, x < n) → cntUp (fun i => i ∈ L) n = L.length
  | [], _, _ => cntUp_none n (fun i _ => by simp)
  | x :: L, hd, hl => by
    have hd' := List.nodup_cons.1 hd
    have ih := cntUp_mem n L hd'.2 fun y hy => hl y (List.mem_cons_of_mem _ hy)
    have e := cntUp_disj (fun i => i = x) (fun i => i ∈ L) n (by rintro i _ ⟨rfl, h⟩; exact hd'.1 h)
    rw [cntUp_eq, if_pos (hl x (List.mem_cons_self ..)), ih] at e
    rw [List.length_cons, cntUp_congr (q := fun i => i = x ∨ i ∈ L) n (fun i _ => List.mem_cons)]
    omega
theorem nodup_pts {l : List Quad} (h : ValidL l) : (l.map pt).Nodup ∧ ∀ x ∈ l.map pt, x < 100 := by
  have hk : ∀ k, k < l.length → LabOk (l[k]?.getD q0) := fun k hk => (h.2 k hk).1
  constructor
  · rw [List.nodup_iff_pairwise_ne, List.pairwise_map, List.pairwise_iff_getElem]
    intro i j hi hj hij he
    have := (h.2 j hj).2 i hij
    have h1 := hk i hi
    have h2 := hk j hj
    rw [getQ_eq hi] at this h1
    rw [getQ_eq hj] at this h2
    refine this ?_
    unfold LabOk at h1 h2
    unfold pt at he
    unfold SamePoint
    omega
  · intro x hx
    obtain ⟨q, hq, rfl⟩ := List.mem_map.1 hx
    obtain ⟨k, hk', rfl⟩ := List.mem_iff_getElem.1 hq
    have := hk k hk'
    rw [getQ_eq hk'] at this
    unfold LabOk at this
    unfold pt; omega
theorem rowOf_nodup (x y : Int) (n : Nat) : (rowOf x y n).Nodup := by
  rw [rowOf, List.nodup_iff_pairwise_ne, List.pairwise_map]
  refine List.Pairwise.imp ?_ (List.pairwise_lt_range (n := n))
  intro a b hab; omega
theorem places_nat_nodup (q : Quad) (side : Int) : ((placesOf q side).map Int.toNat).Nodup ∧ ∀ x ∈ (placesOf q side).map Int.toNat, x < 100 := by
  constructor
  · rw [List.nodup_iff_pairwise_ne, List.pairwise_map]
    have : (placesOf q side).Nodup := by
      unfold placesOf; split
      · exact rowOf_nodup ..
      · exact List.nodup_nil
    rw [List.nodup_iff_pairwise_ne] at this
    refine List.Pairwise.imp_of_mem ?_ this
    intro a b ha hb hab
    have h1 := places_in ha
    have h2 := places_in hb
    omega
  · intro x hx
    obtain ⟨c, hc, rfl⟩ := List.mem_map.1 hx
    have := places_in hc; omega
theorem mem_places_nat {q : Quad} {side : Int} {i : Nat} : i ∈ (placesOf q side).map Int.toNat ↔ (i : Int) ∈ placesOf q side := by
  rw [List.mem_map]
  constructor
  · rintro ⟨c, hc, rfl⟩
    rw [(places_in hc).2.2]; exact hc
  · intro h; exact ⟨(i : Int), h, by omega⟩
/-- how many cells are free, points and labels -/
theorem cnt_plan {l : List Quad} {s : List Int} (hv : ValidL l) : ∀ k, k ≤ l.length → OkUp l s k →
    cntUp (fun i => planUp l s k i = -1) 100 = l.length ∧ ((cntUp (fun i => planUp l s k i = 0) 100 : Nat) : Int) + (l.length : Int) + weightUp (fun q => q.2.2.1) l s k = 100 := by
  intro k
  induction k with
  | zero =>
    intro _ _
    have e1 : cntUp (fun i => planUp l s 0 i = -1) 100 = l.length := by
      rw [cntUp_congr (q := fun i => i ∈ l.map pt) 100 (fun i _ => ?_), cntUp_mem 100 _ (nodup_pts hv).1 (nodup_pts hv).2, List.length_map]
      simp only [planUp, mPts]
      by_cases h : i ∈ l.map pt
      · rw [if_pos h]; exact ⟨fun _ => h, fun _ => rfl⟩
      · rw [if_neg h]; exact ⟨fun h2 => by omega, fun h2 => absurd h2 h⟩
    refine ⟨e1, ?_⟩
    have e2 := cntUp_disj (fun i => planUp l s 0 i = -1) (fun i => planUp l s 0 i = 0) 100 (by rintro i _ ⟨h1, h2⟩; omega)
    have e3 : cntUp (fun i => planUp l s 0 i = -1 ∨ planUp l s 0 i = 0) 100 = 100 := by
      have : ∀ n, cntUp (fun i => planUp l s 0 i = -1 ∨ planUp l s 0 i = 0) n = n := by
        intro n
        induction n with
        | zero => rfl
        | succ n ih =>
          rw [cntUp, ih, if_pos]
          simp only [planUp, mPts]
          split
          · exact .inl rfl
          · exact .inr rfl
      exact this 100
    simp only [weightUp]
    omega
  | succ k ih =>
    intro hk ho
    obtain ⟨i1, i2⟩ := ih (by omega) ho.1
    by_cases e : s[k]?.getD 0 = -1
    · have e1 : planUp l s (k + 1) = planUp l s k := by rw [planUp, if_pos e]
      rw [e1, weightUp, if_pos e]
      exact ⟨i1, by omega⟩
    · have hc := ho.2.resolve_left e
      have e1 : planUp l s (k + 1) = putOn (plc l s k) ((k : Int) + 1) (planUp l s k) := by rw [planUp, if_neg e]; rfl
      rw [e1, weightUp, if_neg e]
      have hfree : ∀ i : Nat, (i : Int) ∈ plc l s k → planUp l s k i = 0 := by
        intro i hi
        have := hc.2 (i : Int) hi
        simpa using this
      constructor
      · rw [← i1]
        refine cntUp_congr 100 fun i _ => ?_
        by_cases hm : (i : Int) ∈ plc l s k
        · rw [putOn_in hm, hfree i hm]; omega
        · rw [putOn_out hm]
      · have d := cntUp_disj (fun i => putOn (plc l s k) ((k : Int) + 1) (planUp l s k) i = 0) (fun i => i ∈ (plc l s k).map Int.toNat) 100 (by
          rintro i _ ⟨h1, h2⟩
          have h2 := mem_places_nat.1 h2
          rw [putOn_in (show (i : Int) ∈ plc l s k from h2)] at h1
          omega)
        have d1 := cntUp_mem 100 ((plc l s k).map Int.toNat) (places_nat_nodup _ _).1 (places_nat_nodup _ _).2
        rw [List.length_map] at d1
        rw [d1] at d
        have d2 : cntUp (fun i => putOn (plc l s k) ((k : Int) + 1) (planUp l s k) i = 0 ∨ i ∈ (plc l s k).map Int.toNat) 100 = cntUp (fun i => planUp l s k i = 0) 100 := by
          refine cntUp_congr 100 fun i _ => ?_
          by_cases hm : (i : Int) ∈ plc l s k
          · exact ⟨fun _ => hfree i hm, fun _ => .inr (mem_places_nat.2 hm)⟩
          · rw [putOn_out hm]
            exact ⟨fun h => h.resolve_right (fun h2 => hm (mem_places_nat.1 h2)), .inl⟩
        rw [d2] at d
        have hlen : ((plc l s k).length : Int) = (l[k]?.getD q0).2.2.1 := by
          have hl := (hv.2 k (by omega)).1
          unfold plc
          rw [places_yes hc.1, rowOf_length]
          unfold LabOk at hl
          omega
        omega
theorem chrOf_range {m : Int} (h1 : -1 ≤ m) (h2 : m ≤ 6) : chrOf m ≤ 53 ∧ 42 ≤ chrOf m ∧ (chrOf m = 42 ↔ m = -1) ∧ (chrOf m = 46 ↔ m = 0) := by
  unfold chrOf
  split
  · omega
  · split <;> omega
/-- how often a byte stands in the text -/
def cntB (c : Nat) (t : List UInt8) : Nat := t.countP fun b => decide (b.toNat = c)
theorem cntB_app (c : Nat) (a b : List UInt8) : cntB c (a ++ b) = cntB c a + cntB c b := List.countP_append
theorem cntB_text {M : Plan} (hM : ∀ i, -1 ≤ M i ∧ M i ≤ 6) (c : Nat) (hc : c ≠ 10) : ∀ n, cntB c (textUp M n) = cntUp (fun i => chrOf (M i) = c) n := by
  intro n
  induction n with
  | zero => rfl
  | succ n ih =>
    rw [textUp, cntB_app, ih, cntUp]
    have hr := chrOf_range (hM n).1 (hM n).2
    have e : (UInt8.ofNat (chrOf (M n))).toNat = chrOf (M n) := by rw [UInt8.toNat_ofNat']; omega
    congr 1
    have h10 : cntB c (if n % 10 = 9 then [10] else []) = 0 := by
      split
      · have : ¬ 10 = c := fun h => hc h.symm
        simp [cntB, this]
      · rfl
    have : cntB c (UInt8.ofNat (chrOf (M n)) :: if n % 10 = 9 then [10] else []) = (if chrOf (M n) = c then 1 else 0) + cntB c (if n % 10 = 9 then [10] else []) := by
      rw [cntB, List.countP_cons, e]
      unfold cntB
      simp only [decide_eq_true_eq]
      omega
    rw [this, h10]; rfl
theorem cntB_lines {M : Plan} (hM : ∀ i, -1 ≤ M i ∧ M i ≤ 6) : ∀ n, cntB 10 (textUp M n) = n / 10 := by
  intro n
  induction n with
  | zero => rfl
  | succ n ih =>
    rw [textUp, cntB_app, ih]
    have hr := chrOf_range (hM n).1 (hM n).2
    have e : (UInt8.ofNat (chrOf (M n))).toNat = chrOf (M n) := by rw [UInt8.toNat_ofNat']; omega
    have : cntB 10 (UInt8.ofNat (chrOf (M n)) :: if n % 10 = 9 then [10] else []) = if n % 10 = 9 then 1 else 0 := by
      rw [cntB, List.countP_cons, e, decide_eq_false (show ¬ chrOf (M n) = 10 by omega)]
      by_cases h : n % 10 = 9
      · rw [if_pos h, if_pos h]; rfl
      · rw [if_neg h, if_neg h]; rfl
    rw [this]
    split <;> omega
/-- the text of a setting -/
def textOf (l : List Quad) (s : List Int) : List UInt8 := if SetOk l s then textUp (planUp l s l.length) 100 else []
theorem plan_small {l : List Quad} (hv : ValidL l) (s : List Int) (i : Nat) : -1 ≤ planUp l s l.length i ∧ planUp l s l.length i ≤ 6 := by
  have := planUp_range l s l.length i
  have := hv.1
  omega
theorem text_counts {l : List Quad} {s : List Int} (h : SetOk l s) : (textOf l s).length = 110 ∧ cntB 10 (textOf l s) = 10 ∧ cntB 42 (textOf l s) = l.length ∧
    ((cntB 46 (textOf l s) : Nat) : Int) + (l.length : Int) + weightUp (fun q => q.2.2.1) l s l.length = 100 := by
  have hM := plan_small h.1 s
  obtain ⟨c1, c2⟩ := cnt_plan h.1 l.length (Nat.le_refl _) h.2.2
  unfold textOf
  rw [if_pos h]
  refine ⟨by rw [textUp_length], cntB_lines hM 100, ?_, ?_⟩
  · rw [cntB_text hM 42 (by omega)]
    refine Eq.trans ?_ c1
    exact (cntUp_congr 100 fun i _ => (chrOf_range (hM i).1 (hM i).2).2.2.1)
  · rw [cntB_text hM 46 (by omega), cntUp_congr (q := fun i => planUp l s l.length i = 0) 100 (fun i _ => (chrOf_range (hM i).1 (hM i).2).2.2.2)]
    exact c2
end Go.Proofs.Ytbpcjdhbbighgaa
