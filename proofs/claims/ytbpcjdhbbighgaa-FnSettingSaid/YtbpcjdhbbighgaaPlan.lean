/-
  Plain laws of settings: maps, enumeration, greatest weight, the first best one. Own work; no condition.
-/
import Derived.Test.YtbpcjdhbbighgaaBoard
namespace Go.Proofs.Ytbpcjdhbbighgaa

/-- the cells of a map: 0 is free, -1 a point, k + 1 the label of index k -/
abbrev Plan := Nat → Int
def mPts (l : List Quad) : Plan := fun i => if i ∈ l.map pt then -1 else 0
def putOn (cs : List Int) (m : Int) (M : Plan) : Plan := fun i => if (i : Int) ∈ cs then m else M i
def FreeOn (cs : List Int) (M : Plan) : Prop := ∀ c ∈ cs, M c.toNat = 0
instance (cs : List Int) (M : Plan) : Decidable (FreeOn cs M) := by unfold FreeOn; infer_instance
def CanSet (M : Plan) (q : Quad) (side : Int) : Prop := Fits q side ∧ FreeOn (placesOf q side) M
instance (M : Plan) (q : Quad) (side : Int) : Decidable (CanSet M q side) := by unfold CanSet; infer_instance
def setOn (M : Plan) (q : Quad) (side : Int) (m : Int) : Plan := putOn (placesOf q side) m M
/-- the map with the first k labels at their sides -/
def planUp (l : List Quad) (s : List Int) : Nat → Plan
  | 0 => mPts l
  | k + 1 => if s[k]?.getD 0 = -1 then planUp l s k else setOn (planUp l s k) (l[k]?.getD q0) (s[k]?.getD 0) ((k : Int) + 1)
def OkUp (l : List Quad) (s : List Int) : Nat → Prop
  | 0 => True
  | k + 1 => OkUp l s k ∧ (s[k]?.getD 0 = -1 ∨ CanSet (planUp l s k) (l[k]?.getD q0) (s[k]?.getD 0))
def OkUp.dec (l : List Quad) (s : List Int) : (k : Nat) → Decidable (OkUp l s k)
  | 0 => .isTrue trivial
  | k + 1 => @instDecidableAnd _ _ (OkUp.dec l s k) _
instance (l : List Quad) (s : List Int) (k : Nat) : Decidable (OkUp l s k) := OkUp.dec l s k
/-- s is a setting of the labels l -/
def SetOk (l : List Quad) (s : List Int) : Prop := ValidL l ∧ s.length = l.length ∧ OkUp l s l.length
instance (l : List Quad) (s : List Int) : Decidable (SetOk l s) := by unfold SetOk; infer_instance

theorem places_in {q : Quad} {side c : Int} (h : c ∈ placesOf q side) : 0 ≤ c ∧ c ≤ 99 ∧ ((c.toNat : Nat) : Int) = c := by
  unfold placesOf at h
  split at h
  · rename_i hf
    obtain ⟨_, _, h1, h2, h3, h4⟩ := hf
    simp only [rowOf, List.mem_map, List.mem_range] at h
    obtain ⟨i, hi, rfl⟩ := h
    omega
  · simp at h
theorem places_fits {q : Quad} {side c : Int} (h : c ∈ placesOf q side) : Fits q side := by
  unfold placesOf at h; split at h
  · assumption
  · simp at h
theorem putOn_in {cs : List Int} {m : Int} {M : Plan} {i : Nat} (h : (i : Int) ∈ cs) : putOn cs m M i = m := if_pos h
theorem putOn_out {cs : List Int} {m : Int} {M : Plan} {i : Nat} (h : ¬ (i : Int) ∈ cs) : putOn cs m M i = M i := if_neg h
theorem putOn_nil (m : Int) (M : Plan) : putOn [] m M = M := by funext i; simp [putOn]
theorem putOn_snoc (cs : List Int) (c : Nat) (m : Int) (M : Plan) : putOn (cs ++ [(c : Int)]) m M = fun i => if i = c then m else putOn cs m M i := by
  funext i
  simp only [putOn, List.mem_append, List.mem_singleton]
  by_cases h : i = c
  · subst h; simp
  · have : ¬ (i : Int) = (c : Int) := by omega
    simp [h, this]

theorem planUp_congr {l : List Quad} {s t : List Int} {k : Nat} (h : ∀ j, j < k → s[j]?.getD 0 = t[j]?.getD 0) : planUp l s k = planUp l t k := by
  induction k with
  | zero => rfl
  | succ k ih => rw [planUp, planUp, ih (fun j hj => h j (by omega)), h k (by omega)]
theorem okUp_congr {l : List Quad} {s t : List Int} {k : Nat} (h : ∀ j, j < k → s[j]?.getD 0 = t[j]?.getD 0) : OkUp l s k ↔ OkUp l t k := by
  induction k with
  | zero => exact Iff.rfl
  | succ k ih => rw [OkUp, OkUp, ih (fun j hj => h j (by omega)), h k (by omega), planUp_congr (fun j hj => h j (by omega))]

/-- the values of a map lie from -1 to the number of labels -/
theorem planUp_range (l : List Quad) (s : List Int) (k c : Nat) : -1 ≤ planUp l s k c ∧ planUp l s k c ≤ (k : Int) := by
  induction k with
  | zero => simp only [planUp, mPts]; split <;> omega
  | succ k ih =>
    rw [planUp]
    split
    · omega
    · simp only [setOn, putOn]; split <;> omega

/-- the number of settings of the last n labels, from label k on -/
def many (l : List Quad) : Nat → Nat → Plan → Nat
  | 0, _, _ => 1
  | n + 1, k, M => many l n (k + 1) M + ([0, 1, 2, 3].map fun side : Int => if CanSet M (l[k]?.getD q0) side then many l n (k + 1) (setOn M (l[k]?.getD q0) side ((k : Int) + 1)) else 0).sum
/-- the greatest sum of the last n labels, from label k on; wt is what a label counts -/
def bst (wt : Quad → Int) (l : List Quad) : Nat → Nat → Plan → Int
  | 0, _, _ => 0
  | n + 1, k, M => [0, 1, 2, 3].foldl (fun b side => if CanSet M (l[k]?.getD q0) side then max b (wt (l[k]?.getD q0) + bst wt l n (k + 1) (setOn M (l[k]?.getD q0) side ((k : Int) + 1))) else b) (bst wt l n (k + 1) M)
/-- all settings that begin with pre, the earlier one ahead -/
def each (l : List Quad) : Nat → Nat → Plan → List Int → List (List Int)
  | 0, _, _, pre => [pre]
  | n + 1, k, M, pre => ([0, 1, 2, 3].flatMap fun side : Int => if CanSet M (l[k]?.getD q0) side then each l n (k + 1) (setOn M (l[k]?.getD q0) side ((k : Int) + 1)) (pre ++ [side]) else []) ++ each l n (k + 1) M (pre ++ [-1])
/-- the sides that lead to the greatest sum, the least ones -/
def chosen (wt : Quad → Int) (l : List Quad) (n k : Nat) (M : Plan) : Int :=
  (([0, 1, 2, 3] : List Int).find? fun side => decide (CanSet M (l[k]?.getD q0) side ∧ wt (l[k]?.getD q0) + bst wt l n (k + 1) (setOn M (l[k]?.getD q0) side ((k : Int) + 1)) = bst wt l (n + 1) k M)).getD (-1)
def next (M : Plan) (q : Quad) (side m : Int) : Plan := if side = -1 then M else setOn M q side m
def bestOf (wt : Quad → Int) (l : List Quad) : Nat → Nat → Plan → List Int
  | 0, _, _ => []
  | n + 1, k, M => chosen wt l n k M :: bestOf wt l n (k + 1) (next M (l[k]?.getD q0) (chosen wt l n k M) ((k : Int) + 1))

theorem each_length (l : List Quad) : ∀ n k M pre, (each l n k M pre).length = many l n k M := by
  intro n
  induction n with
  | zero => intro k M pre; rfl
  | succ n ih =>
    intro k M pre
    rw [each, many, List.length_append, ih]
    have h : ∀ ss : List Int, (ss.flatMap fun side : Int => if CanSet M (l[k]?.getD q0) side then each l n (k + 1) (setOn M (l[k]?.getD q0) side ((k : Int) + 1)) (pre ++ [side]) else []).length = (ss.map fun side : Int => if CanSet M (l[k]?.getD q0) side then many l n (k + 1) (setOn M (l[k]?.getD q0) side ((k : Int) + 1)) else 0).sum := by
      intro ss
      induction ss with
      | nil => rfl
      | cons a ss ihs =>
        rw [List.flatMap_cons, List.length_append, ihs, List.map_cons, List.sum_cons]
        split
        · rw [ih]
        · rfl
    rw [h]; omega

/-- what is in 'each' -/
theorem mem_each (l : List Quad) : ∀ n k M pre, pre.length = k → M = planUp l pre k → OkUp l pre k →
    ∀ s, s ∈ each l n k M pre ↔ s.length = k + n ∧ s.take k = pre ∧ OkUp l s (k + n) ∧ ∀ j, k ≤ j → j < k + n → s[j]?.getD 0 = -1 ∨ (0 ≤ s[j]?.getD 0 ∧ s[j]?.getD 0 ≤ 3) := by
  intro n
  induction n with
  | zero =>
    intro k M pre hk hM ho s
    rw [each, List.mem_singleton]
    constructor
    · rintro rfl
      exact ⟨hk, by rw [← hk]; exact List.take_length, ho, fun j h1 h2 => by omega⟩
    · rintro ⟨h1, h2, _, _⟩
      rw [← h2, ← (show s.length = k from h1), List.take_length]
  | succ n ih =>
    intro k M pre hk hM ho s
    have hget : ∀ side : Int, (pre ++ [side])[k]?.getD 0 = side := by intro side; rw [← hk]; simp
    have hlt : ∀ side : Int, ∀ j, j < k → pre[j]?.getD 0 = (pre ++ [side])[j]?.getD 0 := by
      intro side j hj; rw [List.getElem?_append_left (by omega)]
    have key : ∀ side : Int, ∀ s : List Int, (s.take (k + 1) = pre ++ [side] ↔ s.take k = pre ∧ (k < s.length ∧ s[k]?.getD 0 = side)) := by
      intro side s
      constructor
      · intro h
        have hl : k < s.length := by
          have := congrArg List.length h
          simp at this; omega
        refine ⟨?_, hl, ?_⟩
        · have := congrArg (List.take k) h
          rw [List.take_take, List.take_append_of_le_length (by omega), ← hk, List.take_length] at this
          rw [← hk]; simpa using this
        · have := congrArg (fun x => x[k]?.getD 0) h
          simp only [hget] at this
          rw [List.getElem?_take_of_lt (by omega)] at this
          exact this
      · rintro ⟨h1, h2, h3⟩
        rw [List.take_add_one, h1, List.getElem?_eq_getElem h2]
        rw [List.getElem?_eq_getElem h2] at h3
        simp at h3; simp [h3]
    have hrec : ∀ side : Int, side = -1 ∨ CanSet M (l[k]?.getD q0) side → (s ∈ each l n (k + 1) (next M (l[k]?.getD q0) side ((k : Int) + 1)) (pre ++ [side]) ↔ (s.length = k + (n + 1) ∧ s.take k = pre ∧ OkUp l s (k + (n + 1)) ∧ ∀ j, k + 1 ≤ j → j < k + (n + 1) → s[j]?.getD 0 = -1 ∨ (0 ≤ s[j]?.getD 0 ∧ s[j]?.getD 0 ≤ 3)) ∧ s[k]?.getD 0 = side) := by
      intro side hs
      have hM' : next M (l[k]?.getD q0) side ((k : Int) + 1) = planUp l (pre ++ [side]) (k + 1) := by
        rw [planUp, hget, next, hM, planUp_congr (hlt side)]
      have ho' : OkUp l (pre ++ [side]) (k + 1) := by
        rw [OkUp, hget, ← planUp_congr (hlt side), ← hM]
        exact ⟨(okUp_congr (hlt side)).1 ho, hs⟩
      rw [ih (k + 1) _ (pre ++ [side]) (by simp [hk]) hM' ho' s, key side s, show k + 1 + n = k + (n + 1) by omega]
      constructor
      · rintro ⟨a, ⟨b, c, d⟩, e, f⟩; exact ⟨⟨a, b, e, f⟩, d⟩
      · rintro ⟨⟨a, b, e, f⟩, d⟩; exact ⟨a, ⟨b, by omega, d⟩, e, f⟩
    rw [each, List.mem_append, List.mem_flatMap]
    have hno : s ∈ each l n (k + 1) M (pre ++ [-1]) ↔ _ := hrec (-1) (.inl rfl)
    rw [hno]
    have hyes : (∃ a, a ∈ ([0, 1, 2, 3] : List Int) ∧ s ∈ if CanSet M (l[k]?.getD q0) a then each l n (k + 1) (setOn M (l[k]?.getD q0) a ((k : Int) + 1)) (pre ++ [a]) else []) ↔
        (s.length = k + (n + 1) ∧ s.take k = pre ∧ OkUp l s (k + (n + 1)) ∧ ∀ j, k + 1 ≤ j → j < k + (n + 1) → s[j]?.getD 0 = -1 ∨ (0 ≤ s[j]?.getD 0 ∧ s[j]?.getD 0 ≤ 3)) ∧ ∃ a : Int, 0 ≤ a ∧ a ≤ 3 ∧ CanSet M (l[k]?.getD q0) a ∧ s[k]?.getD 0 = a := by
      constructor
      · rintro ⟨a, ha, hs⟩
        have ha' : 0 ≤ a ∧ a ≤ 3 := by simp at ha; omega
        by_cases hc : CanSet M (l[k]?.getD q0) a
        · rw [if_pos hc] at hs
          have := hrec a (.inr hc)
          rw [next, if_neg (by omega)] at this
          obtain ⟨h1, h2⟩ := this.1 hs
          exact ⟨h1, a, ha'.1, ha'.2, hc, h2⟩
        · rw [if_neg hc] at hs; simp at hs
      · rintro ⟨h1, a, ha, hb, hc, h2⟩
        refine ⟨a, by simp; omega, ?_⟩
        rw [if_pos hc]
        have := hrec a (.inr hc)
        rw [next, if_neg (by omega)] at this
        exact this.2 ⟨h1, h2⟩
    rw [hyes]
    constructor
    · rintro (⟨⟨a, b, c, d⟩, x, hx0, hx3, hx, hxs⟩ | ⟨⟨a, b, c, d⟩, e⟩)
      · refine ⟨a, b, c, fun j h1 h2 => ?_⟩
        by_cases hj : j = k
        · subst hj; right; omega
        · exact d j (by omega) h2
      · refine ⟨a, b, c, fun j h1 h2 => ?_⟩
        by_cases hj : j = k
        · subst hj; left; exact e
        · exact d j (by omega) h2
    · rintro ⟨a, b, c, d⟩
      have hd := d k (by omega) (by omega)
      have hck : OkUp l s (k + 1) := by
        have : ∀ m, OkUp l s (k + 1 + m) → OkUp l s (k + 1) := by
          intro m
          induction m with
          | zero => exact id
          | succ m ihm => intro h; exact ihm h.1
        exact this n (by rw [show k + 1 + n = k + (n + 1) by omega]; exact c)
      by_cases e : s[k]?.getD 0 = -1
      · exact .inr ⟨⟨a, b, c, fun j h1 h2 => d j (by omega) h2⟩, e⟩
      · left
        refine ⟨⟨a, b, c, fun j h1 h2 => d j (by omega) h2⟩, s[k]?.getD 0, by omega, by omega, ?_, rfl⟩
        rcases hck.2 with h | h
        · exact absurd h e
        · have hp : planUp l s k = M := by
            rw [hM]
            refine planUp_congr fun j hj => ?_
            rw [← b, List.getElem?_take_of_lt hj]
          rw [← hp]; exact h
/-- the weight of the first k labels that are set -/
def weightUp (wt : Quad → Int) (l : List Quad) (s : List Int) : Nat → Int
  | 0 => 0
  | k + 1 => weightUp wt l s k + if s[k]?.getD 0 = -1 then 0 else wt (l[k]?.getD q0)
theorem weightUp_congr {wt : Quad → Int} {l : List Quad} {s t : List Int} {k : Nat} (h : ∀ j, j < k → s[j]?.getD 0 = t[j]?.getD 0) : weightUp wt l s k = weightUp wt l t k := by
  induction k with
  | zero => rfl
  | succ k ih => rw [weightUp, weightUp, ih (fun j hj => h j (by omega)), h k (by omega)]
def canDo (M : Plan) (q : Quad) (a : Int) : Prop := a = -1 ∨ CanSet M q a
instance (M : Plan) (q : Quad) (a : Int) : Decidable (canDo M q a) := by unfold canDo; infer_instance
def sides5 : List Int := [0, 1, 2, 3, -1]
def valOf (wt : Quad → Int) (l : List Quad) (n k : Nat) (M : Plan) (a : Int) : Int := (if a = -1 then 0 else wt (l[k]?.getD q0)) + bst wt l n (k + 1) (next M (l[k]?.getD q0) a ((k : Int) + 1))
theorem each_succ (l : List Quad) (n k : Nat) (M : Plan) (pre : List Int) :
    each l (n + 1) k M pre = sides5.flatMap fun a => if canDo M (l[k]?.getD q0) a then each l n (k + 1) (next M (l[k]?.getD q0) a ((k : Int) + 1)) (pre ++ [a]) else [] := by
  rw [each]
  simp [sides5, canDo, next]
theorem foldmax_le {f : Int → Prop} [DecidablePred f] {v : Int → Int} (ss : List Int) (b : Int) :
    let r := ss.foldl (fun b a => if f a then max b (v a) else b) b
    b ≤ r ∧ (∀ a ∈ ss, f a → v a ≤ r) ∧ (r = b ∨ ∃ a ∈ ss, f a ∧ v a = r) := by
  induction ss generalizing b with
  | nil => exact ⟨Int.le_refl _, by simp, .inl rfl⟩
  | cons x ss ih =>
    simp only [List.foldl_cons]
    obtain ⟨h1, h2, h3⟩ := ih (if f x then max b (v x) else b)
    refine ⟨?_, ?_, ?_⟩
    · by_cases hf : f x
      · rw [if_pos hf] at h1 ⊢; omega
      · rw [if_neg hf] at h1 ⊢; exact h1
    · intro a ha hf
      rcases List.mem_cons.1 ha with rfl | ha
      · rw [if_pos hf] at h1 ⊢; omega
      · exact h2 a ha hf
    · rcases h3 with h3 | ⟨a, ha, hf, hv⟩
      · by_cases hf : f x
        · rw [if_pos hf] at h3 ⊢
          rcases (show max b (v x) = b ∨ max b (v x) = v x by omega) with e | e
          · left; rw [e] at h3; rw [e]; exact h3
          · right; refine ⟨x, List.mem_cons_self .., hf, ?_⟩; rw [e] at h3; rw [e]; exact h3.symm
        · rw [if_neg hf] at h3 ⊢; exact .inl h3
      · exact .inr ⟨a, List.mem_cons_of_mem _ ha, hf, hv⟩
theorem bst_max (wt : Quad → Int) (l : List Quad) (n k : Nat) (M : Plan) :
    (∀ a ∈ sides5, canDo M (l[k]?.getD q0) a → valOf wt l n k M a ≤ bst wt l (n + 1) k M) ∧ ∃ a ∈ sides5, canDo M (l[k]?.getD q0) a ∧ valOf wt l n k M a = bst wt l (n + 1) k M := by
  have h := foldmax_le (f := fun a => CanSet M (l[k]?.getD q0) a) (v := fun side => wt (l[k]?.getD q0) + bst wt l n (k + 1) (setOn M (l[k]?.getD q0) side ((k : Int) + 1))) [0, 1, 2, 3] (bst wt l n (k + 1) M)
  simp only at h
  obtain ⟨h1, h2, h3⟩ := h
  have e : bst wt l (n + 1) k M = [0, 1, 2, 3].foldl (fun b side => if CanSet M (l[k]?.getD q0) side then max b (wt (l[k]?.getD q0) + bst wt l n (k + 1) (setOn M (l[k]?.getD q0) side ((k : Int) + 1))) else b) (bst wt l n (k + 1) M) := rfl
  rw [← e] at h1 h2 h3
  have hv : ∀ a ∈ ([0, 1, 2, 3] : List Int), valOf wt l n k M a = wt (l[k]?.getD q0) + bst wt l n (k + 1) (setOn M (l[k]?.getD q0) a ((k : Int) + 1)) := by
    intro a ha
    have : a ≠ -1 := by simp at ha; omega
    rw [valOf, if_neg this, next, if_neg this]
  have hm : valOf wt l n k M (-1) = bst wt l n (k + 1) M := by rw [valOf, if_pos rfl, next, if_pos rfl]; omega
  constructor
  · intro a ha hc
    have ha' : a ∈ ([0, 1, 2, 3] : List Int) ∨ a = -1 := by simp [sides5] at ha ⊢; omega
    rcases ha' with ha' | rfl
    · rcases hc with rfl | hc
      · rw [hm]; exact h1
      · rw [hv a ha']; exact h2 a ha' hc
    · rw [hm]; exact h1
  · rcases h3 with h3 | ⟨a, ha, hc, hva⟩
    · exact ⟨-1, by simp [sides5], .inl rfl, by rw [hm, h3]⟩
    · exact ⟨a, by simp [sides5] at ha ⊢; omega, .inr hc, by rw [hv a ha, hva]⟩

/-- the first element of greatest f, folded -/
def fmStep (f : List Int → Int) (b : Int × List Int) (s : List Int) : Int × List Int := if f s > b.1 then (f s, s) else b

theorem fold_blocks {c : Int → Prop} [DecidablePred c] {v : Int → Int} {t : Int → List Int} (ss : List Int) (g : Int) (x : List Int) :
    let r := ss.foldl (fun b a => if c a then (if v a > b.1 then (v a, t a) else b) else b) (g, x)
    (r = (g, x) ∧ ∀ a ∈ ss, c a → v a ≤ g) ∨ (∃ us bs a, ss = us ++ a :: bs ∧ c a ∧ r = (v a, t a) ∧ g < v a ∧ (∀ b ∈ us, c b → v b < v a) ∧ ∀ b ∈ bs, c b → v b ≤ v a) := by
  induction ss generalizing g x with
  | nil => exact .inl ⟨rfl, by simp⟩
  | cons y ss ih =>
    simp only [List.foldl_cons]
    by_cases hy : c y ∧ g < v y
    · rw [if_pos hy.1, if_pos (show v y > (g, x).1 from hy.2)]
      rcases ih (v y) (t y) with ⟨h1, h2⟩ | ⟨us, bs, a, h1, h2, h3, h4, h5, h6⟩
      · exact .inr ⟨[], ss, y, rfl, hy.1, h1, hy.2, by simp, h2⟩
      · refine .inr ⟨y :: us, bs, a, by rw [h1]; rfl, h2, h3, by omega, ?_, h6⟩
        intro b hb hcb
        rcases List.mem_cons.1 hb with rfl | hb
        · exact h4
        · exact h5 b hb hcb
    · have e : (if c y then (if v y > (g, x).1 then (v y, t y) else (g, x)) else (g, x)) = (g, x) := by
        by_cases h1 : c y
        · rw [if_pos h1, if_neg (fun h2 => hy ⟨h1, h2⟩)]
        · rw [if_neg h1]
      rw [e]
      rcases ih g x with ⟨h1, h2⟩ | ⟨us, bs, a, h1, h2, h3, h4, h5, h6⟩
      · refine .inl ⟨h1, ?_⟩
        intro a ha hca
        rcases List.mem_cons.1 ha with rfl | ha
        · exact Int.not_lt.1 fun h => hy ⟨hca, h⟩
        · exact h2 a ha hca
      · refine .inr ⟨y :: us, bs, a, by rw [h1]; rfl, h2, h3, h4, ?_, h6⟩
        intro b hb hcb
        rcases List.mem_cons.1 hb with rfl | hb
        · have : ¬ g < v b := fun h => hy ⟨hcb, h⟩
          omega
        · exact h5 b hb hcb

/-- the side that is chosen is the first one that leads to the greatest sum -/
theorem chosen_first {wt : Quad → Int} {l : List Quad} {n k : Nat} {M : Plan} {us bs : List Int} {a : Int} (hs : sides5 = us ++ a :: bs) (hc : canDo M (l[k]?.getD q0) a) (hv : valOf wt l n k M a = bst wt l (n + 1) k M)
    (hb : ∀ b ∈ us, canDo M (l[k]?.getD q0) b → valOf wt l n k M b < valOf wt l n k M a) : chosen wt l n k M = a := by
  have hval : ∀ b : Int, b ≠ -1 → valOf wt l n k M b = wt (l[k]?.getD q0) + bst wt l n (k + 1) (setOn M (l[k]?.getD q0) b ((k : Int) + 1)) := by
    intro b hb; rw [valOf, if_neg hb, next, if_neg hb]
  have hfind : ∀ b : Int, b ≠ -1 → (decide (CanSet M (l[k]?.getD q0) b ∧ wt (l[k]?.getD q0) + bst wt l n (k + 1) (setOn M (l[k]?.getD q0) b ((k : Int) + 1)) = bst wt l (n + 1) k M) = decide (canDo M (l[k]?.getD q0) b ∧ valOf wt l n k M b = bst wt l (n + 1) k M)) := by
    intro b hb
    rw [hval b hb]
    exact decide_eq_decide.2 ⟨fun h => ⟨.inr h.1, h.2⟩, fun h => ⟨h.1.resolve_left hb, h.2⟩⟩
  have hp : ∀ b ∈ us, decide (canDo M (l[k]?.getD q0) b ∧ valOf wt l n k M b = bst wt l (n + 1) k M) = false := by
    intro b hb1
    refine decide_eq_false fun h => ?_
    have := hb b hb1 h.1
    rw [hv, h.2] at this; omega
  have hy : decide (canDo M (l[k]?.getD q0) a ∧ valOf wt l n k M a = bst wt l (n + 1) k M) = true := decide_eq_true ⟨hc, hv⟩
  unfold chosen
  have hcase : (us = [] ∧ a = 0) ∨ (us = [0] ∧ a = 1) ∨ (us = [0, 1] ∧ a = 2) ∨ (us = [0, 1, 2] ∧ a = 3) ∨ (us = [0, 1, 2, 3] ∧ a = -1) := by
    unfold sides5 at hs
    rcases us with _ | ⟨x0, us⟩
    · simp at hs; exact .inl ⟨rfl, hs.1.symm⟩
    rcases us with _ | ⟨x1, us⟩
    · simp at hs; obtain ⟨rfl, rfl, _⟩ := hs; exact .inr (.inl ⟨rfl, rfl⟩)
    rcases us with _ | ⟨x2, us⟩
    · simp at hs; obtain ⟨rfl, rfl, rfl, _⟩ := hs; exact .inr (.inr (.inl ⟨rfl, rfl⟩))
    rcases us with _ | ⟨x3, us⟩
    · simp at hs; obtain ⟨rfl, rfl, rfl, rfl, _⟩ := hs; exact .inr (.inr (.inr (.inl ⟨rfl, rfl⟩)))
    rcases us with _ | ⟨x4, us⟩
    · simp at hs; obtain ⟨rfl, rfl, rfl, rfl, rfl, _⟩ := hs; exact .inr (.inr (.inr (.inr ⟨rfl, rfl⟩)))
    · simp at hs
  rcases hcase with ⟨rfl, rfl⟩ | ⟨rfl, rfl⟩ | ⟨rfl, rfl⟩ | ⟨rfl, rfl⟩ | ⟨rfl, rfl⟩
  · rw [List.find?_cons, hfind 0 (by decide), hy]; rfl
  · rw [List.find?_cons, hfind 0 (by decide), hp 0 (by simp), List.find?_cons, hfind 1 (by decide), hy]; rfl
  · rw [List.find?_cons, hfind 0 (by decide), hp 0 (by simp), List.find?_cons, hfind 1 (by decide), hp 1 (by simp), List.find?_cons, hfind 2 (by decide), hy]; rfl
  · rw [List.find?_cons, hfind 0 (by decide), hp 0 (by simp), List.find?_cons, hfind 1 (by decide), hp 1 (by simp), List.find?_cons, hfind 2 (by decide), hp 2 (by simp), List.find?_cons, hfind 3 (by decide), hy]; rfl
  · rw [List.find?_cons, hfind 0 (by decide), hp 0 (by simp), List.find?_cons, hfind 1 (by decide), hp 1 (by simp), List.find?_cons, hfind 2 (by decide), hp 2 (by simp), List.find?_cons, hfind 3 (by decide), hp 3 (by simp)]; rfl

theorem weightUp_snoc {wt : Quad → Int} {l : List Quad} {pre : List Int} {k : Nat} (hk : pre.length = k) (a : Int) : weightUp wt l (pre ++ [a]) (k + 1) = weightUp wt l pre k + if a = -1 then 0 else wt (l[k]?.getD q0) := by
  rw [weightUp, weightUp_congr (t := pre) (fun j hj => by rw [List.getElem?_append_left (by omega)])]
  have : (pre ++ [a])[k]?.getD 0 = a := by rw [← hk]; simp
  rw [this]

theorem fm_each (wt : Quad → Int) (l : List Quad) (K : Nat) : ∀ n k M pre g x, pre.length = k → k + n = K →
    (each l n k M pre).foldl (fmStep fun s => weightUp wt l s K) (g, x) = if weightUp wt l pre k + bst wt l n k M > g then (weightUp wt l pre k + bst wt l n k M, pre ++ bestOf wt l n k M) else (g, x) := by
  intro n
  induction n with
  | zero =>
    intro k M pre g x hk hK
    simp only [each, List.foldl_cons, List.foldl_nil, fmStep, bst, bestOf, Int.add_zero, List.append_nil]
    obtain rfl : k = K := by omega
    rfl
  | succ n ih =>
    intro k M pre g x hk hK
    rw [each_succ]
    have hfold : ∀ (ss : List Int) (b : Int × List Int), (ss.flatMap fun a => if canDo M (l[k]?.getD q0) a then each l n (k + 1) (next M (l[k]?.getD q0) a ((k : Int) + 1)) (pre ++ [a]) else []).foldl (fmStep fun s => weightUp wt l s K) b =
        ss.foldl (fun b a => if canDo M (l[k]?.getD q0) a then (if weightUp wt l pre k + valOf wt l n k M a > b.1 then (weightUp wt l pre k + valOf wt l n k M a, pre ++ (a :: bestOf wt l n (k + 1) (next M (l[k]?.getD q0) a ((k : Int) + 1)))) else b) else b) b := by
      intro ss
      induction ss with
      | nil => intro b; rfl
      | cons y ss ihs =>
        intro b
        rw [List.flatMap_cons, List.foldl_append, ihs, List.foldl_cons]
        congr 1
        split
        · obtain ⟨g, x⟩ := b
          rw [ih (k + 1) _ (pre ++ [y]) g x (by simp [hk]) (by omega), weightUp_snoc hk]
          have e : weightUp wt l pre k + (if y = -1 then 0 else wt (l[k]?.getD q0)) + bst wt l n (k + 1) (next M (l[k]?.getD q0) y ((k : Int) + 1)) = weightUp wt l pre k + valOf wt l n k M y := by rw [valOf]; omega
          rw [e, List.append_assoc]; rfl
        · rfl
    rw [hfold]
    obtain ⟨hm1, z, hz, hzc, hzv⟩ := bst_max wt l n k M
    rcases fold_blocks (c := fun a => canDo M (l[k]?.getD q0) a) (v := fun a => weightUp wt l pre k + valOf wt l n k M a) (t := fun a => pre ++ (a :: bestOf wt l n (k + 1) (next M (l[k]?.getD q0) a ((k : Int) + 1)))) sides5 g x with ⟨h1, h2⟩ | ⟨us, bs, a, h1, h2, h3, h4, h5, h6⟩
    · rw [h1, if_neg]
      have := h2 z hz hzc
      omega
    · have hva : valOf wt l n k M a = bst wt l (n + 1) k M := by
        have g1 := hm1 a (by rw [h1]; simp) h2
        have g2 : valOf wt l n k M z ≤ valOf wt l n k M a := by
          rw [h1] at hz
          rcases List.mem_append.1 hz with hz | hz
          · have := h5 z hz hzc; omega
          · rcases List.mem_cons.1 hz with rfl | hz
            · exact Int.le_refl _
            · have := h6 z hz hzc; omega
        omega
      have hch : chosen wt l n k M = a := chosen_first h1 h2 hva (fun b hb hcb => by have := h5 b hb hcb; omega)
      rw [h3, hva, if_pos (by rw [← hva]; exact h4), bestOf, hch]

/-- the greatest weight of all: no setting weighs more -/
theorem each_le (wt : Quad → Int) (l : List Quad) (K : Nat) : ∀ n k M pre, pre.length = k → k + n = K → ∀ s ∈ each l n k M pre, weightUp wt l s K ≤ weightUp wt l pre k + bst wt l n k M := by
  intro n
  induction n with
  | zero =>
    intro k M pre hk hK s hs
    simp only [each, List.mem_singleton] at hs
    subst hs
    obtain rfl : k = K := by omega
    simp [bst]
  | succ n ih =>
    intro k M pre hk hK s hs
    rw [each_succ, List.mem_flatMap] at hs
    obtain ⟨a, ha, hs⟩ := hs
    split at hs
    · rename_i hc
      have h := ih (k + 1) _ (pre ++ [a]) (by simp [hk]) (by omega) s hs
      rw [weightUp_snoc hk] at h
      have := (bst_max wt l n k M).1 a ha hc
      rw [valOf] at this
      omega
    · simp at hs
theorem best_mem (wt : Quad → Int) (l : List Quad) : ∀ n k M pre, pre.length = k → pre ++ bestOf wt l n k M ∈ each l n k M pre ∧ weightUp wt l (pre ++ bestOf wt l n k M) (k + n) = weightUp wt l pre k + bst wt l n k M := by
  intro n
  induction n with
  | zero => intro k M pre hk; simp [each, bestOf, bst]
  | succ n ih =>
    intro k M pre hk
    obtain ⟨hm1, z, hz, hzc, hzv⟩ := bst_max wt l n k M
    -- the chosen side can be done and leads to the best
    obtain ⟨us, bs, a, h1, h2, h3, h4⟩ : ∃ us bs a, sides5 = us ++ a :: bs ∧ canDo M (l[k]?.getD q0) a ∧ valOf wt l n k M a = bst wt l (n + 1) k M ∧ ∀ b ∈ us, canDo M (l[k]?.getD q0) b → valOf wt l n k M b < valOf wt l n k M a := by
      rcases fold_blocks (c := fun a => canDo M (l[k]?.getD q0) a) (v := fun a => valOf wt l n k M a) (t := fun _ => []) sides5 (bst wt l (n + 1) k M - 1) [] with ⟨_, h2⟩ | ⟨us, bs, a, h1, h2, h3, h4, h5, h6⟩
      · have := h2 z hz hzc; omega
      · refine ⟨us, bs, a, h1, h2, ?_, h5⟩
        have := hm1 a (by rw [h1]; simp) h2
        omega
    have hch := chosen_first h1 h2 h3 h4
    rw [bestOf, hch]
    have hi := ih (k + 1) (next M (l[k]?.getD q0) a ((k : Int) + 1)) (pre ++ [a]) (by simp [hk])
    rw [List.append_assoc, List.singleton_append] at hi
    refine ⟨?_, ?_⟩
    · rw [each_succ, List.mem_flatMap]
      exact ⟨a, by rw [h1]; simp, by rw [if_pos h2]; exact hi.1⟩
    · have := hi.2
      rw [weightUp_snoc hk] at this
      rw [show k + (n + 1) = k + 1 + n by omega, this, ← h3, valOf]; omega
theorem bestOf_length (wt : Quad → Int) (l : List Quad) : ∀ n k M, (bestOf wt l n k M).length = n := by
  intro n; induction n with
  | zero => intros; rfl
  | succ n ih => intro k M; rw [bestOf, List.length_cons, ih]
theorem foldmax_le2 {v : List Int → Int} (ss : List (List Int)) (b : Int) :
    let r := ss.foldl (fun b a => max b (v a)) b
    b ≤ r ∧ (∀ a ∈ ss, v a ≤ r) ∧ (r = b ∨ ∃ a ∈ ss, v a = r) := by
  induction ss generalizing b with
  | nil => exact ⟨Int.le_refl _, by simp, .inl rfl⟩
  | cons x ss ih =>
    simp only [List.foldl_cons]
    obtain ⟨h1, h2, h3⟩ := ih (max b (v x))
    refine ⟨by omega, ?_, ?_⟩
    · intro a ha
      rcases List.mem_cons.1 ha with rfl | ha
      · omega
      · exact h2 a ha
    · rcases h3 with h3 | ⟨a, ha, hv⟩
      · rcases (show max b (v x) = b ∨ max b (v x) = v x by omega) with e | e
        · left; rw [e] at h3; rw [e]; exact h3
        · right; refine ⟨x, List.mem_cons_self .., ?_⟩; rw [e] at h3; rw [e]; exact h3.symm
      · exact .inr ⟨a, List.mem_cons_of_mem _ ha, hv⟩
/-- the greatest count, folded -/
theorem most_each (wt : Quad → Int) (l : List Quad) (K : Nat) : ∀ n k M pre g, pre.length = k → k + n = K →
    (each l n k M pre).foldl (fun b s => max b (weightUp wt l s K)) g = max g (weightUp wt l pre k + bst wt l n k M) := by
  intro n k M pre g hk hK
  have h1 := each_le wt l K n k M pre hk hK
  obtain ⟨h2, h3⟩ := best_mem wt l n k M pre hk
  rw [hK] at h3
  have h := foldmax_le2 (v := fun s => weightUp wt l s K) (each l n k M pre) g
  simp only at h
  obtain ⟨e1, e2, e3⟩ := h
  have e4 := e2 _ h2
  rcases e3 with e3 | ⟨a, ha, e3⟩
  · omega
  · have := h1 a ha; omega
/-- the places of label i at its side (none if it is left out) -/
def plc (l : List Quad) (s : List Int) (i : Nat) : List Int := placesOf (l[i]?.getD q0) (s[i]?.getD 0)
theorem plc_none {l : List Quad} {s : List Int} {i : Nat} (h : s[i]?.getD 0 = -1) : plc l s i = [] := by
  unfold plc; rw [h]; exact places_no fun hf => by have := hf.1; omega
theorem planUp_free {l : List Quad} {s : List Int} {c : Nat} (k : Nat) : planUp l s k c = 0 ↔ ¬ c ∈ l.map pt ∧ ∀ j, j < k → ¬ (c : Int) ∈ plc l s j := by
  induction k with
  | zero =>
    simp only [planUp, mPts]
    constructor
    · intro h; refine ⟨fun hc => ?_, fun j hj => by omega⟩; rw [if_pos hc] at h; omega
    · rintro ⟨h, _⟩; rw [if_neg h]
  | succ k ih =>
    rw [planUp]
    split
    · rename_i h
      rw [ih]
      constructor
      · rintro ⟨a, b⟩; refine ⟨a, fun j hj => ?_⟩
        by_cases e : j = k
        · subst e; rw [plc_none h]; simp
        · exact b j (by omega)
      · rintro ⟨a, b⟩; exact ⟨a, fun j hj => b j (by omega)⟩
    · have e : setOn (planUp l s k) (l[k]?.getD q0) (s[k]?.getD 0) ((k : Int) + 1) = putOn (plc l s k) ((k : Int) + 1) (planUp l s k) := rfl
      rw [e]
      by_cases hc : (c : Int) ∈ plc l s k
      · rw [putOn_in hc]
        constructor
        · intro h; omega
        · rintro ⟨_, b⟩; exact absurd hc (b k (by omega))
      · rw [putOn_out hc, ih]
        constructor
        · rintro ⟨a, b⟩; refine ⟨a, fun j hj => ?_⟩
          by_cases e : j = k
          · subst e; exact hc
          · exact b j (by omega)
        · rintro ⟨a, b⟩; exact ⟨a, fun j hj => b j (by omega)⟩
/-- label i lies on the map, on no point, and apart from those before -/
def OkAt (l : List Quad) (s : List Int) (i : Nat) : Prop :=
  (s[i]?.getD 0 = -1 ∨ Fits (l[i]?.getD q0) (s[i]?.getD 0)) ∧ (∀ c ∈ plc l s i, ¬ c.toNat ∈ l.map pt) ∧ ∀ j, j < i → ∀ c ∈ plc l s i, ¬ c ∈ plc l s j
theorem canSet_iff {l : List Quad} {s : List Int} {k : Nat} {q : Quad} {side : Int} : CanSet (planUp l s k) q side ↔ Fits q side ∧ (∀ c ∈ placesOf q side, ¬ c.toNat ∈ l.map pt) ∧ ∀ j, j < k → ∀ c ∈ placesOf q side, ¬ c ∈ plc l s j := by
  unfold CanSet FreeOn
  constructor
  · rintro ⟨h1, h2⟩
    refine ⟨h1, fun c hc => ((planUp_free k).1 (h2 c hc)).1, fun j hj c hc => ?_⟩
    have := ((planUp_free k).1 (h2 c hc)).2 j hj
    rwa [(places_in hc).2.2] at this
  · rintro ⟨h1, h2, h3⟩
    refine ⟨h1, fun c hc => (planUp_free k).2 ⟨h2 c hc, fun j hj => ?_⟩⟩
    rw [(places_in hc).2.2]
    exact h3 j hj c hc
theorem okUp_iff (l : List Quad) (s : List Int) (n : Nat) : OkUp l s n ↔ ∀ i, i < n → OkAt l s i := by
  induction n with
  | zero => exact ⟨fun _ i hi => by omega, fun _ => trivial⟩
  | succ n ih =>
    rw [OkUp, ih, canSet_iff]
    constructor
    · rintro ⟨h1, h2⟩ i hi
      by_cases e : i = n
      · subst e
        rcases h2 with h2 | ⟨h2, h3, h4⟩
        · refine ⟨.inl h2, ?_, ?_⟩ <;> simp [plc_none h2]
        · exact ⟨.inr h2, h3, h4⟩
      · exact h1 i (by omega)
    · intro h
      refine ⟨fun i hi => h i (by omega), ?_⟩
      obtain ⟨h1, h2, h3⟩ := h n (by omega)
      rcases h1 with h1 | h1
      · exact .inl h1
      · exact .inr ⟨h1, h2, h3⟩
theorem OkAt.side {l : List Quad} {s : List Int} {i : Nat} (h : OkAt l s i) : s[i]?.getD 0 = -1 ∨ (0 ≤ s[i]?.getD 0 ∧ s[i]?.getD 0 ≤ 3) := by
  rcases h.1 with h | h
  · exact .inl h
  · exact .inr ⟨h.1, h.2.1⟩
/-- what the settings of a list are -/
def allOf (l : List Quad) : List (List Int) := each l l.length 0 (mPts l) []
theorem mem_allOf (l : List Quad) (s : List Int) : s ∈ allOf l ↔ s.length = l.length ∧ OkUp l s l.length := by
  unfold allOf
  rw [mem_each l l.length 0 (mPts l) [] rfl rfl trivial s]
  simp only [Nat.zero_add, List.take_zero, true_and]
  constructor
  · rintro ⟨a, b, _⟩; exact ⟨a, b⟩
  · rintro ⟨a, b⟩
    exact ⟨a, b, fun j _ hj => ((okUp_iff l s _).1 b j hj).side⟩

/-- the same setting with one label at another side -/
theorem set_same {s : List Int} {i : Nat} {a : Int} (h : i < s.length) : (s.set i a)[i]?.getD 0 = a := by simp [h]
theorem set_other {s : List Int} {i j : Nat} {a : Int} (h : j ≠ i) : (s.set i a)[j]?.getD 0 = s[j]?.getD 0 := by
  rw [List.getElem?_set_ne (by omega)]
theorem plc_other {l : List Quad} {s : List Int} {i j : Nat} {a : Int} (h : j ≠ i) : plc l (s.set i a) j = plc l s j := by unfold plc; rw [set_other h]
theorem plc_same {l : List Quad} {s : List Int} {i : Nat} {a : Int} (h : i < s.length) : plc l (s.set i a) i = placesOf (l[i]?.getD q0) a := by unfold plc; rw [set_same h]
/-- a label left out leaves a setting -/
theorem okUp_out {l : List Quad} {s : List Int} {n : Nat} (i : Nat) (h : OkUp l s n) (hi : i < s.length) : OkUp l (s.set i (-1)) n := by
  rw [okUp_iff] at h ⊢
  intro j hj
  obtain ⟨h1, h2, h3⟩ := h j hj
  by_cases e : j = i
  · subst e
    refine ⟨.inl (set_same hi), ?_, ?_⟩ <;> rw [plc_none (set_same hi)] <;> simp
  · refine ⟨by rw [set_other e]; exact h1, by rw [plc_other e]; exact h2, fun k hk c hc => ?_⟩
    rw [plc_other e] at hc
    by_cases e2 : k = i
    · subst e2; rw [plc_none (set_same hi)]; simp
    · rw [plc_other e2]; exact h3 k hk c hc
theorem setOk_out {l : List Quad} {s : List Int} (i : Nat) (h : SetOk l s) (hi : i < s.length) : SetOk l (s.set i (-1)) :=
  ⟨h.1, by simp [h.2.1], okUp_out i h.2.2 hi⟩
/-- when a free label can be set: exactly if it can be set on the map of the others -/
theorem okUp_in {l : List Quad} {s : List Int} {n i : Nat} {a : Int} (h : OkUp l s n) (hi : i < s.length) (hin : i < n) (h1 : s[i]?.getD 0 = -1) (ha : a ≠ -1) : OkUp l (s.set i a) n ↔ CanSet (planUp l s n) (l[i]?.getD q0) a := by
  rw [canSet_iff, okUp_iff]
  rw [okUp_iff] at h
  constructor
  · intro hh
    obtain ⟨g1, g2, g3⟩ := hh i hin
    rw [set_same hi] at g1
    rw [plc_same hi] at g2 g3
    refine ⟨g1.resolve_left ha, g2, fun j hj c hc => ?_⟩
    rcases Nat.lt_trichotomy j i with hlt | rfl | hgt
    · have := g3 j hlt c hc
      rwa [plc_other (by omega)] at this
    · rw [plc_none h1]; simp
    · intro hcj
      have := (hh j hj).2.2 i hgt c (by rw [plc_other (by omega)]; exact hcj)
      rw [plc_same hi] at this
      exact this hc
  · rintro ⟨g1, g2, g3⟩ j hj
    obtain ⟨e1, e2, e3⟩ := h j hj
    by_cases e : j = i
    · subst e
      refine ⟨by rw [set_same hi]; exact .inr g1, by rw [plc_same hi]; exact g2, fun k hk c hc => ?_⟩
      rw [plc_same hi] at hc
      rw [plc_other (by omega)]
      exact g3 k (by omega) c hc
    · refine ⟨by rw [set_other e]; exact e1, by rw [plc_other e]; exact e2, fun k hk c hc => ?_⟩
      rw [plc_other e] at hc
      by_cases e2' : k = i
      · subst e2'
        rw [plc_same hi]
        intro hk2
        exact g3 j hj c hk2 hc
      · rw [plc_other e2']; exact e3 k hk c hc
theorem putOn_comm {a b : List Int} {x y : Int} {M : Plan} (h : ∀ c ∈ a, ¬ c ∈ b) : putOn a x (putOn b y M) = putOn b y (putOn a x M) := by
  funext i
  simp only [putOn]
  by_cases h1 : (i : Int) ∈ a
  · rw [if_pos h1, if_neg (h _ h1), if_pos h1]
  · rw [if_neg h1]
    by_cases h2 : (i : Int) ∈ b
    · rw [if_pos h2, if_pos h2]
    · rw [if_neg h2, if_neg h2, if_neg h1]
/-- the map with one label more -/
theorem planUp_in {l : List Quad} {s : List Int} {n i : Nat} {a : Int} (hi : i < s.length) (hin : i < n) (h1 : s[i]?.getD 0 = -1) (ha : a ≠ -1) (hc : CanSet (planUp l s n) (l[i]?.getD q0) a) :
    planUp l (s.set i a) n = setOn (planUp l s n) (l[i]?.getD q0) a ((i : Int) + 1) := by
  rw [canSet_iff] at hc
  obtain ⟨_, _, hc⟩ := hc
  have key : ∀ m, i + 1 + m ≤ n → planUp l (s.set i a) (i + 1 + m) = setOn (planUp l s (i + 1 + m)) (l[i]?.getD q0) a ((i : Int) + 1) := by
    intro m
    induction m with
    | zero =>
      intro _
      rw [Nat.add_zero, planUp, set_same hi, if_neg ha, planUp_congr (t := s) (fun j hj => set_other (by omega))]
      rw [show planUp l s (i + 1) = planUp l s i by rw [planUp, if_pos h1]]
    | succ m ih =>
      intro hm
      rw [show i + 1 + (m + 1) = (i + 1 + m) + 1 by omega, planUp, planUp, set_other (by omega), ih (by omega)]
      split
      · rfl
      · refine (putOn_comm fun c hcc => ?_)
        intro hcc2
        exact hc (i + 1 + m) (by omega) c hcc2 hcc
  have := key (n - (i + 1)) (by omega)
  rwa [show i + 1 + (n - (i + 1)) = n by omega] at this
/-- weights -/
theorem weightUp_set {wt : Quad → Int} {l : List Quad} {s : List Int} {i : Nat} {a : Int} (hi : i < s.length) (n : Nat) (hin : i < n) :
    weightUp wt l (s.set i a) n = weightUp wt l s n - (if s[i]?.getD 0 = -1 then 0 else wt (l[i]?.getD q0)) + (if a = -1 then 0 else wt (l[i]?.getD q0)) := by
  have key : ∀ m, weightUp wt l (s.set i a) (i + 1 + m) = weightUp wt l s (i + 1 + m) - (if s[i]?.getD 0 = -1 then 0 else wt (l[i]?.getD q0)) + (if a = -1 then 0 else wt (l[i]?.getD q0)) := by
    intro m
    induction m with
    | zero => rw [Nat.add_zero, weightUp, weightUp, set_same hi, weightUp_congr (t := s) (fun j hj => set_other (by omega))]; omega
    | succ m ih => rw [show i + 1 + (m + 1) = (i + 1 + m) + 1 by omega, weightUp, weightUp, ih, set_other (by omega)]; omega
  have := key (n - (i + 1))
  rwa [show i + 1 + (n - (i + 1)) = n by omega] at this
theorem weightUp_sum_le {wt : Quad → Int} {l : List Quad} {s : List Int} (hw : ∀ i, i < l.length → 0 ≤ wt (l[i]?.getD q0)) : ∀ k, k ≤ l.length → 0 ≤ weightUp wt l s k ∧ weightUp wt l s k ≤ weightUp wt l [] k := by
  intro k
  induction k with
  | zero => intro _; simp [weightUp]
  | succ k ih =>
    intro hk
    obtain ⟨h1, h2⟩ := ih (by omega)
    have h3 := hw k (by omega)
    rw [weightUp, weightUp]
    have : (if ([] : List Int)[k]?.getD 0 = -1 then 0 else wt (l[k]?.getD q0)) = wt (l[k]?.getD q0) := by simp
    rw [this]
    split <;> omega
/-- the best setting is the first one of its weight -/
def ordS (a : Int) : Int := if a = -1 then 4 else a
theorem sides5_after {us bs : List Int} {a b : Int} (h : sides5 = us ++ a :: bs) (hb : b ∈ bs) : ordS a < ordS b := by
  have hp : sides5.Pairwise (fun a b => ordS a < ordS b) := by decide
  rw [h, List.pairwise_append] at hp
  exact (List.pairwise_cons.1 hp.2.1).1 b hb
theorem best_first (wt : Quad → Int) (l : List Quad) (K : Nat) : ∀ n k M pre, pre.length = k → k + n = K → ∀ s ∈ each l n k M pre, weightUp wt l s K = weightUp wt l pre k + bst wt l n k M →
    s = pre ++ bestOf wt l n k M ∨ ∃ j, k ≤ j ∧ j < K ∧ (∀ i, i < j → s[i]?.getD 0 = (pre ++ bestOf wt l n k M)[i]?.getD 0) ∧ ordS ((pre ++ bestOf wt l n k M)[j]?.getD 0) < ordS (s[j]?.getD 0) := by
  intro n
  induction n with
  | zero =>
    intro k M pre hk hK s hs _
    simp only [each, List.mem_singleton] at hs
    subst hs; left; simp [bestOf]
  | succ n ih =>
    intro k M pre hk hK s hs hw
    rw [each_succ, List.mem_flatMap] at hs
    obtain ⟨a, ha, hs⟩ := hs
    rcases Decidable.em (¬ canDo M (l[k]?.getD q0) a) with hc | hc
    · rw [if_neg hc] at hs; simp at hs
    have hc := Decidable.of_not_not hc
    rw [if_pos hc] at hs
    have h1 := each_le wt l K n (k + 1) _ (pre ++ [a]) (by simp [hk]) (by omega) s hs
    rw [weightUp_snoc hk] at h1
    obtain ⟨hm1, z, hz, hzc, hzv⟩ := bst_max wt l n k M
    have h2 := hm1 a ha hc
    have hva : valOf wt l n k M a = bst wt l (n + 1) k M := by rw [valOf] at h2 ⊢; omega
    obtain ⟨us, bs, a0, g1, g2, g3, g4⟩ : ∃ us bs a, sides5 = us ++ a :: bs ∧ canDo M (l[k]?.getD q0) a ∧ valOf wt l n k M a = bst wt l (n + 1) k M ∧ ∀ b ∈ us, canDo M (l[k]?.getD q0) b → valOf wt l n k M b < valOf wt l n k M a := by
      rcases fold_blocks (c := fun a => canDo M (l[k]?.getD q0) a) (v := fun a => valOf wt l n k M a) (t := fun _ => []) sides5 (bst wt l (n + 1) k M - 1) [] with ⟨_, h2⟩ | ⟨us, bs, a, h1, h2, h3, h4, h5, h6⟩
      · have := h2 z hz hzc; omega
      · refine ⟨us, bs, a, h1, h2, ?_, h5⟩
        have := hm1 a (by rw [h1]; simp) h2
        omega
    have hch := chosen_first g1 g2 g3 g4
    have hsk : s.take (k + 1) = pre ++ [a] ∧ k < s.length := by
      have : ∀ n k M pre, pre.length = k → ∀ s ∈ each l n k M pre, s.take k = pre ∧ s.length = k + n := by
        intro n
        induction n with
        | zero => intro k M pre hk s hs; simp only [each, List.mem_singleton] at hs; subst hs; exact ⟨by rw [← hk]; exact List.take_length, hk⟩
        | succ n ih2 =>
          intro k M pre hk s hs
          rw [each_succ, List.mem_flatMap] at hs
          obtain ⟨a, ha, hs⟩ := hs
          split at hs
          · obtain ⟨e1, e2⟩ := ih2 (k + 1) _ (pre ++ [a]) (by simp [hk]) s hs
            refine ⟨?_, by omega⟩
            have := congrArg (List.take k) e1
            rw [List.take_take, List.take_append_of_le_length (by omega), ← hk, List.take_length] at this
            rw [← hk]; simpa using this
          · simp at hs
      obtain ⟨e1, e2⟩ := this n (k + 1) _ (pre ++ [a]) (by simp [hk]) s hs
      exact ⟨e1, by omega⟩
    have hsget : ∀ i, i < k → s[i]?.getD 0 = pre[i]?.getD 0 := by
      intro i hi
      have := congrArg (fun x : List Int => x[i]?.getD 0) hsk.1
      rwa [List.getElem?_take_of_lt (by omega), List.getElem?_append_left (by omega)] at this
    have hsa : s[k]?.getD 0 = a := by
      have := congrArg (fun x : List Int => x[k]?.getD 0) hsk.1
      rw [List.getElem?_take_of_lt (by omega)] at this
      rw [this, ← hk]; simp
    rw [bestOf, hch]
    by_cases e : a = a0
    · subst e
      have := ih (k + 1) _ (pre ++ [a]) (by simp [hk]) (by omega) s hs (by rw [weightUp_snoc hk, hw, ← hva, valOf]; omega)
      rw [List.append_assoc, List.singleton_append] at this
      rcases this with h | ⟨j, j1, j2, j3, j4⟩
      · exact .inl h
      · exact .inr ⟨j, by omega, j2, j3, j4⟩
    · right
      have haft : a ∈ bs := by
        rw [g1] at ha
        rcases List.mem_append.1 ha with h | h
        · have := g4 a h hc; omega
        · exact (List.mem_cons.1 h).resolve_left e
      refine ⟨k, Nat.le_refl _, by omega, fun i hi => ?_, ?_⟩
      · rw [hsget i hi, List.getElem?_append_left (by omega)]
      · rw [hsa]
        have : (pre ++ a0 :: bestOf wt l n (k + 1) (next M (l[k]?.getD q0) a0 ((k : Int) + 1)))[k]?.getD 0 = a0 := by
          rw [← hk]; simp
        rw [this]
        exact sides5_after g1 haft
end Go.Proofs.Ytbpcjdhbbighgaa
