/-
  The draws of grids: rows that are being built, and l91Rough. Conditions: the reader has picked fewer than a million times.
-/
import Derived.Test.YtdelcebkpdnnjaaCopy
import Derived.Test.YtdelcebkpdnnjaaRd
import Derived.Deep.AppendLies
namespace Go.Proofs.Ytdelcebkpdnnjaa
open Go.RowKit Go.Deep

theorem pick_i (R P : Nat) (m : Int) (w : World) (h : Rd w R P) (hP : P ≤ 1000000) (h1 : 1 ≤ m) (h2 : m ≤ 1000000) :
    Calls Try.prog 77 #[.pointer (some ⟨R, 0, none⟩), .int .i64 m] w fun e w' => ∃ k : Int, e = .returned (.int .i64 k) ∧ 0 ≤ k ∧ k < m ∧ Rd w' R (P + 1) ∧ Touch R (R + 1) w w' := by
  obtain ⟨n, rfl⟩ : ∃ n : Nat, m = (n : Int) := ⟨m.toNat, by omega⟩
  refine (pick_any R P n w h (by omega) (by omega) (by omega)).mono fun e w' hp => ?_
  obtain ⟨k, he, hk, hr, ht⟩ := hp
  exact ⟨(k : Int), he, by omega, by omega, hr, ht⟩
theorem Touch.then {lo hi : Nat} {a b c : World} (h : Touch lo hi a b) (k : Below a.heap.size b c) : Touch lo hi a c :=
  ⟨k.os.trans h.os, k.tape.trans h.tape, k.output.trans h.output, Nat.le_trans h.size k.size, fun i hi' hn => (k.block i hi').trans (h.block i hi' hn)⟩
theorem Touch.grown {R : Nat} {a b c : World} {row : Option Nat} (h : Touch R (R + 1) a b) (hg : b.grownBy c row) (hr : ∀ k, row = some k → a.heap.size ≤ k) : Touch R (R + 1) a c :=
  ⟨hg.os.trans h.os, hg.tape.trans h.tape, hg.output.trans h.output, Nat.le_trans h.size hg.size, fun k hk hn => (hg.block k (Nat.lt_of_lt_of_le hk h.size) (fun e => by have := hr k e.symm; omega)).trans (h.block k hk hn)⟩
theorem ownsRow_pick {w w' : World} {R base n size : Nat} {e : TypeId} {v : Value} {xs : List Value} (h : w.ownsRow base e size v n xs) (ht : Touch R (R + 1) w w') (hR : R < base) : w'.ownsRow base e size v n xs :=
  h.kept (row := some R) ⟨ht.os, ht.tape, ht.output, ht.size, fun k hk hne => ht.block k hk (fun hh => hne (by rw [show k = R by omega]))⟩ (by
    cases hb : v.ownBlock with
    | none => exact .inl rfl
    | some g => right; intro e; have hg := (h.lt g hb).1; simp at e; omega)
/-- a row that lies below M is as it was behind an append to one beyond -/
theorem ownsRow_far {w w' : World} {base n size M : Nat} {e : TypeId} {v : Value} {xs : List Value} {row : Option Nat} (h : w.ownsRow base e size v n xs) (hg : w.grownBy w' row) (hv : ∀ b, v.ownBlock = some b → b < M) (hrow : ∀ b, row = some b → M ≤ b) : w'.ownsRow base e size v n xs :=
  h.kept hg (by
    cases hb : v.ownBlock with
    | none => exact .inl rfl
    | some g => right; intro e; have h1 := hv g hb; have h2 := hrow g e.symm; omega)
/-- a row of ints is as it was behind an append to a row of slices -/
theorem ownsRow_tag {w w' : World} {lo base n m : Nat} {v u : Value} {xs zs : List Value} (h : w.ownsRow base 3 1 v n xs) (hu : w.ownsRow lo 27 1 u m zs) (hg : w.grownBy w' u.ownBlock) : w'.ownsRow base 3 1 v n xs :=
  h.kept hg (by
    rcases h.2 with ⟨rfl, _⟩ | ⟨g, cap, cur, rfl, _, hh, _⟩
    · exact .inl rfl
    · right
      intro e
      rcases hu.2 with ⟨rfl, _⟩ | ⟨g', cap', cur', rfl, _, hh', _⟩
      · cases e
      · have hgg : g = g' := by simpa [Value.ownBlock] using e
        rw [hgg, hh'] at hh
        have : (27 : TypeId) = 3 := by injection hh with h1; injection h1
        exact absurd this (by decide))
theorem rowO_own {lo : Nat} {w : World} {v : Value} {l : List Int} (h : w.ownsRow lo 3 1 v l.length (l.map (Value.int .i64))) : RowO lo w.heap.size (v.ownBlock.getD 0) w v l := by
  obtain ⟨h1, h2⟩ := h
  rcases h2 with ⟨rfl, hn⟩ | ⟨g, cap, cur, rfl, hg, hh, hc, hm, hs, ht⟩
  · obtain rfl : l = [] := List.length_eq_zero_iff.1 hn
    exact .inl ⟨rfl, none, 0, rfl, by omega⟩
  · have hlt : g < w.heap.size := (Array.getElem?_eq_some_iff.1 hh).1
    unfold maxLen at hm
    refine .inr ⟨cap, cap, fun j => cur[j]?.getD (.int .i64 0), rfl, hc, hm, hg, hlt, ⟨cur, hh, by omega, fun i hi => ?_⟩, by omega, fun j hj => ?_⟩
    · simp [Array.getElem?_eq_getElem (show i < cur.size by omega)]
    · have e : (cur.toList.take (l.length * 1))[j]? = (l.map (Value.int .i64))[j]? := by rw [ht]
      rw [List.getElem?_take, if_pos (by omega)] at e
      have e2 : cur[j]? = some (Value.int .i64 (l[j]?.getD 0)) := by
        rw [← Array.getElem?_toList, e]; simp [hj]
      show cur[j]?.getD _ = _
      rw [e2]; rfl

/-- rows that the call made, each an owned row of its own block below M -/
def RowsW (lo M : Nat) (w : World) (xs : List Value) (g : Rows) : Prop :=
  xs.length = g.length ∧ (∀ j, j < g.length → w.ownsRow lo 3 1 (xs[j]?.getD undef) (g[j]?.getD []).length ((g[j]?.getD []).map (Value.int .i64)) ∧ ∀ b, (xs[j]?.getD undef).ownBlock = some b → b < M) ∧
  ∀ i j, i < g.length → j < g.length → i ≠ j → (xs[i]?.getD undef).ownBlock = none ∨ (xs[i]?.getD undef).ownBlock ≠ (xs[j]?.getD undef).ownBlock
theorem RowsW.pick {lo M R : Nat} {w w' : World} {xs : List Value} {g : Rows} (h : RowsW lo M w xs g) (ht : Touch R (R + 1) w w') (hR : R < lo) : RowsW lo M w' xs g :=
  ⟨h.1, fun j hj => ⟨ownsRow_pick (h.2.1 j hj).1 ht hR, (h.2.1 j hj).2⟩, h.2.2⟩
theorem RowsW.far {lo M : Nat} {w w' : World} {xs : List Value} {g : Rows} {row : Option Nat} (h : RowsW lo M w xs g) (hg : w.grownBy w' row) (hrow : ∀ b, row = some b → M ≤ b) : RowsW lo M w' xs g :=
  ⟨h.1, fun j hj => ⟨ownsRow_far (h.2.1 j hj).1 hg (h.2.1 j hj).2 hrow, (h.2.1 j hj).2⟩, h.2.2⟩
theorem RowsW.below {lo M : Nat} {w w' : World} {xs : List Value} {g : Rows} (h : RowsW lo M w xs g) (hb : Below w.heap.size w w') : RowsW lo M w' xs g :=
  ⟨h.1, fun j hj => ⟨ownsRow_bel (h.2.1 j hj).1 hb, (h.2.1 j hj).2⟩, h.2.2⟩
theorem RowsW.mono {lo M M' : Nat} {w : World} {xs : List Value} {g : Rows} (h : RowsW lo M w xs g) (hM : M ≤ M') : RowsW lo M' w xs g :=
  ⟨h.1, fun j hj => ⟨(h.2.1 j hj).1, fun b hb => Nat.lt_of_lt_of_le ((h.2.1 j hj).2 b hb) hM⟩, h.2.2⟩
theorem getR_app {g : Rows} {l : List Int} {j : Nat} : (g ++ [l])[j]?.getD [] = if j < g.length then g[j]?.getD [] else if j = g.length then l else [] := by
  by_cases e : j < g.length
  · rw [if_pos e, List.getElem?_append_left e]
  · rw [if_neg e, List.getElem?_append_right (by omega)]
    by_cases e2 : j = g.length
    · subst e2; simp
    · rw [if_neg e2, List.getElem?_eq_none (by simp; omega)]; rfl
theorem getV_app {xs : List Value} {v : Value} {j : Nat} (h : j < xs.length + 1) : (xs ++ [v])[j]?.getD undef = if j < xs.length then xs[j]?.getD undef else v := by
  by_cases e : j < xs.length
  · rw [if_pos e, List.getElem?_append_left e]
  · rw [if_neg e, List.getElem?_append_right (by omega), show j - xs.length = 0 by omega]; rfl
/-- one row more: its block lies in [M, M') -/
theorem RowsW.snoc {lo M M' : Nat} {w w' : World} {xs zs : List Value} {g : Rows} {v u : Value} {l : List Int} {m : Nat} (h : RowsW lo M w xs g) (hl : w.ownsRow lo 3 1 v l.length (l.map (Value.int .i64))) (hv : ∀ b, v.ownBlock = some b → M ≤ b ∧ b < M') (hM : M ≤ M')
    (hu : w.ownsRow lo 27 1 u m zs) (hg : w.grownBy w' u.ownBlock) : RowsW lo M' w' (xs ++ [v]) (g ++ [l]) := by
  obtain ⟨h1, h2, h3⟩ := h
  refine ⟨by simp [h1], fun j hj => ?_, fun i j hi hj hne => ?_⟩
  · rw [List.length_append, List.length_cons, List.length_nil] at hj
    rw [getV_app (by omega), getR_app, h1]
    by_cases e : j < g.length
    · rw [if_pos e, if_pos e]
      exact ⟨ownsRow_tag (h2 j e).1 hu hg, fun b hb => by have := (h2 j e).2 b hb; omega⟩
    · rw [if_neg e, if_neg e, if_pos (by omega)]
      exact ⟨ownsRow_tag hl hu hg, fun b hb => (hv b hb).2⟩
  · rw [List.length_append, List.length_cons, List.length_nil] at hi hj
    rw [getV_app (by omega), getV_app (by omega), h1]
    have new : ∀ i, i < g.length → ∀ b, (xs[i]?.getD undef).ownBlock = some b → v.ownBlock ≠ some b := fun i hi b hb hv' => by
      have := (h2 i hi).2 b hb
      have := (hv b hv').1
      omega
    by_cases ei : i < g.length
    · rw [if_pos ei]
      by_cases ej : j < g.length
      · rw [if_pos ej]; exact h3 i j ei ej hne
      · rw [if_neg ej]
        cases hb : (xs[i]?.getD undef).ownBlock with
        | none => exact .inl rfl
        | some b => exact .inr fun e => new i ei b hb e.symm
    · rw [if_neg ei, if_pos (by omega)]
      cases hb : v.ownBlock with
      | none => exact .inl rfl
      | some b =>
        right
        intro e
        exact new j (by omega) b e.symm hb
theorem RowsW.ownG {lo M hi : Nat} {w : World} {xs : List Value} {g : Rows} {v : Value} (h : RowsW lo M w xs g) (ho : w.ownsRow lo 27 1 v g.length xs) (hhi : w.heap.size ≤ hi) : OwnG lo hi w v g := by
  obtain ⟨h1, h2, h3⟩ := h
  refine ownG_of_rows (Bs := fun j => (xs[j]?.getD undef).ownBlock.getD 0) ho ⟨h1, fun j hj => rowO_own (h2 j hj).1, fun i j hi hj hne e1 e2 => ?_⟩ hhi
  have f1 := (h2 i hi).1.form (by cases hh : (g[i]?.getD []) with
    | nil => exact absurd hh e1
    | cons _ _ => simp)
  have f2 := (h2 j hj).1.form (by cases hh : (g[j]?.getD []) with
    | nil => exact absurd hh e2
    | cons _ _ => simp)
  obtain ⟨b1, c1, q1, _⟩ := f1
  obtain ⟨b2, c2, q2, _⟩ := f2
  have h3' := h3 i j hi hj hne
  dsimp only
  rw [q1, q2] at h3' ⊢
  simp only [Value.ownBlock] at h3' ⊢
  rcases h3' with h | h
  · cases h
  · simpa using h
theorem ownsRow_lower {w : World} {base base' n size : Nat} {e : TypeId} {v : Value} {xs : List Value} (h : w.ownsRow base e size v n xs) (hb : base' ≤ base) : w.ownsRow base' e size v n xs := by
  refine ⟨h.1, ?_⟩
  rcases h.2 with h2 | ⟨g, cap, cur, hv, hg, r⟩
  · exact .inl h2
  · exact .inr ⟨g, cap, cur, hv, by omega, r⟩
theorem ints_one {w : World} {x : Int} {t : TypeId} : Ints (w.alloc (.cells #[.int .i64 x] t)) (.slice (some ⟨w.heap.size, 0, none⟩) 1 1) [x] := by
  refine ⟨_, 1, rfl, Nat.le_refl _, by omega, fun _ => ⟨w.heap.size, 0, rfl, by simp, fun j hj => ?_⟩⟩
  have : j = 0 := by simp at hj; omega
  subst this
  simp
end Go.Proofs.Ytdelcebkpdnnjaa
