/-
  append of ints to a slice of ints, and of one slice to a slice of slices, both made by the call. Conditions: lengths up to 2^40.
-/
import Derived.Test.YtdelcebkpdnnjaaOwnG
import Derived.Deep.RegionLaw
namespace Go.Proofs.Ytdelcebkpdnnjaa
open Go.RowKit Go.Deep

/-- what an owned row (the library's word) is in this seat's words -/
theorem own_of_ownsRow {B hi : Nat} {t : TypeId} {w : World} {v : Value} {l : List Int} (h : w.ownsRow B t 1 v l.length (l.map (Value.int .i64))) (hhi : w.heap.size ≤ hi) : Own B hi w v l := by
  obtain ⟨h1, h2⟩ := h
  rcases h2 with ⟨rfl, hn⟩ | ⟨g, cap, cur, rfl, hg, hh, hc, hm, hs, ht⟩
  · obtain rfl : l = [] := List.length_eq_zero_iff.1 hn
    exact .inl ⟨rfl, none, 0, rfl, by omega⟩
  · have hlt : g < w.heap.size := (Array.getElem?_eq_some_iff.1 hh).1
    unfold maxLen at hm
    refine .inr ⟨g, 0, cap, t, cap, fun j => cur[j]?.getD (.int .i64 0), rfl, hc, hm, hg, by omega, ⟨cur, hh, by omega, fun i hi => ?_⟩, by omega, fun j hj => ?_⟩
    · simp [Array.getElem?_eq_getElem (show i < cur.size by omega)]
    · rw [Nat.zero_add]
      have e : (cur.toList.take (l.length * 1))[j]? = (l.map (Value.int .i64))[j]? := by rw [ht]
      rw [List.getElem?_take, if_pos (by omega)] at e
      have e2 : cur[j]? = some (Value.int .i64 (l[j]?.getD 0)) := by
        rw [← Array.getElem?_toList, e]; simp [hj]
      show cur[j]?.getD _ = _
      rw [e2]; rfl

theorem run_app_none {P : Program} {w : World} (base : Nat) (t ty e : TypeId) (i : TypeInfo) (size : Nat) (ht : P.underlying t = some (.slice e)) (hi : P.info? e = some i)
    (v : Value) (n : Nat) (xs : List Value) (hown : w.ownsRow base e size v n xs) (a : Option Addr) (c : Nat) :
    (Builtin.append_ #[t, t] ty #[v, .slice a 0 c]).run P w = .ok v w := by
  rcases hown.2 with ⟨rfl, rfl⟩ | ⟨g, cap, cur, rfl, _, _, hnc, _⟩
  · cases a <;> simp [Builtin.append_, run_underlying ht, sizeOf, typeInfo, hi, Builtin.lenOf, Builtin.firstCells, loadCells, loadCellsFrom]
  · cases a <;> simp [Builtin.append_, run_underlying ht, sizeOf, typeInfo, hi, Builtin.lenOf, Builtin.firstCells, hnc, storeCells, loadCells, loadCellsFrom]

theorem wp_app_ints {o : Oper} {a : Act} {K : Act → World → Prop} {Q : Exit → Act → World → Prop} (wr : World) (s x : Operand)
    (ho : o.op = .call { callee := .builtin .append, args := #[s, x], argTypes := #[27, 27] }) (base : Nat) (v : Value) (l : List Int) (vx : Value) (l2 : List Int)
    (hown : wr.ownsRow base 3 1 v l.length (l.map (Value.int .i64))) (hq : Ints wr vx l2) (hs : a.eval s = v) (hx : a.eval x = vx) (hlen : l.length + l2.length ≤ 1099511627776) (hb : base ≤ wr.heap.size)
    (h : ∀ v' w', w'.ownsRow base 3 1 v' (l ++ l2).length ((l ++ l2).map (Value.int .i64)) → wr.grownBy w' v.ownBlock → K (a.put o.dst v') w') : o.wp Try.prog a wr K Q := by
  obtain ⟨i0, hi, hz0, hz1, hz2⟩ := info_parts info_int
  obtain ⟨ax, cx, rfl, hq1, hq2, hq3⟩ := hq
  by_cases h2 : 0 < l2.length
  · obtain ⟨b, off, rfl, hbl, hcell⟩ := hq3 h2
    refine wp_append_own wr s x 27 ho base 3 i0 _ 1 8 Try.underlying27 hi hz0 hz1 hz2 rfl (by decide) v l.length _ hs hown ⟨b, off, none⟩ l2.length cx (l2.map (Value.int .i64)) hx (by simp)
      (fun j u hu => ?_) (fun u hu => ?_) (by unfold maxLen; omega) (by omega) hb ?_
    · rw [List.getElem?_map] at hu
      cases hj : l2[j]? with
      | none => rw [hj] at hu; cases hu
      | some z =>
        rw [hj] at hu
        have hlt := (List.getElem?_eq_some_iff.1 hj).1
        have := hcell j hlt
        rw [hj] at this
        rw [show (⟨b, off, none⟩ : Addr).add j = ⟨b, off + j, none⟩ by unfold Addr.add; split <;> simp_all]
        rw [this, ← hu]; rfl
    · obtain ⟨z, _, rfl⟩ := List.mem_map.1 hu; rfl
    · intro v' w' r1 r2 _
      exact h v' w' (by rw [List.length_append, List.map_append]; exact r1) r2
  · obtain rfl : l2 = [] := List.length_eq_zero_iff.1 (by omega)
    have hrun := run_app_none (P := Try.prog) (w := wr) base 27 o.type 3 i0 1 Try.underlying27 hi v l.length _ hown ax cx
    have hx' : a.eval x = .slice ax 0 cx := hx
    have hk := h v wr (by rw [List.append_nil]; exact hown) ⟨rfl, rfl, rfl, Nat.le_refl _, fun _ _ _ => rfl⟩
    unfold Oper.wp
    simp [execOp, ho, resolve, invoke, builtin, hs, hx', hrun, Result.andThen]
    exact hk
theorem app_ints {ops : Array Oper} {rest : List Oper} {o : Oper} {a : Act} {Q : Exit → Act → World → Prop} (wr : World) (hgd : o.guard = none) (s x : Operand)
    (ho : o.op = .call { callee := .builtin .append, args := #[s, x], argTypes := #[27, 27] }) (base : Nat) (v : Value) (l : List Int) (vx : Value) (l2 : List Int)
    (hown : wr.ownsRow base 3 1 v l.length (l.map (Value.int .i64))) (hq : Ints wr vx l2) (hs : a.eval s = v) (hx : a.eval x = vx) (hlen : l.length + l2.length ≤ 1099511627776) (hb : base ≤ wr.heap.size)
    (h : ∀ v' w', w'.ownsRow base 3 1 v' (l ++ l2).length ((l ++ l2).map (Value.int .i64)) → wr.grownBy w' v.ownBlock → wpList Try.prog ops Q rest (a.put o.dst v') w') : wpList Try.prog ops Q (o :: rest) a wr :=
  wpList_plain hgd fun _ hK => wp_app_ints wr s x ho base v l vx l2 hown hq hs hx hlen hb fun v' w' h1 h2 => hK _ _ (h v' w' h1 h2)
theorem step_app_ints {ops : Array Oper} {o : Oper} {a : Act} {K : Act → World → Prop} {Q : Exit → Act → World → Prop} {E : Prop} (wr : World) (hgd : o.guard = none) (s x : Operand)
    (ho : o.op = .call { callee := .builtin .append, args := #[s, x], argTypes := #[27, 27] }) (base : Nat) (v : Value) (l : List Int) (vx : Value) (l2 : List Int)
    (hown : wr.ownsRow base 3 1 v l.length (l.map (Value.int .i64))) (hq : Ints wr vx l2) (hs : a.eval s = v) (hx : a.eval x = vx) (hlen : l.length + l2.length ≤ 1099511627776) (hb : base ≤ wr.heap.size)
    (h : ∀ v' w', w'.ownsRow base 3 1 v' (l ++ l2).length ((l ++ l2).map (Value.int .i64)) → wr.grownBy w' v.ownBlock → K (a.put o.dst v') w') :
    if Region.wanted o (yielded ops a.tmps) = true then Oper.wp Try.prog o a wr K Q else E := by
  have hw : Region.wanted o (yielded ops a.tmps) = true := by simp [Region.wanted, hgd]
  rw [if_pos hw]
  exact wp_app_ints wr s x ho base v l vx l2 hown hq hs hx hlen hb h

theorem wp_app_row {o : Oper} {a : Act} {K : Act → World → Prop} {Q : Exit → Act → World → Prop} (wr : World) (s x : Operand)
    (ho : o.op = .call { callee := .builtin .append, args := #[s, x], argTypes := #[23, 23] }) (base : Nat) (v : Value) (n : Nat) (xs : List Value) (A : Nat) (ya : Option Addr) (yn yc : Nat)
    (hown : wr.ownsRow base 27 1 v n xs) (hc : wr.cell? ⟨A, 0, none⟩ = some (.slice ya yn yc)) (hs : a.eval s = v) (hx : a.eval x = .slice (some ⟨A, 0, none⟩) 1 1) (hlen : n ≤ 1000000) (hb : base ≤ wr.heap.size)
    (h : ∀ v' w', w'.ownsRow base 27 1 v' (n + 1) (xs ++ [.slice ya yn yc]) → wr.grownBy w' v.ownBlock → K (a.put o.dst v') w') : o.wp Try.prog a wr K Q := by
  obtain ⟨i0, hi, hz0, hz1, hz2⟩ := info_parts info_islice
  refine wp_append_own wr s x 23 ho base 27 i0 _ 1 24 Try.underlying23 hi hz0 hz1 hz2 rfl (by decide) v n _ hs hown ⟨A, 0, none⟩ 1 1 [.slice ya yn yc] hx rfl
      (fun j u hu => ?_) (fun u hu => by simp at hu; subst hu; rfl) (by unfold maxLen; omega) (by omega) hb (fun v' w' r1 r2 _ => h v' w' r1 r2)
  match j, hu with
  | 0, hu => simp at hu; subst hu; simpa [Addr.add] using hc
theorem app_row {ops : Array Oper} {rest : List Oper} {o : Oper} {a : Act} {Q : Exit → Act → World → Prop} (wr : World) (hgd : o.guard = none) (s x : Operand)
    (ho : o.op = .call { callee := .builtin .append, args := #[s, x], argTypes := #[23, 23] }) (base : Nat) (v : Value) (n : Nat) (xs : List Value) (A : Nat) (ya : Option Addr) (yn yc : Nat)
    (hown : wr.ownsRow base 27 1 v n xs) (hc : wr.cell? ⟨A, 0, none⟩ = some (.slice ya yn yc)) (hs : a.eval s = v) (hx : a.eval x = .slice (some ⟨A, 0, none⟩) 1 1) (hlen : n ≤ 1000000) (hb : base ≤ wr.heap.size)
    (h : ∀ v' w', w'.ownsRow base 27 1 v' (n + 1) (xs ++ [.slice ya yn yc]) → wr.grownBy w' v.ownBlock → wpList Try.prog ops Q rest (a.put o.dst v') w') : wpList Try.prog ops Q (o :: rest) a wr :=
  wpList_plain hgd fun _ hK => wp_app_row wr s x ho base v n xs A ya yn yc hown hc hs hx hlen hb fun v' w' h1 h2 => hK _ _ (h v' w' h1 h2)
theorem step_app_row {ops : Array Oper} {o : Oper} {a : Act} {K : Act → World → Prop} {Q : Exit → Act → World → Prop} {E : Prop} (wr : World) (hgd : o.guard = none) (s x : Operand)
    (ho : o.op = .call { callee := .builtin .append, args := #[s, x], argTypes := #[23, 23] }) (base : Nat) (v : Value) (n : Nat) (xs : List Value) (A : Nat) (ya : Option Addr) (yn yc : Nat)
    (hown : wr.ownsRow base 27 1 v n xs) (hc : wr.cell? ⟨A, 0, none⟩ = some (.slice ya yn yc)) (hs : a.eval s = v) (hx : a.eval x = .slice (some ⟨A, 0, none⟩) 1 1) (hlen : n ≤ 1000000) (hb : base ≤ wr.heap.size)
    (h : ∀ v' w', w'.ownsRow base 27 1 v' (n + 1) (xs ++ [.slice ya yn yc]) → wr.grownBy w' v.ownBlock → K (a.put o.dst v') w') :
    if Region.wanted o (yielded ops a.tmps) = true then Oper.wp Try.prog o a wr K Q else E := by
  have hw : Region.wanted o (yielded ops a.tmps) = true := by simp [Region.wanted, hgd]
  rw [if_pos hw]
  exact wp_app_row wr s x ho base v n xs A ya yn yc hown hc hs hx hlen hb h

/-- a row of ints whose block is known: B, of ints -/
def RowO (lo hi B : Nat) (w : World) (x : Value) (l : List Int) : Prop :=
  (l = [] ∧ ∃ a cap, x = .slice a 0 cap ∧ cap ≤ 9223372036854775807) ∨
  ∃ cap n f, x = .slice (some ⟨B, 0, none⟩) l.length cap ∧ l.length ≤ cap ∧ cap ≤ 9223372036854775807 ∧ lo ≤ B ∧ B < hi ∧ w.rowIs B 3 n f ∧ l.length ≤ n ∧ ∀ j, j < l.length → f j = .int .i64 (l[j]?.getD 0)
theorem RowO.kept {lo hi B : Nat} {w w' : World} {x : Value} {l : List Int} (h : RowO lo hi B w x l) (hk : ∀ c t, w.heap[B]? = some (.cells c t (0, 0)) → t = 3 → w'.heap[B]? = w.heap[B]?) : RowO lo hi B w' x l := by
  rcases h with h | ⟨cap, n, f, rfl, h1, h2, h3, h4, h5, h6, h7⟩
  · exact .inl h
  · refine .inr ⟨cap, n, f, rfl, h1, h2, h3, h4, h5.of_block ?_, h6, h7⟩
    obtain ⟨c, hc, _⟩ := h5
    exact hk c _ hc rfl
theorem RowO.mono {lo hi hi' B : Nat} {w : World} {x : Value} {l : List Int} (h : RowO lo hi B w x l) (hh : hi ≤ hi') : RowO lo hi' B w x l := by
  rcases h with h | ⟨cap, n, f, rfl, h1, h2, h3, h4, h5, h6, h7⟩
  · exact .inl h
  · exact .inr ⟨cap, n, f, rfl, h1, h2, h3, by omega, h5, h6, h7⟩
/-- a row that was just appended to -/
theorem rowO_new {lo : Nat} {w : World} {v : Value} {l : List Int} (h : w.ownsRow lo 3 1 v l.length (l.map (Value.int .i64))) : ∃ B, RowO lo w.heap.size B w v l ∧ (l ≠ [] → lo ≤ B) := by
  obtain ⟨h1, h2⟩ := h
  rcases h2 with ⟨rfl, hn⟩ | ⟨g, cap, cur, rfl, hg, hh, hc, hm, hs, ht⟩
  · obtain rfl : l = [] := List.length_eq_zero_iff.1 hn
    exact ⟨0, .inl ⟨rfl, none, 0, rfl, by omega⟩, fun h => absurd rfl h⟩
  · have hlt : g < w.heap.size := (Array.getElem?_eq_some_iff.1 hh).1
    unfold maxLen at hm
    refine ⟨g, .inr ⟨cap, cap, fun j => cur[j]?.getD (.int .i64 0), rfl, hc, hm, hg, by omega, ⟨cur, hh, by omega, fun i hi => ?_⟩, by omega, fun j hj => ?_⟩, fun _ => hg⟩
    · simp [Array.getElem?_eq_getElem (show i < cur.size by omega)]
    · have e : (cur.toList.take (l.length * 1))[j]? = (l.map (Value.int .i64))[j]? := by rw [ht]
      rw [List.getElem?_take, if_pos (by omega)] at e
      have e2 : cur[j]? = some (Value.int .i64 (l[j]?.getD 0)) := by
        rw [← Array.getElem?_toList, e]; simp [hj]
      show cur[j]?.getD _ = _
      rw [e2]; rfl

/-- the rows of a slice of slices that the call made, told one by one -/
def RowsO (lo : Nat) (w : World) (Bs : Nat → Nat) (xs : List Value) (g : Rows) (k : Nat) : Prop :=
  xs.length = k ∧ (∀ j, j < k → RowO lo w.heap.size (Bs j) w (xs[j]?.getD undef) (g[j]?.getD [])) ∧
  ∀ i j, i < k → j < k → i ≠ j → g[i]?.getD [] ≠ [] → g[j]?.getD [] ≠ [] → Bs i ≠ Bs j
/-- one row more: it was made in blocks that are new, then its slice was appended -/
theorem RowsO.snoc {lo k B : Nat} {w w1 w2 w3 : World} {Bs : Nat → Nat} {xs : List Value} {g : Rows} {v v1 : Value} {n : Nat} {zs : List Value} (h : RowsO lo w Bs xs g k) (hb : Below w.heap.size w w1) (hlo : lo ≤ w.heap.size)
    (hr : RowO w.heap.size w1.heap.size B w1 v1 (g[k]?.getD [])) (hv : w2.ownsRow lo 27 1 v n zs) (hb2 : Below w1.heap.size w1 w2) (hg : w2.grownBy w3 v.ownBlock) :
    RowsO lo w3 (fun j => if j = k then B else Bs j) (xs ++ [v1]) g (k + 1) := by
  obtain ⟨h1, h2, h3⟩ := h
  have hz3 := hg.size
  have hz2 := hb2.size
  have hz1 := hb.size
  have keep : ∀ B', B' < w1.heap.size → ∀ c t, w1.heap[B']? = some (.cells c t (0, 0)) → t = 3 → w3.heap[B']? = w1.heap[B']? := by
    intro B' hB' c t hc ht
    have e2 := hb2.block B' hB'
    rw [← e2]
    refine hg.block B' (by omega) (fun e => ?_)
    rcases hv.2 with ⟨rfl, _⟩ | ⟨g', cap, cur, rfl, _, hh, _⟩
    · cases e
    · have : B' = g' := by simp [Value.ownBlock] at e; exact e
      rw [this] at e2 hc
      rw [e2, hc] at hh
      have : t = (27 : TypeId) := by injection hh with h1; injection h1
      rw [ht] at this
      exact absurd this (by decide)
  refine ⟨by simp [h1], fun j hj => ?_, fun i j hi hj hne e1 e2 => ?_⟩
  · by_cases e : j = k
    · subst e
      dsimp only
      rw [if_pos rfl, List.getElem?_append_right (by omega), h1, Nat.sub_self]
      rcases hr with h | ⟨cap, n', f, rfl, g1, g2, g3, g4, g5, g6, g7⟩
      · exact .inl h
      · obtain ⟨c, hc, hc'⟩ := g5
        exact .inr ⟨cap, n', f, rfl, g1, g2, by omega, by omega, World.rowIs.of_block ⟨c, hc, hc'⟩ (keep B g4 c _ hc rfl), g6, g7⟩
    · dsimp only
      rw [if_neg e, List.getElem?_append_left (by omega)]
      have hj' := h2 j (by omega)
      rcases hj' with h | ⟨cap, n', f, e0, g1, g2, g3, g4, g5, g6, g7⟩
      · exact .inl h
      · have g5' := g5.of_block (hb.block _ g4)
        obtain ⟨c, hc, hc'⟩ := g5'
        exact .inr ⟨cap, n', f, e0, g1, g2, g3, by omega, World.rowIs.of_block ⟨c, hc, hc'⟩ (keep (Bs j) (by omega) c _ hc rfl), g6, g7⟩
  · dsimp only
    have hnew : g[k]?.getD [] ≠ [] → w.heap.size ≤ B := fun hk => by
      rcases hr with ⟨h, _⟩ | ⟨cap, n', f, _, g1, g2, g3, _⟩
      · exact absurd h hk
      · exact g3
    have hold : ∀ j, j < k → g[j]?.getD [] ≠ [] → Bs j < w.heap.size := fun j hj he => by
      rcases h2 j hj with ⟨h, _⟩ | ⟨cap, n', f, _, g1, g2, g3, g4, _⟩
      · exact absurd h he
      · exact g4
    by_cases ei : i = k
    · rw [if_pos ei, if_neg (by omega)]
      have := hnew (by rw [← ei]; exact e1)
      have := hold j (by omega) e2
      omega
    · by_cases ej : j = k
      · rw [if_neg ei, if_pos ej]
        have := hnew (by rw [← ej]; exact e2)
        have := hold i (by omega) e1
        omega
      · rw [if_neg ei, if_neg ej]
        exact h3 i j (by omega) (by omega) hne e1 e2

theorem ownG_of_rows {lo hi : Nat} {w : World} {v : Value} {Bs : Nat → Nat} {xs : List Value} {g : Rows} (ho : w.ownsRow lo 27 1 v g.length xs) (hr : RowsO lo w Bs xs g g.length) (hhi : w.heap.size ≤ hi) : OwnG lo hi w v g := by
  obtain ⟨h1, h2⟩ := ho
  obtain ⟨r1, r2, r3⟩ := hr
  rcases h2 with ⟨rfl, hn⟩ | ⟨b, cap, cur, rfl, hg, hh, hc, hm, hs, ht⟩
  · obtain rfl : g = [] := List.length_eq_zero_iff.1 hn
    exact .inl ⟨rfl, none, 0, rfl, by omega⟩
  · have hlt : b < w.heap.size := (Array.getElem?_eq_some_iff.1 hh).1
    unfold maxLen at hm
    have hcur : ∀ j, j < g.length → cur[j]?.getD undef = xs[j]?.getD undef := by
      intro j hj
      have e : (cur.toList.take (g.length * 1))[j]? = xs[j]? := by rw [ht]
      rw [List.getElem?_take, if_pos (by omega), Array.getElem?_toList] at e
      rw [e]
    refine .inr ⟨b, 0, cap, 27, cap, fun j => cur[j]?.getD undef, fun j => if g[j]?.getD [] = [] then lo else Bs j, fun j => if g[j]?.getD [] = [] then lo else Bs j + 1, rfl, hc, hm, hg, by omega, ⟨cur, hh, by omega, fun i hi' => ?_⟩, by omega, fun j hj => ?_, fun i j hi' hj hne => ?_⟩
    · simp [Array.getElem?_eq_getElem (show i < cur.size by omega)]
    · have hrow := r2 j hj
      rw [Nat.zero_add]
      dsimp only
      rw [hcur j hj]
      by_cases e : g[j]?.getD [] = []
      · simp only [e, if_true]
        refine ⟨⟨Nat.le_refl _, by omega, .inr hg⟩, ?_⟩
        rcases hrow with ⟨_, h⟩ | ⟨c', n', f', h0, h1', h2', h3', h4', h5', h6', h7'⟩
        · exact .inl ⟨rfl, h⟩
        · exact .inl ⟨rfl, _, _, by rw [h0, e]; rfl, h2'⟩
      · simp only [e, if_false]
        rcases hrow with ⟨h, _⟩ | ⟨c', n', f', h0, h1', h2', h3', h4', h5', h6', h7'⟩
        · exact absurd h e
        · refine ⟨⟨h3', by omega, ?_⟩, .inr ⟨Bs j, 0, c', 3, n', f', h0, h1', h2', Nat.le_refl _, by omega, h5', by omega, fun i hi => by rw [Nat.zero_add]; exact h7' i hi⟩⟩
          have hne : b ≠ Bs j := by
            intro hbe
            obtain ⟨c2, hc2, _⟩ := h5'
            rw [← hbe, hh] at hc2
            have : (27 : TypeId) = 3 := by injection hc2 with h1; injection h1
            exact absurd this (by decide)
          omega
    · dsimp only
      have hri := r2 i hi'
      have hrj := r2 j hj
      have hij := r3 i j hi' hj hne
      by_cases e1 : g[i]?.getD [] = []
      · rw [if_pos e1]
        by_cases e2 : g[j]?.getD [] = []
        · rw [if_pos e2]; exact .inl (Nat.le_refl _)
        · rw [if_neg e2]
          rcases hrj with ⟨h, _⟩ | ⟨c', n', f', h0, h1', h2', h3', _⟩
          · exact absurd h e2
          · exact .inl h3'
      · rw [if_neg e1]
        by_cases e2 : g[j]?.getD [] = []
        · rw [if_pos e2, if_neg e1, if_pos e2]
          rcases hri with ⟨h, _⟩ | ⟨c', n', f', h0, h1', h2', h3', _⟩
          · exact absurd h e1
          · exact .inr h3'
        · rw [if_neg e2, if_neg e1, if_neg e2]
          have := hij e1 e2
          omega
end Go.Proofs.Ytdelcebkpdnnjaa
