/-
  append of structs to a slice that the call made, told in quads. Conditions: lengths up to 2^40.
-/
import Derived.Test.YtdelcebkpdnnjaaFixSz
import Derived.Deep.RegionLaw
namespace Go.Proofs.Ytdelcebkpdnnjaa
open Go.RowKit Go.Deep

theorem quads_one {w : World} {q : Quad} {t : TypeId} : Quads (w.alloc (.cells #[.int .i64 q.1, .int .i64 q.2.1, .int .i64 q.2.2.1, .int .i64 q.2.2.2] t)) (.slice (some ⟨w.heap.size, 0, none⟩) 1 1) [q] := by
  refine ⟨_, 1, rfl, Nat.le_refl _, by omega, fun _ => ⟨w.heap.size, 0, rfl, by simp, fun j hj => ?_⟩⟩
  have : j = 0 := by simp at hj; omega
  subst this
  exact QAt_new w q t

/-- the cells of structs laid side by side -/
def flat (l : List Quad) : List Value := (List.range (l.length * 4)).map (qcell l)
theorem flat_length (l : List Quad) : (flat l).length = l.length * 4 := by simp [flat]
theorem flat_get (l : List Quad) (i : Nat) (h : i < l.length * 4) : (flat l)[i]? = some (qcell l i) := by simp [flat, h]
theorem qcell_left (a b : List Quad) (i : Nat) (h : i < a.length * 4) : qcell (a ++ b) i = qcell a i := by
  unfold qcell
  have : i / 4 < a.length := by omega
  rw [List.getElem?_append_left this]
theorem qcell_right (a b : List Quad) (i : Nat) : qcell (a ++ b) (a.length * 4 + i) = qcell b i := by
  unfold qcell
  rw [show (a.length * 4 + i) / 4 = a.length + i / 4 by omega, show (a.length * 4 + i) % 4 = i % 4 by omega, List.getElem?_append_right (by omega), show a.length + i / 4 - a.length = i / 4 by omega]
theorem flat_append (a b : List Quad) : flat (a ++ b) = flat a ++ flat b := by
  refine List.ext_getElem? fun i => ?_
  by_cases h : i < a.length * 4
  · rw [List.getElem?_append_left (by rw [flat_length]; exact h), flat_get _ _ h, flat_get _ _ (by rw [List.length_append]; omega), qcell_left _ _ _ h]
  · rw [List.getElem?_append_right (by rw [flat_length]; omega), flat_length]
    by_cases h2 : i < (a ++ b).length * 4
    · rw [List.length_append] at h2
      rw [flat_get _ _ (by rw [List.length_append]; exact h2), flat_get _ _ (by omega)]
      obtain ⟨j, rfl⟩ : ∃ j, i = a.length * 4 + j := ⟨i - a.length * 4, by omega⟩
      rw [qcell_right, show a.length * 4 + j - a.length * 4 = j by omega]
    · rw [List.getElem?_eq_none (by rw [flat_length]; omega), List.getElem?_eq_none (by rw [flat_length]; rw [List.length_append] at h2; omega)]
theorem qcell_one (l : List Quad) (i : Nat) : (qcell l i).oneCell' = true := by
  unfold qcell; split <;> rfl

theorem flat_cells {w : World} {b off : Nat} {l : List Quad} (h : ∀ j, j < l.length → QAt w b (off + j * 4) (l[j]?.getD q0)) :
    ∀ j u, (flat l)[j]? = some u → w.cell? ((⟨b, off, none⟩ : Addr).add j) = some u := by
  intro j u hu
  have hj : j < l.length * 4 := by
    have := (List.getElem?_eq_some_iff.1 hu).1
    rwa [flat_length] at this
  rw [flat_get _ _ hj] at hu
  have e : u = qcell l j := by simpa using hu.symm
  subst e
  rw [show (⟨b, off, none⟩ : Addr).add j = ⟨b, off + j, none⟩ by unfold Addr.add; split <;> simp_all]
  obtain ⟨k, r, hk, hr⟩ : ∃ k r, j = k * 4 + r ∧ r < 4 := ⟨j / 4, j % 4, by omega, by omega⟩
  subst hk
  obtain ⟨h0, h1, h2, h3⟩ := h k (by omega)
  rcases (show r = 0 ∨ r = 1 ∨ r = 2 ∨ r = 3 by omega) with rfl | rfl | rfl | rfl
  · rw [Nat.add_zero, qcell0]; exact h0
  · rw [qcell1, ← Nat.add_assoc]; exact h1
  · rw [qcell2, ← Nat.add_assoc]; exact h2
  · rw [qcell3, ← Nat.add_assoc]; exact h3

theorem ownQ_of_ownsRow {B hi : Nat} {t : TypeId} {w : World} {v : Value} {l : List Quad} (h : w.ownsRow B t 4 v l.length (flat l)) (hhi : w.heap.size ≤ hi) : OwnQ B hi w v l := by
  obtain ⟨h1, h2⟩ := h
  rcases h2 with ⟨rfl, hn⟩ | ⟨g, cap, cur, rfl, hg, hh, hc, hm, hs, ht⟩
  · obtain rfl : l = [] := List.length_eq_zero_iff.1 hn
    exact .inl ⟨rfl, none, 0, rfl, by omega⟩
  · have hlt : g < w.heap.size := (Array.getElem?_eq_some_iff.1 hh).1
    unfold maxLen at hm
    have key : ∀ i, i < l.length * 4 → cur[i]?.getD (.int .i64 0) = qcell l i := by
      intro i hi'
      have e : (cur.toList.take (l.length * 4))[i]? = (flat l)[i]? := by rw [ht]
      rw [List.getElem?_take, if_pos hi', flat_get _ _ hi', Array.getElem?_toList] at e
      rw [e]; rfl
    refine .inr ⟨g, 0, cap, t, cap * 4, fun j => cur[j]?.getD (.int .i64 0), rfl, hc, hm, hg, by omega, ⟨cur, hh, by omega, fun i hi => ?_⟩, by omega, fun j hj => ?_⟩
    · simp [Array.getElem?_eq_getElem (show i < cur.size by omega)]
    · rw [Nat.zero_add]
      exact ⟨(key _ (by omega)).trans (qcell0 ..), (key _ (by omega)).trans (qcell1 ..), (key _ (by omega)).trans (qcell2 ..), (key _ (by omega)).trans (qcell3 ..)⟩

theorem run_app_empty {P : Program} {w : World} (base : Nat) (t ty e : TypeId) (i : TypeInfo) (size : Nat) (ht : P.underlying t = some (.slice e)) (hi : P.info? e = some i)
    (v : Value) (n : Nat) (xs : List Value) (hown : w.ownsRow base e size v n xs) (a : Option Addr) (c : Nat) :
    (Builtin.append_ #[t, t] ty #[v, .slice a 0 c]).run P w = .ok v w := by
  rcases hown.2 with ⟨rfl, rfl⟩ | ⟨g, cap, cur, rfl, _, _, hnc, _⟩
  · cases a <;> simp [Builtin.append_, run_underlying ht, sizeOf, typeInfo, hi, Builtin.lenOf, Builtin.firstCells, loadCells, loadCellsFrom]
  · cases a <;> simp [Builtin.append_, run_underlying ht, sizeOf, typeInfo, hi, Builtin.lenOf, Builtin.firstCells, hnc, storeCells, loadCells, loadCellsFrom]

/-- what is owned stays owned behind a call that turned nothing that was there -/
theorem ownsRow_below {w w' : World} {base n size : Nat} {e : TypeId} {v : Value} {xs : List Value} (h : w.ownsRow base e size v n xs) (hb : Below w.heap.size w w') : w'.ownsRow base e size v n xs :=
  h.kept (row := none) ⟨hb.os, hb.tape, hb.output, hb.size, fun k hk _ => hb.block k hk⟩ (by cases v.ownBlock <;> simp)
/-- append(out, xs...): out made by the call, xs whatever reads as structs -/
theorem wp_app_quads {o : Oper} {a : Act} {K : Act → World → Prop} {Q : Exit → Act → World → Prop} (w0 wr : World) (s x : Operand)
    (ho : o.op = .call { callee := .builtin .append, args := #[s, x], argTypes := #[24, 24] }) (base : Nat) (v : Value) (l : List Quad) (vx : Value) (l2 : List Quad)
    (hown : wr.ownsRow base 41 4 v l.length (flat l)) (hq : Quads wr vx l2) (hs : a.eval s = v) (hx : a.eval x = vx) (hlen : l.length + l2.length ≤ 1099511627776) (hb : base ≤ wr.heap.size) (hB : Below base w0 wr)
    (h : ∀ v' w', w'.ownsRow base 41 4 v' (l ++ l2).length (flat (l ++ l2)) → Below base w0 w' → K (a.put o.dst v') w') : o.wp Try.prog a wr K Q := by
  obtain ⟨i0, hi, hz0, hz1, hz2⟩ := info_parts info_fix
  obtain ⟨ax, cx, rfl, hq1, hq2, hq3⟩ := hq
  by_cases h2 : 0 < l2.length
  · obtain ⟨b, off, rfl, hbl, hcell⟩ := hq3 h2
    refine wp_append_own wr s x 24 ho base 41 i0 _ 4 32 Try.underlying24 hi hz0 hz1 hz2 rfl (by decide) v l.length _ hs hown ⟨b, off, none⟩ l2.length cx (flat l2) hx (flat_length _) (flat_cells hcell)
      (fun u hu => by obtain ⟨j, hj⟩ := List.mem_iff_getElem?.1 hu; rw [flat_get _ _ (by have := (List.getElem?_eq_some_iff.1 hj).1; rwa [flat_length] at this)] at hj; have e : u = qcell l2 j := by simpa using hj.symm
                      rw [e]; exact qcell_one _ _) (by unfold maxLen; omega) (by omega) hb ?_
    intro v' w' r1 r2 _
    exact h v' w' (by rw [flat_append, List.length_append]; exact r1) (hB.grown r2 hb (fun k hk => (hown.lt k hk).1))
  · obtain rfl : l2 = [] := List.length_eq_zero_iff.1 (by omega)
    have hrun := run_app_empty (P := Try.prog) (w := wr) base 24 o.type 41 i0 4 Try.underlying24 hi v l.length _ hown ax cx
    have hx' : a.eval x = .slice ax 0 cx := hx
    have hk := h v wr (by rw [List.append_nil]; exact hown) hB
    unfold Oper.wp
    simp [execOp, ho, resolve, invoke, builtin, hs, hx', hrun, Result.andThen]
    exact hk
theorem app_quads {ops : Array Oper} {rest : List Oper} {o : Oper} {a : Act} {Q : Exit → Act → World → Prop} (w0 wr : World) (hgd : o.guard = none) (s x : Operand)
    (ho : o.op = .call { callee := .builtin .append, args := #[s, x], argTypes := #[24, 24] }) (base : Nat) (v : Value) (l : List Quad) (vx : Value) (l2 : List Quad)
    (hown : wr.ownsRow base 41 4 v l.length (flat l)) (hq : Quads wr vx l2) (hs : a.eval s = v) (hx : a.eval x = vx) (hlen : l.length + l2.length ≤ 1099511627776) (hb : base ≤ wr.heap.size) (hB : Below base w0 wr)
    (h : ∀ v' w', w'.ownsRow base 41 4 v' (l ++ l2).length (flat (l ++ l2)) → Below base w0 w' → wpList Try.prog ops Q rest (a.put o.dst v') w') : wpList Try.prog ops Q (o :: rest) a wr :=
  wpList_plain hgd fun _ hK => wp_app_quads w0 wr s x ho base v l vx l2 hown hq hs hx hlen hb hB fun v' w' h1 h2 => hK _ _ (h v' w' h1 h2)
theorem step_app_quads {ops : Array Oper} {o : Oper} {a : Act} {K : Act → World → Prop} {Q : Exit → Act → World → Prop} {E : Prop} (w0 wr : World) (hgd : o.guard = none) (s x : Operand)
    (ho : o.op = .call { callee := .builtin .append, args := #[s, x], argTypes := #[24, 24] }) (base : Nat) (v : Value) (l : List Quad) (vx : Value) (l2 : List Quad)
    (hown : wr.ownsRow base 41 4 v l.length (flat l)) (hq : Quads wr vx l2) (hs : a.eval s = v) (hx : a.eval x = vx) (hlen : l.length + l2.length ≤ 1099511627776) (hb : base ≤ wr.heap.size) (hB : Below base w0 wr)
    (h : ∀ v' w', w'.ownsRow base 41 4 v' (l ++ l2).length (flat (l ++ l2)) → Below base w0 w' → K (a.put o.dst v') w') :
    if Region.wanted o (yielded ops a.tmps) = true then Oper.wp Try.prog o a wr K Q else E := by
  have hw : Region.wanted o (yielded ops a.tmps) = true := by simp [Region.wanted, hgd]
  rw [if_pos hw]
  exact wp_app_quads w0 wr s x ho base v l vx l2 hown hq hs hx hlen hb hB h
/-- append(out, q) of one struct: it is laid in a block of its own first -/
theorem app_quad {ops : Array Oper} {rest : List Oper} {o : Oper} {a : Act} {Q : Exit → Act → World → Prop} (w0 wr : World) (hgd : o.guard = none) (s x : Operand)
    (ho : o.op = .call { callee := .builtin .append, args := #[s, x], argTypes := #[24, 24] }) (base : Nat) (v : Value) (l : List Quad) (q : Quad)
    (hown : wr.ownsRow base 41 4 v l.length (flat l)) (hs : a.eval s = v) (N : Nat) (hN : wr.heap.size = N) (hx : a.eval x = .slice (some ⟨N, 0, none⟩) 1 1) (hlen : l.length ≤ 1099511627775) (hb : base ≤ wr.heap.size) (hB : Below base w0 wr)
    (h : ∀ v' w', w'.ownsRow base 41 4 v' (l ++ [q]).length (flat (l ++ [q])) → Below base w0 w' → wpList Try.prog ops Q rest (a.put o.dst v') w') :
    wpList Try.prog ops Q (o :: rest) a (wr.alloc (.cells #[.int .i64 q.1, .int .i64 q.2.1, .int .i64 q.2.2.1, .int .i64 q.2.2.2] 41)) :=
  app_quads w0 _ hgd s x ho base v l _ [q] (hown.alloc _) quads_one hs (by rw [hN]; exact hx) (by simp; omega) (by simp; omega) (hB.alloc hb _) h
end Go.Proofs.Ytdelcebkpdnnjaa
