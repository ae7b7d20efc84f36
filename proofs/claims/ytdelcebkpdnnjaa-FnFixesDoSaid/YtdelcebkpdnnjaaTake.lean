/-
  FixesBack, the program's and the reference's. No condition but that the slices read as the lists.
-/
import Derived.Test.YtdelcebkpdnnjaaSeries
import Derived.Test.YtdelcebkpdnnjaaSpecDo
namespace Go.Proofs.Ytdelcebkpdnnjaa
open Go.RowKit Go.Shelf

attribute [local go_sem] Oper.semAt_some

def swapQ (q : Quad) : Quad := (q.1, q.2.1, q.2.2.2, q.2.2.1)
def backL (l : List Quad) : List Quad := l.reverse.map swapQ
def backOf (g : Rows) (l : List Quad) : List Quad := if EdOk g l then backL l else []
theorem backOf_yes {g : Rows} {l : List Quad} (h : EdOk g l) : backOf g l = backL l := if_pos h
theorem backOf_no {g : Rows} {l : List Quad} (h : ¬ EdOk g l) : backOf g l = [] := if_neg h
theorem backL_length (l : List Quad) : (backL l).length = l.length := by simp [backL]
theorem backOf_len (g : Rows) (l : List Quad) : (backOf g l).length ≤ 1099511627776 := by
  by_cases h : EdOk g l
  · rw [backOf_yes h, backL_length]; have := h.2.1; omega
  · rw [backOf_no h]; simp
def bk (pre : List (Nat × Quad)) : List Quad := pre.map fun x => swapQ x.2
theorem bk_all (l : List Quad) : bk (cameN l.length l l.length) = backL l := by
  have h := congrArg List.reverse (cameN_all l)
  rw [List.reverse_reverse] at h
  unfold bk backL
  rw [← h, List.map_map]
  rfl
theorem bk_snoc (pre : List (Nat × Quad)) (x : Nat × Quad) : bk (pre ++ [x]) = bk pre ++ [swapQ x.2] := by simp [bk]
theorem cells4_new {W : World} {x0 x1 x2 x3 : Value} {t : TypeId} {N : Nat} (hN : W.heap.size = N) (j : Nat) (u : Value) (h : [x0, x1, x2, x3][j]? = some u) : (W.alloc (.cells #[x0, x1, x2, x3] t)).cell? ((⟨N, 0, none⟩ : Addr).add j) = some u := by
  subst hN
  have hj : j < 4 := by have := (List.getElem?_eq_some_iff.1 h).1; simpa using this
  match j, hj with
  | 0, _ => rw [addr_add]; simpa using h
  | 1, _ => rw [addr_add]; simpa using h
  | 2, _ => rw [addr_add]; simpa using h
  | 3, _ => rw [addr_add]; simpa using h

theorem flat_one4 (x0 x1 x2 x3 : Int) : flat [swapQ (x0, x1, x2, x3)] = [.int .i64 x0, .int .i64 x1, .int .i64 x3, .int .i64 x2] := by
  simp [flat, swapQ, List.range_succ, qcell]
theorem ownsRow_low {w : World} {base base' n size : Nat} {e : TypeId} {v : Value} {xs : List Value} (h : w.ownsRow base e size v n xs) (hb : base' ≤ base) : w.ownsRow base' e size v n xs := by
  refine ⟨h.1, ?_⟩
  rcases h.2 with h | ⟨g, cap, cur, e, h1, h2⟩
  · exact .inl h
  · exact .inr ⟨g, cap, cur, e, by omega, h2⟩

def backUp (l : List Quad) (k : Nat) : List Quad := (l.reverse.take k).map swapQ
theorem backUp_succ {l : List Quad} {k m : Nat} (h : m + k + 1 = l.length) : backUp l (k + 1) = backUp l k ++ [swapQ (l[m]?.getD q0)] := by
  unfold backUp
  have hk : k < l.reverse.length := by simp; omega
  rw [List.take_succ_eq_append_getElem hk, List.map_append]
  congr 1
  have hkm : l.length - 1 - k = m := by omega
  rw [getQ_eq (by omega)]
  simp only [List.map_cons, List.map_nil, List.getElem_reverse, hkm]
theorem backUp_all (l : List Quad) : backUp l l.length = backL l := by
  unfold backUp backL
  rw [List.take_of_length_le (by simp)]
theorem backUp_len (l : List Quad) (k : Nat) : (backUp l k).length ≤ k := by simp [backUp]; omega

end Go.Proofs.Ytdelcebkpdnnjaa
