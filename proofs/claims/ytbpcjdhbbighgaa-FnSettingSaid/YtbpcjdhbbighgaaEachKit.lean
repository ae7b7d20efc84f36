/-
  Small laws for the recursion over settings: the sides' slice, ranges in a frame, the enumeration side by side. Own work; no condition.
-/
import Derived.Test.YtbpcjdhbbighgaaL8
namespace Go.Proofs.Ytbpcjdhbbighgaa
open Go.RowKit Go.Deep Go.Sort

theorem ownsRow_slice {w : World} {base n size : Nat} {e : TypeId} {v : Value} {xs : List Value} (h : w.ownsRow base e size v n xs) : ∃ a c, v = .slice a n c := by
  rcases h.2 with ⟨rfl, rfl⟩ | ⟨g, cap, cur, rfl, _⟩
  · exact ⟨_, _, rfl⟩
  · exact ⟨_, _, rfl⟩
theorem Fr.low' {lo hi base n size : Nat} {e : TypeId} {v : Value} {xs : List Value} {a b w : World} (h : Fr lo hi v.ownBlock a b) (hr : w.ownsRow base e size v n xs) (hl : lo ≤ a.heap.size) (hb : lo ≤ base) : Below lo a b :=
  h.low (fun g hg => Nat.le_trans hb (hr.lt g hg).1) hl
theorem range_fr {lo hi g : Nat} {row : Option Nat} {a b : World} {cs : List Value} (h : a.rangeAt g 0 cs) (hf : Fr lo hi row a b) (hg : g < a.heap.size) (hn : ¬ (lo ≤ g ∧ g < hi)) (hr : some g ≠ row) : b.rangeAt g 0 cs :=
  fun j v hv => (World.cell?_of_block (a := ⟨g, 0 + j, none⟩) (hf.block g hg hn hr)).trans (h j v hv)
theorem range_new (w : World) (cs : List Value) (t : TypeId) : (w.alloc (.cells cs.toArray t)).rangeAt w.heap.size 0 cs := fun j v hv => by
  rw [cell_of_row _ w.heap.size (0 + j) cs.toArray t (0, 0) (heap_alloc_new w _), Nat.zero_add]
  simpa using hv
theorem ownsRow_touch' {w w' : World} {lo hi n size : Nat} {e : TypeId} {v : Value} {xs : List Value} (h : w.ownsRow hi e size v n xs) (ht : Touch lo hi w w') : w'.ownsRow hi e size v n xs := by
  rcases id h.2 with ⟨h1, h2⟩ | ⟨g1, cap1, cur1, rfl, a1, a2, a3, a4, a5, a6⟩
  · exact ⟨h.1, .inl ⟨h1, h2⟩⟩
  · exact ⟨h.1, .inr ⟨g1, cap1, cur1, rfl, a1, by rw [ht.block g1 (Array.getElem?_eq_some_iff.1 a2).1 (by omega), a2], a3, a4, a5, a6⟩⟩
theorem ownsRow_kb {w w' : World} {base n size : Nat} {e : TypeId} {v : Value} {xs : List Value} (h : w.ownsRow base e size v n xs) (hb : Below w.heap.size w w') : w'.ownsRow base e size v n xs := by
  rcases id h.2 with ⟨h1, h2⟩ | ⟨g1, cap1, cur1, rfl, a1, a2, a3, a4, a5, a6⟩
  · exact ⟨h.1, .inl ⟨h1, h2⟩⟩
  · exact ⟨h.1, .inr ⟨g1, cap1, cur1, rfl, a1, by rw [hb.block g1 (Array.getElem?_eq_some_iff.1 a2).1, a2], a3, a4, a5, a6⟩⟩
/-- one side, laid in a slice of its own -/
theorem side_cell (WE : World) (z : Int) : (WE.alloc (.cells #[.int .i64 z] 3)).drew.cell? ⟨WE.heap.size, 0, none⟩ = some (.int .i64 z) := by
  show (WE.alloc (.cells #[.int .i64 z] 3)).cell? _ = _
  rw [cell_of_row _ WE.heap.size 0 #[.int .i64 z] 3 (0, 0) (heap_alloc_new WE _)]; rfl
theorem rec_below {hi : Nat} {sv : Value} {WE w9 : World} {z : Int} (hg : (WE.alloc (.cells #[.int .i64 z] 3)).drew.grownBy w9 sv.ownBlock) (hr : ∀ g, sv.ownBlock = some g → hi ≤ g) (hh : hi ≤ WE.heap.size) : Below hi WE w9 ∧ WE.heap.size ≤ w9.heap.size := by
  have h1 : Below hi WE (WE.alloc (.cells #[.int .i64 z] 3)).drew := ((Below.refl hi WE).alloc hh _).drew
  have h2 := h1.grown hg (by simp; omega) hr
  exact ⟨h2, h2.size⟩
theorem rec_range {NB : Nat} {sv : Value} {WE w9 : World} {z : Int} {cs : List Value} (h : WE.rangeAt NB 0 cs) (hg : (WE.alloc (.cells #[.int .i64 z] 3)).drew.grownBy w9 sv.ownBlock) (hn : NB < WE.heap.size) (hr : some NB ≠ sv.ownBlock) : w9.rangeAt NB 0 cs :=
  fun j v hv => (World.cell?_of_block (a := ⟨NB, 0 + j, none⟩) (hg.block NB (by simp; omega) hr)).trans (World.rangeAt_alloc h (.cells #[.int .i64 z] 3) j v hv)
theorem rec_done {lo hi k : Nat} {sv v' : Value} {W0 WE w9 w10 : World} {pre : List Int} {z : Int} (h0 : Fr lo hi sv.ownBlock W0 WE) (hg : (WE.alloc (.cells #[.int .i64 z] 3)).drew.grownBy w9 sv.ownBlock) (hx : Ext (WE.alloc (.cells #[.int .i64 z] 3)).drew.heap.size sv v')
    (o2 : w9.ownsRow hi 3 1 sv pre.length (pre.map (Value.int .i64))) (hf : Fr lo hi v'.ownBlock w9 w10) (ho : w10.ownsRow hi 3 1 v' (k + 1) ((pre ++ [z]).map (Value.int .i64))) (hk : pre.length = k) (hlt : ∀ g, sv.ownBlock = some g → g < WE.heap.size) :
    Fr lo hi sv.ownBlock W0 w10 ∧ w10.ownsRow hi 3 1 sv k (pre.map (Value.int .i64)) := by
  subst hk
  have e : (WE.alloc (.cells #[.int .i64 z] 3)).drew.heap.size = WE.heap.size + 1 := by simp
  have f1 : Fr lo hi sv.ownBlock W0 w9 := (h0.trans (Fr.of_below (((Below.refl WE.heap.size WE).alloc (Nat.le_refl _) _).drew))).trans (Fr.of_grown hg)
  refine ⟨f1.into hf ?_, hx.kept o2 (by rw [← List.map_append]; exact ho) hf (Nat.le_refl _) (fun g hg => by have := hlt g hg; omega)⟩
  rcases hx.row with h | ⟨g, h1, h2⟩
  · exact .inl h
  · exact .inr ⟨g, h1, by have := h0.size; omega⟩
theorem rec_range2 {lo hi NB : Nat} {sv v' : Value} {WE w9 w10 : World} {z : Int} {cs : List Value} (e2 : w9.rangeAt NB 0 cs) (hf : Fr lo hi v'.ownBlock w9 w10) (hx : Ext (WE.alloc (.cells #[.int .i64 z] 3)).drew.heap.size sv v') (hn : NB < WE.heap.size) (hs : WE.heap.size ≤ w9.heap.size) (hh : hi ≤ NB) (hr : some NB ≠ sv.ownBlock) : w10.rangeAt NB 0 cs := by
  have e : (WE.alloc (.cells #[.int .i64 z] 3)).drew.heap.size = WE.heap.size + 1 := by simp
  refine range_fr e2 hf (by omega) (by omega) ?_
  rcases hx.row with h | ⟨g, h1, h2⟩
  · rw [h]; exact hr
  · rw [h1]; intro h3; simp at h3; omega
/-- the settings with the label's first sides -/
def upS (l : List Quad) (n k : Nat) (M : Plan) (pre : List Int) (i : Nat) : List (List Int) :=
  (List.range i).flatMap fun j : Nat => if CanSet M (l[k]?.getD q0) (j : Int) then each l n (k + 1) (setOn M (l[k]?.getD q0) (j : Int) ((k : Int) + 1)) (pre ++ [(j : Int)]) else []
theorem upS_zero (l : List Quad) (n k : Nat) (M : Plan) (pre : List Int) : upS l n k M pre 0 = [] := rfl
theorem upS_yes {l : List Quad} {n k : Nat} {M : Plan} {pre : List Int} {i : Nat} (h : CanSet M (l[k]?.getD q0) (i : Int)) : upS l n k M pre (i + 1) = upS l n k M pre i ++ each l n (k + 1) (setOn M (l[k]?.getD q0) (i : Int) ((k : Int) + 1)) (pre ++ [(i : Int)]) := by
  unfold upS; rw [List.range_succ, List.flatMap_append]; simp [h]
theorem upS_no {l : List Quad} {n k : Nat} {M : Plan} {pre : List Int} {i : Nat} (h : ¬ CanSet M (l[k]?.getD q0) (i : Int)) : upS l n k M pre (i + 1) = upS l n k M pre i := by
  unfold upS; rw [List.range_succ, List.flatMap_append]; simp [h]
theorem upS_all (l : List Quad) (n k : Nat) (M : Plan) (pre : List Int) : each l (n + 1) k M pre = upS l n k M pre 4 ++ each l n (k + 1) M (pre ++ [-1]) := by
  rw [each]; rfl
end Go.Proofs.Ytbpcjdhbbighgaa
