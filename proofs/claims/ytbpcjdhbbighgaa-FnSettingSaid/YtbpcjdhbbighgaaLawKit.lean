/-
  A store into a slice of ints that the call made. Own work; no condition.
-/
import Derived.Test.YtbpcjdhbbighgaaSetMany
import Derived.Test.YtbpcjdhbbighgaaDrawS
namespace Go.Proofs.Ytbpcjdhbbighgaa
open Go.RowKit Go.Deep Go.Sort

theorem own_set {lo hi : Nat} {w : World} {v : Value} {l : List Int} (h : Own lo hi w v l) {k : Nat} (hk : k < l.length) (z : Int) :
    ∃ b off cap, v = .slice (some ⟨b, off, none⟩) l.length cap ∧ lo ≤ b ∧ b < hi ∧ w.cell? ⟨b, off + k, none⟩ = some (.int .i64 (l[k]?.getD 0)) ∧ w.frozen? ⟨b, off + k, none⟩ = false ∧ Own lo hi (w.setCell ⟨b, off + k, none⟩ (.int .i64 z)) v (l.set k z) := by
  rcases h with ⟨h0, _⟩ | ⟨b, off, cap, t, n, f, rfl, h1, h2, h3, h4, h5, h6, h7⟩
  · subst h0; simp at hk
  · refine ⟨b, off, cap, rfl, h3, h4, by rw [h5.cell (by omega), h7 k hk], h5.frozen _, .inr ⟨b, off, cap, t, n, _, by rw [List.length_set], by rw [List.length_set]; exact h1, h2, h3, h4, h5.set (off + k) _, by rw [List.length_set]; exact h6, fun j hj => ?_⟩⟩
    rw [List.length_set] at hj
    by_cases e : j = k
    · subst e; simp [hj]
    · rw [if_neg (by omega), h7 j hj, List.getElem?_set_ne (by omega)]
theorem alone_length (n i : Nat) (side : Int) : (alone n i side).length = n := by simp [alone]
theorem repl_snoc (m : Nat) : List.replicate m (-1 : Int) ++ [-1] = List.replicate (m + 1) (-1) := by rw [List.replicate_succ']
theorem pow_le6 {k : Nat} (h : k ≤ 6) : 5 ^ k ≤ 15625 ∧ 1 ≤ 5 ^ k := ⟨pow_small h, Nat.one_le_pow _ _ (by omega)⟩
/-- some label with an index below k can be set alone -/
def SomeUp (l : List Quad) (k : Nat) : Prop := ∃ i, i < k ∧ ∃ side : Int, 0 ≤ side ∧ side ≤ 3 ∧ OkUp l (alone l.length i side) l.length
def SomeAt (l : List Quad) (k j : Nat) : Prop := SomeUp l k ∨ ∃ i : Nat, i < j ∧ OkUp l (alone l.length k (i : Int)) l.length
theorem someAt_next {l : List Quad} {k j : Nat} : SomeAt l k (j + 1) ↔ SomeAt l k j ∨ OkUp l (alone l.length k (j : Int)) l.length := by
  unfold SomeAt
  constructor
  · rintro (h | ⟨i, hi, h⟩)
    · exact .inl (.inl h)
    · by_cases e : i = j
      · subst e; exact .inr h
      · exact .inl (.inr ⟨i, by omega, h⟩)
  · rintro ((h | ⟨i, hi, h⟩) | h)
    · exact .inl h
    · exact .inr ⟨i, by omega, h⟩
    · exact .inr ⟨j, by omega, h⟩
theorem someUp_next {l : List Quad} {k : Nat} : SomeUp l (k + 1) ↔ SomeAt l k 4 := by
  unfold SomeAt SomeUp
  constructor
  · rintro ⟨i, hi, side, h0, h3, h⟩
    by_cases e : i = k
    · subst e; exact .inr ⟨side.toNat, by omega, by rw [show ((side.toNat : Nat) : Int) = side by omega]; exact h⟩
    · exact .inl ⟨i, by omega, side, h0, h3, h⟩
  · rintro (⟨i, hi, h⟩ | ⟨i, hi, h⟩)
    · exact ⟨i, by omega, h⟩
    · exact ⟨k, by omega, (i : Int), by omega, by omega, h⟩
theorem someAt_zero {l : List Quad} {k : Nat} : SomeAt l k 0 ↔ SomeUp l k := ⟨fun h => h.elim id fun ⟨i, hi, _⟩ => by omega, .inl⟩
theorem someUp_all {l : List Quad} : SomeUp l l.length ↔ 1 < manyAll l := many_some.symm
end Go.Proofs.Ytbpcjdhbbighgaa
