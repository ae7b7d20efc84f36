/-
  Plain laws of a label's places, for FnPlaces.
-/
import Derived.Test.YtbpcjdhbbighgaaPlan2
namespace Go.Proofs.Ytbpcjdhbbighgaa

theorem places_facts {q : Quad} {side : Int} (h : LabOk q) (hf : Fits q side) :
    (placesOf q side).length = q.2.2.1.toNat ∧ (∀ i, i < (placesOf q side).length → (placesOf q side)[i]?.getD 0 = (placesOf q side)[0]?.getD 0 + (i : Int) ∧ (0 : Int) ≤ (placesOf q side)[0]?.getD 0 ∧
      (placesOf q side)[0]?.getD 0 + (i : Int) ≤ 99 ∧ ((placesOf q side)[0]?.getD 0 + (i : Int)) / 10 = (placesOf q side)[0]?.getD 0 / 10 ∧ (placesOf q side)[0]?.getD 0 + (i : Int) ≠ 10 * q.2.1 + q.1) := by
  obtain ⟨h1, h2, h3, h4, h5, h6, h7, h8⟩ := h
  obtain ⟨f1, f2, f3, f4, f5, f6⟩ := id hf
  rw [placesOf, if_pos hf]
  refine ⟨rowOf_length _ _ _, fun i hi => ?_⟩
  rw [rowOf_length] at hi
  rw [rowOf_get _ _ _ i hi, rowOf_get _ _ _ 0 (by omega)]
  have e : (sy side q ≠ q.2.1) ∨ (sx side q = q.1 + 1) ∨ (sx side q + q.2.2.1 = q.1) := by
    simp only [sx, sy]
    rcases (show side = 0 ∨ side = 1 ∨ side = 2 ∨ side = 3 by omega) with rfl | rfl | rfl | rfl <;> simp <;> omega
  refine ⟨by omega, by omega, by omega, by omega, ?_⟩
  rcases e with e | e | e <;> omega

theorem setOk_one {q : Quad} {side : Int} (h : LabOk q) (hf : Fits q side) : SetOk [q] [side] := by
  refine ⟨⟨by simp, fun i hi => ?_⟩, rfl, ?_⟩
  · obtain rfl : i = 0 := by simpa using hi
    exact ⟨h, fun j hj => by omega⟩
  · refine ⟨trivial, .inr ⟨hf, ?_⟩⟩
    intro c hc
    show mPts [q] c.toNat = 0
    rw [mPts, if_neg]
    obtain ⟨i, hi, rfl⟩ := List.mem_iff_getElem.1 (show c ∈ placesOf q side from hc)
    clear hc
    have hp := (places_facts h hf).2 i hi
    have e : (placesOf q side)[i] = (placesOf q side)[i]?.getD 0 := by rw [List.getElem?_eq_getElem hi]; rfl
    rw [e]
    simp only [List.map_cons, List.map_nil, List.mem_singleton, pt]
    obtain ⟨h1, h2, h3, h4, _⟩ := h
    omega
end Go.Proofs.Ytbpcjdhbbighgaa
