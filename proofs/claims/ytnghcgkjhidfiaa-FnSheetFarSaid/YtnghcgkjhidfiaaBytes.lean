/-
  An argument that is a slice of bytes; the laws' sameInts. Condition: the slices read as lists.
-/
import Derived.Test.YtnghcgkjhidfiaaRd
import Derived.Deep.Slices
import Derived.OpenShut
import Derived.Deep.QuietTactic
import Derived.Lib.QuietBelow
namespace Go.Proofs.Ytnghcgkjhidfiaa
open Go.RowKit Go.Deep Go.ChangeShapes

theorem u8_wf {n : Int} (h : (Lit.int .u8 n).wf = true) : 0 ≤ n ∧ n ≤ 255 := by
  have e1 : IntKind.u8.min = 0 := by decide
  have e2 : IntKind.u8.max = 255 := by decide
  simp [Lit.wf, e1, e2] at h
  exact ⟨by omega, by omega⟩
/-- an argument that is a slice of bytes -/
theorem bytes_opened {H : Type} {enc : TypeId × Value → H} {W : World} {base : Nat} {held : Bool} {a : Option Addr} {len cap : Nat} {d : DataW H} {p : List MemPlace}
    (h : DataW.Trod enc Try.prog W base (fun _ => true) held 22 (.slice a len cap) d p) : ∃ n : Nat, Bytes W (.slice a len cap) n := by
  obtain ⟨fuel, hf⟩ := h
  rcases open_ints Try.underlying22 Try.underlying5 (by kernel_rfl) hf with ⟨hcs, _⟩ | ⟨x, l, c, zs, hcs, _, hl, hm, hz, _, hcell, hwz⟩
  · simp [Value.cells] at hcs
    obtain ⟨rfl, rfl, rfl⟩ := hcs
    exact ⟨0, none, 0, rfl, Nat.le_refl _, by omega, fun h => absurd h (by omega)⟩
  · simp [Value.cells] at hcs
    obtain ⟨rfl, rfl, rfl⟩ := hcs
    unfold maxLen at hm
    have hz' : zs.length = cap := by simpa using hz
    refine ⟨len, some x, cap, rfl, hl, hm, fun hp => ?_⟩
    obtain ⟨b, off, spot⟩ := x
    have hc := hcell 0 (by omega)
    have hspot : spot = none := by simpa [Addr.add] using World.cell?_spot hc
    subst hspot
    refine ⟨b, off, rfl, World.block_lt_of_cell? W ⟨b, off, none⟩ (by simpa [Addr.add] using hc), fun j => (zs.getD j 0).toNat, fun j hj => ?_⟩
    have hc := hcell j (by omega)
    rw [show (⟨b, off, none⟩ : Addr).add j = ⟨b, off + j, none⟩ by unfold Addr.add; split <;> simp_all] at hc
    have hw : 0 ≤ zs.getD j 0 ∧ zs.getD j 0 ≤ 255 := by
      refine u8_wf (hwz _ ?_)
      rw [List.getD_eq_getElem?_getD, List.getElem?_eq_getElem (show j < zs.length by omega)]
      exact List.getElem_mem _
    have hw2 : (zs.getD j 0).toNat ≤ 255 := by omega
    refine ⟨?_, hw2⟩
    rw [hc, Int.toNat_of_nonneg hw.1]
end Go.Proofs.Ytnghcgkjhidfiaa
