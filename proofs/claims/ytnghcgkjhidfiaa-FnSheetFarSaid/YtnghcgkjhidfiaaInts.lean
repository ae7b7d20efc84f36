/-
  Contracts of the laws' small functions on slices of ints: copy, compare, mark, check of the marks. Conditions: lengths up to 2^40.
-/
import Derived.Test.YtnghcgkjhidfiaaMem
import Derived.Deep.QuietTactic
import Derived.BigQuiet
import Derived.WalkSpells
import Derived.Outline
namespace Go.Proofs.Ytnghcgkjhidfiaa
open Go.RowKit Go.Deep

theorem info_int : (Try.prog.info? 3).map (fun i => (i.zero, i.size, i.bytes)) = some (some (.int .i64 0), 1, 8) := by kernel_rfl

theorem own_of_row {lo hi b cap : Nat} {t : TypeId} {w : World} {l : List Int} {f : Nat → Value} (h : w.rowIs b t l.length f) (hf : ∀ j, j < l.length → f j = .int .i64 (l[j]?.getD 0)) (h1 : lo ≤ b) (h2 : b < hi) (hc : l.length ≤ cap) (hcap : cap ≤ 9223372036854775807) :
    Own lo hi w (.slice (some ⟨b, 0, none⟩) l.length cap) l :=
  .inr ⟨b, 0, cap, t, l.length, f, rfl, hc, hcap, h1, h2, h, by omega, fun j hj => by rw [Nat.zero_add]; exact hf j hj⟩

/-- the ints that a mark beginning with k writes -/
def marks (k : Int) (n : Nat) : List Int := (List.range n).map (fun i : Nat => k + (i : Int))
theorem marks_length (k : Int) (n : Nat) : (marks k n).length = n := by simp [marks]
theorem marks_get (k : Int) (n j : Nat) (h : j < n) : (marks k n)[j]?.getD 0 = k + (j : Int) := by simp [marks, h]

theorem ret_bool {a b : Bool} (h : a = b) : Ending.returned (.bool a) = .returned (.bool b) := by rw [h]
theorem ret_int {a b : Int} (h : a = b) : Ending.returned (.int .i64 a) = .returned (.int .i64 b) := by rw [h]

theorem getD_eq {l : List Int} {k : Nat} (h : k < l.length) : l[k]?.getD 0 = l[k] := by simp [h]

theorem list_eq {la lb : List Int} (hl : la.length = lb.length) (h : ∀ j, j < la.length → la[j]?.getD 0 = lb[j]?.getD 0) : la = lb := by
  refine List.ext_getElem hl fun i h1 h2 => ?_
  have := h i h1
  rwa [getD_eq h1, getD_eq h2] at this

end Go.Proofs.Ytnghcgkjhidfiaa
