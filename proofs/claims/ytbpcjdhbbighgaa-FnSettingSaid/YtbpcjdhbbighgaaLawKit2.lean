/-
  For the laws of settings: sameInts, a list copied by append, cells of an own list. Condition: the slices read as the lists.
-/
import Derived.Test.YtbpcjdhbbighgaaGreedyS
import Derived.Test.YtbpcjdhbbighgaaL8
import Derived.Test.YtbpcjdhbbighgaaBytes
namespace Go.Proofs.Ytbpcjdhbbighgaa
open Go.RowKit Go.Deep
set_option linter.unusedVariables false

theorem sameInts_b (va vb : Value) (la lb : List Int) (w : World) (ha : Ints w va la) (hb : Ints w vb lb) :
    Calls Try.prog 16 #[va, vb] w fun e w' => e = .returned (.bool (decide (la = lb))) ∧ Below w.heap.size w w' :=
  (sameInts_any va vb la lb w ha hb).mono fun _ _ ⟨he, n, hw⟩ => ⟨he, by rw [hw]; exact below_n (Below.refl _ _) n⟩
theorem app_copy {ops : Array Oper} {rest : List Oper} {o : Oper} {a : Act} {Q : Exit → Act → World → Prop} (w0 : World) (hgd : o.guard = none) (s x : Operand)
    (ho : o.op = .call { callee := .builtin .append, args := #[s, x], argTypes := #[27, 27] }) (vx : Value) (l2 : List Int) (hq : Ints w0 vx l2)
    (hs : a.eval s = .slice (some ⟨w0.heap.size, 0, none⟩) 0 0) (hx : a.eval x = vx) (hlen : l2.length ≤ 1000)
    (h : ∀ v' w', Own w0.heap.size w'.heap.size w' v' l2 → Below w0.heap.size w0 w' → wpList Try.prog ops Q rest (a.put o.dst v') w') : wpList Try.prog ops Q (o :: rest) a (w0.alloc (.cells #[] 3)) := by
  have hb0 : Below w0.heap.size w0 (w0.alloc (.cells #[] 3)) := (Below.refl _ _).alloc (Nat.le_refl _) _
  have ho0 := World.ownsRow_made (base := w0.heap.size) (e := 3) (size := 1) w0 #[] 0 (Nat.le_refl _) (by decide) rfl
  refine app_ints (w0.alloc (.cells #[] 3)) hgd s x ho w0.heap.size _ [] vx l2 (by simpa using ho0) (hq.below hb0 (Nat.le_refl _)) hs hx (by simp; omega) (by simp) ?_
  intro v' w' hown hg
  rw [List.nil_append] at hown
  exact h v' w' (own_of_ownsRow hown (Nat.le_refl _)) (hb0.grown hg (by simp) (fun g hg => (ho0.lt g hg).1))
theorem ints_cell {w : World} {oa : Option Addr} {n oc : Nat} {l : List Int} (h : Ints w (.slice oa n oc) l) {k : Nat} (hk : k < l.length) : ∃ b off, oa = some ⟨b, off, none⟩ ∧ b < w.heap.size ∧ w.cell? ⟨b, off + k, none⟩ = some (.int .i64 (l[k]?.getD 0)) := by
  obtain ⟨a, c, e, _, _, h3⟩ := h
  simp at e
  obtain ⟨b, off, rfl, hb, hc⟩ := h3 (by omega)
  exact ⟨b, off, e.1, hb, hc k hk⟩
theorem ints_shape {w : World} {v : Value} {l : List Int} (h : Ints w v l) : ∃ oa oc, v = .slice oa l.length oc ∧ l.length ≤ oc := by
  obtain ⟨a, c, e, h1, _, _⟩ := h
  exact ⟨a, c, e, h1⟩
end Go.Proofs.Ytbpcjdhbbighgaa
