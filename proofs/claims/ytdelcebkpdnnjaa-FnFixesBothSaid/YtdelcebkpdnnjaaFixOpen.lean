/-
  An argument that is a slice of corrections, or one correction, opened: it reads as a list of quads. No condition.
-/
import Derived.Test.YtdelcebkpdnnjaaFixEq
import Derived.Test.YtdelcebkpdnnjaaFacts
import Derived.Deep.Slices
import Derived.Lib.SmallJoins
namespace Go.Proofs.Ytdelcebkpdnnjaa
open Go.ChangeShapes Go.WideShapes Go.ChangeAt Go.RowKit Go.Deep

theorem cells_lfix : Try.prog.cellsOf 80 = 4 := by kernel_rfl
theorem cells_int : Try.prog.cellsOf 3 = 1 := by kernel_rfl

set_option maxRecDepth 100000 in
theorem quad_of_trod {H : Type} {enc : TypeId × Value → H} {w : World} {base : Nat} {spare : Nat → Bool} {held : Bool} {n : Nat} {cs : List Value} {x : DataW H × List MemPlace}
    (h : DataW.trod enc Try.prog w base spare held n 80 cs = some x) : ∃ q : Quad, cs = [.int .i64 q.1, .int .i64 q.2.1, .int .i64 q.2.2.1, .int .i64 q.2.2.2] := by
  obtain ⟨xs, k, _, _, hl, hlen, hf⟩ := DataW.trod_struct Try.underlying80 h
  rw [cells_lfix] at hl
  have g0 : DataW.trod enc Try.prog w base spare held k 3 ((cs.drop 0).take (Try.prog.cellsOf 3)) = xs[0]? := hf 0 _ rfl
  have g1 : DataW.trod enc Try.prog w base spare held k 3 ((cs.drop 1).take (Try.prog.cellsOf 3)) = xs[1]? := hf 1 _ rfl
  have g2 : DataW.trod enc Try.prog w base spare held k 3 ((cs.drop 2).take (Try.prog.cellsOf 3)) = xs[2]? := hf 2 _ rfl
  have g3 : DataW.trod enc Try.prog w base spare held k 3 ((cs.drop 3).take (Try.prog.cellsOf 3)) = xs[3]? := hf 3 _ rfl
  rw [cells_int] at g0 g1 g2 g3
  match cs, hl with
  | [v0, v1, v2, v3], _ =>
    match xs, hlen with
    | [y0, y1, y2, y3], _ =>
      obtain ⟨a0, e0, _, _⟩ := DataW.trod_int (cs := [v0]) (x := y0) Try.underlying3 g0
      obtain ⟨a1, e1, _, _⟩ := DataW.trod_int (cs := [v1]) (x := y1) Try.underlying3 g1
      obtain ⟨a2, e2, _, _⟩ := DataW.trod_int (cs := [v2]) (x := y2) Try.underlying3 g2
      obtain ⟨a3, e3, _, _⟩ := DataW.trod_int (cs := [v3]) (x := y3) Try.underlying3 g3
      simp only [List.cons.injEq, and_true] at e0 e1 e2 e3
      subst e0 e1 e2 e3
      exact ⟨(a0, a1, a2, a3), rfl⟩

/-- an argument that is a slice of corrections -/
theorem fixes_opened {H : Type} {enc : TypeId × Value → H} {W : World} {base : Nat} {held : Bool} {a : Option Addr} {len cap : Nat} {d : DataW H} {p : List MemPlace}
    (h : DataW.Trod enc Try.prog W base (fun _ => true) held 45 (.slice a len cap) d p) : ∃ l : List Quad, Quads W (.slice a len cap) l := by
  obtain ⟨fuel, hf⟩ := h
  rcases open_slice Try.underlying45 hf with ⟨hcs, _⟩ | ⟨x, l, c, m, n, D, Pl, hcs, _, hl, hm, hmm, _, hel⟩
  · simp [Value.cells] at hcs
    obtain ⟨rfl, rfl, rfl⟩ := hcs
    exact ⟨[], none, 0, rfl, Nat.le_refl _, by omega, fun h => absurd h (by simp)⟩
  · simp [Value.cells] at hcs
    obtain ⟨rfl, rfl, rfl⟩ := hcs
    simp only [if_true] at hmm
    subst hmm
    have each : ∀ i, i < len → ∃ q : Quad, W.cell? (x.add (i * 4)) = some (.int .i64 q.1) ∧ W.cell? ((x.add (i * 4)).add 1) = some (.int .i64 q.2.1) ∧ W.cell? ((x.add (i * 4)).add 2) = some (.int .i64 q.2.2.1) ∧ W.cell? ((x.add (i * 4)).add 3) = some (.int .i64 q.2.2.2) := by
      intro i hi
      obtain ⟨cs', h1, h2⟩ := hel i (by omega)
      rw [cells_lfix] at h1
      obtain ⟨q, rfl⟩ := quad_of_trod h2
      obtain ⟨_, _, hc⟩ := World.cells?_some h1
      have h0 := hc 0 (by omega)
      rw [Addr.add_zero'] at h0
      exact ⟨q, h0, hc 1 (by omega), hc 2 (by omega), hc 3 (by omega)⟩
    obtain ⟨f, hq⟩ := choose_lt each
    unfold maxLen at hm
    have hlen : ((List.range len).map f).length = len := by simp
    refine ⟨(List.range len).map f, some x, m, by rw [hlen], by rw [hlen]; exact hl, hm, fun h => ?_⟩
    rw [hlen] at h
    obtain ⟨b, off, spot⟩ := x
    have hspot : spot = none := by
      have := (hq 0 h).1
      simpa [Addr.add] using World.cell?_spot this
    subst hspot
    have hadd : ∀ j, (⟨b, off, none⟩ : Addr).add j = ⟨b, off + j, none⟩ := fun j => by unfold Addr.add; split <;> simp_all
    have hadd2 : ∀ o j, (⟨b, o, none⟩ : Addr).add j = ⟨b, o + j, none⟩ := fun o j => by unfold Addr.add; split <;> simp_all
    have hlt : b < W.heap.size := World.block_lt_of_cell? W _ (hq 0 h).1 |> fun h => by rw [hadd] at h; exact h
    refine ⟨b, off, rfl, hlt, fun j hj => ?_⟩
    rw [hlen] at hj
    obtain ⟨e0, e1, e2, e3⟩ := hq j hj
    rw [hadd] at e0
    rw [hadd, hadd2] at e1 e2 e3
    have eg : ((List.range len).map f)[j]?.getD q0 = f j := by simp [hj]
    rw [eg]
    exact ⟨e0, e1, e2, e3⟩

set_option maxRecDepth 100000 in
/-- an argument that is one correction -/
theorem fix_opened {H : Type} {enc : TypeId × Value → H} {W : World} {base b0 : Nat} {spare : Nat → Bool} {held : Bool} {r : Reach} {v : Value} {d : DataW H} {p : List MemPlace}
    (hv : Value.okWide Try.prog W r b0 80 v) (h : DataW.Trod enc Try.prog W base spare held 80 v d p) : ∃ q : Quad, v = qv q := by
  obtain ⟨v0, v1, v2, v3, y0, y1, y2, y3, n, rfl, _, _, g0, g1, g2, g3⟩ := Joins.open_agg4 Try.underlying80 (by kernel_rfl) cells_lfix hv h
  obtain ⟨a0, e0, _, _⟩ := DataW.trod_int (cs := [v0]) (x := y0) Try.underlying3 g0
  obtain ⟨a1, e1, _, _⟩ := DataW.trod_int (cs := [v1]) (x := y1) Try.underlying3 g1
  obtain ⟨a2, e2, _, _⟩ := DataW.trod_int (cs := [v2]) (x := y2) Try.underlying3 g2
  obtain ⟨a3, e3, _, _⟩ := DataW.trod_int (cs := [v3]) (x := y3) Try.underlying3 g3
  simp only [List.cons.injEq, and_true] at e0 e1 e2 e3
  subst e0 e1 e2 e3
  exact ⟨(a0, a1, a2, a3), rfl⟩
end Go.Proofs.Ytdelcebkpdnnjaa
