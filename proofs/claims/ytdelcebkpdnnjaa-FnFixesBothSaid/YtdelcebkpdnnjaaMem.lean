/-
  Plain words on memory for this seat's contracts: a slice of ints that reads as a list, a fresh row, what a callee may touch. Own work; no condition.
-/
import Derived.WalkKit
import Derived.Lib.Hide
import Derived.WalkSmall
import Derived.Deep.OwnRows
import Derived.Deep.Draws
import Derived.Test.YtdelcebkpdnnjaaProg
namespace Go.Proofs.Ytdelcebkpdnnjaa
open Go.RowKit

/-- v is a slice that reads as the list l of ints in w (it may be nil or empty). -/
def Ints (w : World) (v : Value) (l : List Int) : Prop :=
  ∃ a cap, v = .slice a l.length cap ∧ l.length ≤ cap ∧ cap ≤ 9223372036854775807 ∧
    (0 < l.length → ∃ b off, a = some ⟨b, off, none⟩ ∧ b < w.heap.size ∧
      ∀ j, j < l.length → w.cell? ⟨b, off + j, none⟩ = some (.int .i64 (l[j]?.getD 0)))

/-- v is a slice made by the call: its block lies in [lo, hi), nothing of it is frozen, and it reads as l. -/
def Own (lo hi : Nat) (w : World) (v : Value) (l : List Int) : Prop :=
  (l = [] ∧ ∃ a cap, v = .slice a 0 cap ∧ cap ≤ 9223372036854775807) ∨
  ∃ b off cap t n f, v = .slice (some ⟨b, off, none⟩) l.length cap ∧ l.length ≤ cap ∧ cap ≤ 9223372036854775807 ∧ lo ≤ b ∧ b < hi ∧
    w.rowIs b t n f ∧ off + l.length ≤ n ∧ ∀ j, j < l.length → f (off + j) = .int .i64 (l[j]?.getD 0)

theorem Own.ints {lo hi : Nat} {w : World} {v : Value} {l : List Int} (h : Own lo hi w v l) : Ints w v l := by
  rcases h with ⟨rfl, a, cap, rfl, hc⟩ | ⟨b, off, cap, t, n, f, rfl, h1, h2, h3, h4, h5, h6, h7⟩
  · exact ⟨a, cap, rfl, Nat.zero_le _, hc, fun h => absurd h (by simp)⟩
  · exact ⟨_, cap, rfl, h1, h2, fun _ => ⟨b, off, rfl, h5.lt, fun j hj => by rw [h5.cell (by omega), h7 j hj]⟩⟩

/-- what has not been touched: everything outside the blocks [lo, hi) is as it was -/
structure Touch (lo hi : Nat) (w w' : World) : Prop where
  os : w'.os = w.os
  tape : w'.tape = w.tape
  output : w'.output = w.output
  size : w.heap.size ≤ w'.heap.size
  block : ∀ k, k < w.heap.size → ¬ (lo ≤ k ∧ k < hi) → w'.heap[k]? = w.heap[k]?

theorem Touch.refl (lo hi : Nat) (w : World) : Touch lo hi w w := ⟨rfl, rfl, rfl, Nat.le_refl _, fun _ _ _ => rfl⟩
theorem Touch.trans {lo hi : Nat} {a b c : World} (h : Touch lo hi a b) (k : Touch lo hi b c) : Touch lo hi a c :=
  ⟨k.os.trans h.os, k.tape.trans h.tape, k.output.trans h.output, Nat.le_trans h.size k.size, fun i hi hn => (k.block i (Nat.lt_of_lt_of_le hi h.size) hn).trans (h.block i hi hn)⟩
theorem Touch.drewN {lo hi : Nat} {a b : World} (h : Touch lo hi a b) (n : Nat) : Touch lo hi a (b.drewN n) := h.trans ⟨rfl, rfl, rfl, Nat.le_refl _, fun _ _ _ => rfl⟩
theorem Touch.drew {lo hi : Nat} {a b : World} (h : Touch lo hi a b) : Touch lo hi a b.drew := h.trans ⟨rfl, rfl, rfl, Nat.le_refl _, fun _ _ _ => rfl⟩
theorem Touch.setCell {lo hi : Nat} {a w : World} (h : Touch lo hi a w) {p : Addr} (h1 : lo ≤ p.block) (h2 : p.block < hi) (u : Value) : Touch lo hi a (w.setCell p u) :=
  h.trans ⟨rfl, rfl, rfl, by simp [World.setCell], fun k _ hn => Below.heap_setCell _ _ _ _ (by omega)⟩
theorem Touch.mono {lo hi lo' hi' : Nat} {a b : World} (h : Touch lo hi a b) (h1 : lo' ≤ lo) (h2 : hi ≤ hi') : Touch lo' hi' a b :=
  ⟨h.os, h.tape, h.output, h.size, fun k hk hn => h.block k hk (by omega)⟩
theorem Touch.below {lo hi B : Nat} {a b : World} (h : Touch lo hi a b) (hB : B ≤ lo) (hs : B ≤ a.heap.size) : Below B a b :=
  ⟨h.os, h.tape, h.output, h.size, fun k hk => h.block k (by omega) (by omega)⟩
theorem _root_.Go.RowKit.Below.touch {B : Nat} {a b : World} (h : Below B a b) (hi : Nat) (hh : a.heap.size ≤ hi) : Touch B hi a b :=
  ⟨h.os, h.tape, h.output, h.size, fun k hk hn => h.block k (by omega)⟩

theorem below_n {B : Nat} {a b : World} (h : Below B a b) (n : Nat) : Below B a (b.drewN n) := below_drewN h n

theorem Own.touch {lo hi lo' hi' : Nat} {w w' : World} {v : Value} {l : List Int} (h : Own lo hi w v l) (ht : Touch lo' hi' w w') (hd : hi ≤ lo' ∨ hi' ≤ lo) : Own lo hi w' v l := by
  rcases h with h | ⟨b, off, cap, t, n, f, rfl, h1, h2, h3, h4, h5, h6, h7⟩
  · exact .inl h
  · exact .inr ⟨b, off, cap, t, n, f, rfl, h1, h2, h3, h4, h5.of_block (ht.block b h5.lt (by omega)), h6, h7⟩
theorem Own.below {lo hi B : Nat} {w w' : World} {v : Value} {l : List Int} (h : Own lo hi w v l) (hb : Below B w w') (hd : hi ≤ B) : Own lo hi w' v l := by
  rcases h with h | ⟨b, off, cap, t, n, f, rfl, h1, h2, h3, h4, h5, h6, h7⟩
  · exact .inl h
  · exact .inr ⟨b, off, cap, t, n, f, rfl, h1, h2, h3, h4, h5.of_block (hb.block b (by omega)), h6, h7⟩
theorem Own.mono {lo hi lo' hi' : Nat} {w : World} {v : Value} {l : List Int} (h : Own lo hi w v l) (h1 : lo' ≤ lo) (h2 : hi ≤ hi') : Own lo' hi' w v l := by
  rcases h with h | ⟨b, off, cap, t, n, f, rfl, g1, g2, h3, h4, h5, h6, h7⟩
  · exact .inl h
  · exact .inr ⟨b, off, cap, t, n, f, rfl, g1, g2, by omega, by omega, h5, h6, h7⟩
theorem Ints.below {B : Nat} {w w' : World} {v : Value} {l : List Int} (h : Ints w v l) (hb : Below B w w') (hd : w.heap.size ≤ B) : Ints w' v l := by
  obtain ⟨a, cap, rfl, h1, h2, h3⟩ := h
  refine ⟨a, cap, rfl, h1, h2, fun h => ?_⟩
  obtain ⟨b, off, rfl, hb', hc⟩ := h3 h
  exact ⟨b, off, rfl, by have := hb.size; omega, fun j hj => by rw [hb.cell (p := ⟨b, off + j, none⟩) (by show b < B; omega)]; exact hc j hj⟩
theorem Ints.drewN {w : World} {v : Value} {l : List Int} (h : Ints w v l) (n : Nat) : Ints (w.drewN n) v l := h.below (below_drewN (Below.refl w.heap.size w) n) (Nat.le_refl _)
theorem Ints.len {w : World} {v : Value} {l : List Int} (h : Ints w v l) : l.length ≤ 9223372036854775807 := by
  obtain ⟨a, cap, rfl, h1, h2, h3⟩ := h; omega

/-- as Ints, all of it in blocks below B: for an argument -/
def IntsB (B : Nat) (w : World) (v : Value) (l : List Int) : Prop :=
  ∃ a cap, v = .slice a l.length cap ∧ l.length ≤ cap ∧ cap ≤ 9223372036854775807 ∧
    (0 < l.length → ∃ b off, a = some ⟨b, off, none⟩ ∧ b < B ∧
      ∀ j, j < l.length → w.cell? ⟨b, off + j, none⟩ = some (.int .i64 (l[j]?.getD 0)))
theorem IntsB.ints {B : Nat} {w : World} {v : Value} {l : List Int} (h : IntsB B w v l) (hB : B ≤ w.heap.size) : Ints w v l := by
  obtain ⟨a, cap, rfl, h1, h2, h3⟩ := h
  refine ⟨a, cap, rfl, h1, h2, fun h => ?_⟩
  obtain ⟨b, off, rfl, hb', hc⟩ := h3 h
  exact ⟨b, off, rfl, by omega, hc⟩
theorem Ints.intsB {w : World} {v : Value} {l : List Int} (h : Ints w v l) : IntsB w.heap.size w v l := h
theorem IntsB.below {B B' : Nat} {w w' : World} {v : Value} {l : List Int} (h : IntsB B' w v l) (hb : Below B w w') (hd : B' ≤ B) : IntsB B' w' v l := by
  obtain ⟨a, cap, rfl, h1, h2, h3⟩ := h
  refine ⟨a, cap, rfl, h1, h2, fun h => ?_⟩
  obtain ⟨b, off, rfl, hb', hc⟩ := h3 h
  exact ⟨b, off, rfl, hb', fun j hj => by rw [hb.cell (p := ⟨b, off + j, none⟩) (by show b < B; omega)]; exact hc j hj⟩
theorem IntsB.touch {B lo hi : Nat} {w w' : World} {v : Value} {l : List Int} (h : IntsB B w v l) (ht : Touch lo hi w w') (hd : B ≤ lo ∧ B ≤ w.heap.size) : IntsB B w' v l :=
  h.below (ht.below hd.1 hd.2) (Nat.le_refl _)

/-- what a row's opened slice of ints is in these words -/
theorem Ints_nil (w : World) : Ints w (.slice none 0 0) [] := ⟨none, 0, rfl, Nat.le_refl _, by omega, fun h => absurd h (by simp)⟩
theorem Ints_open {w : World} {x : Addr} {len cap : Nat} {zs : List Int} (hl : len ≤ cap) (hm : cap ≤ maxLen) (hz : zs.length = cap)
    (hcell : ∀ i, i < zs.length → w.cell? (x.add i) = some (.int .i64 (zs.getD i 0))) (_hwz : ∀ n ∈ zs, (Lit.int .i64 n).wf = true) : Ints w (.slice (some x) len cap) (zs.take len) := by
  have hlen : (zs.take len).length = len := by simp; omega
  unfold maxLen at hm
  refine ⟨some x, cap, by rw [hlen], by rw [hlen]; exact hl, hm, fun h => ?_⟩
  rw [hlen] at h
  obtain ⟨b, off, spot⟩ := x
  have hc := hcell 0 (by omega)
  have hspot : spot = none := by simpa [Addr.add] using World.cell?_spot hc
  subst hspot
  refine ⟨b, off, rfl, World.block_lt_of_cell? w ⟨b, off, none⟩ (by simpa [Addr.add] using hc), fun j hj => ?_⟩
  have hc := hcell j (by omega)
  rw [show (⟨b, off, none⟩ : Addr).add j = ⟨b, off + j, none⟩ by unfold Addr.add; split <;> simp_all] at hc
  rw [hc]
  rw [hlen] at hj
  simp [hj]

end Go.Proofs.Ytdelcebkpdnnjaa
