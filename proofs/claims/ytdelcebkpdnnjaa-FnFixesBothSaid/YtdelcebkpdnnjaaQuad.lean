/-
  Plain words on memory: slices of structs of four ints (labels, corrections). Own work; no condition.
-/
import Derived.Test.YtdelcebkpdnnjaaInts
namespace Go.Proofs.Ytdelcebkpdnnjaa
open Go.RowKit

/-- four ints: a label (X, Y, Width, Weight) or a correction (Row, Col, Old, New) -/
abbrev Quad := Int × Int × Int × Int
def q0 : Quad := (0, 0, 0, 0)
/-- the struct's value -/
abbrev qv (q : Quad) : Value := .agg #[.int .i64 q.1, .int .i64 q.2.1, .int .i64 q.2.2.1, .int .i64 q.2.2.2]

/-- four cells from o on hold q -/
def QAt (w : World) (b o : Nat) (q : Quad) : Prop :=
  w.cell? ⟨b, o, none⟩ = some (.int .i64 q.1) ∧ w.cell? ⟨b, o + 1, none⟩ = some (.int .i64 q.2.1) ∧ w.cell? ⟨b, o + 2, none⟩ = some (.int .i64 q.2.2.1) ∧ w.cell? ⟨b, o + 3, none⟩ = some (.int .i64 q.2.2.2)
theorem QAt.below {B : Nat} {w w' : World} {b o : Nat} {q : Quad} (h : QAt w b o q) (hb : Below B w w') (hd : b < B) : QAt w' b o q := by
  obtain ⟨h1, h2, h3, h4⟩ := h
  exact ⟨(hb.cell (p := ⟨b, o, none⟩) hd).trans h1, (hb.cell (p := ⟨b, o + 1, none⟩) hd).trans h2, (hb.cell (p := ⟨b, o + 2, none⟩) hd).trans h3, (hb.cell (p := ⟨b, o + 3, none⟩) hd).trans h4⟩

/-- a struct that was just laid in a block of its own -/
theorem QAt_new (w : World) (q : Quad) (t : TypeId) : QAt (w.alloc (.cells #[.int .i64 q.1, .int .i64 q.2.1, .int .i64 q.2.2.1, .int .i64 q.2.2.2] t)) w.heap.size 0 q := by
  have h := heap_alloc_new w (.cells #[.int .i64 q.1, .int .i64 q.2.1, .int .i64 q.2.2.1, .int .i64 q.2.2.2] t)
  refine ⟨?_, ?_, ?_, ?_⟩ <;> unfold World.cell? <;> simp only [h] <;> rfl
/-- a struct in a block of its own, its four cells spelled plainly -/
theorem QAt.zero {w : World} {b : Nat} {q : Quad} (h : QAt w b 0 q) : w.cell? ⟨b, 0, none⟩ = some (.int .i64 q.1) ∧ w.cell? ⟨b, 1, none⟩ = some (.int .i64 q.2.1) ∧ w.cell? ⟨b, 2, none⟩ = some (.int .i64 q.2.2.1) ∧ w.cell? ⟨b, 3, none⟩ = some (.int .i64 q.2.2.2) := h

/-- block b holds the struct q -/
def QBox (b : Nat) (w : World) (q : Quad) : Prop := QAt w b 0 q ∧ b < w.heap.size
theorem QBox_new (w : World) (q : Quad) (t : TypeId) : QBox w.heap.size (w.alloc (.cells #[.int .i64 q.1, .int .i64 q.2.1, .int .i64 q.2.2.1, .int .i64 q.2.2.2] t)) q := ⟨QAt_new w q t, by simp⟩
theorem QBox.below {b B : Nat} {w w' : World} {q : Quad} (h : QBox b w q) (hb : Below B w w') (hd : b < B) : QBox b w' q := ⟨h.1.below hb hd, Nat.lt_of_lt_of_le h.2 hb.size⟩
theorem QBox.touch {b lo hi : Nat} {w w' : World} {q : Quad} (h : QBox b w q) (ht : Touch lo hi w w') (hd : b < lo) : QBox b w' q :=
  ⟨h.1.below (B := b + 1) (ht.below hd h.2) (by omega), Nat.lt_of_lt_of_le h.2 ht.size⟩
theorem QBox.cells {b : Nat} {w : World} {q : Quad} (h : QBox b w q) : w.cell? ⟨b, 0, none⟩ = some (.int .i64 q.1) ∧ w.cell? ⟨b, 1, none⟩ = some (.int .i64 q.2.1) ∧ w.cell? ⟨b, 2, none⟩ = some (.int .i64 q.2.2.1) ∧ w.cell? ⟨b, 3, none⟩ = some (.int .i64 q.2.2.2) := h.1

/-- v is a slice of structs that reads as l, all of it below B -/
def QuadsB (B : Nat) (w : World) (v : Value) (l : List Quad) : Prop :=
  ∃ a cap, v = .slice a l.length cap ∧ l.length ≤ cap ∧ cap ≤ 9223372036854775807 ∧
    (0 < l.length → ∃ b off, a = some ⟨b, off, none⟩ ∧ b < B ∧ ∀ j, j < l.length → QAt w b (off + j * 4) (l[j]?.getD q0))
def Quads (w : World) (v : Value) (l : List Quad) : Prop := QuadsB w.heap.size w v l

/-- .. made by the call: its block lies in [lo, hi), nothing of it is frozen -/
def OwnQ (lo hi : Nat) (w : World) (v : Value) (l : List Quad) : Prop :=
  (l = [] ∧ ∃ a cap, v = .slice a 0 cap ∧ cap ≤ 9223372036854775807) ∨
  ∃ b off cap t n f, v = .slice (some ⟨b, off, none⟩) l.length cap ∧ l.length ≤ cap ∧ cap ≤ 9223372036854775807 ∧ lo ≤ b ∧ b < hi ∧
    w.rowIs b t n f ∧ off + l.length * 4 ≤ n ∧ ∀ j, j < l.length → f (off + j * 4) = .int .i64 (l[j]?.getD q0).1 ∧ f (off + j * 4 + 1) = .int .i64 (l[j]?.getD q0).2.1 ∧ f (off + j * 4 + 2) = .int .i64 (l[j]?.getD q0).2.2.1 ∧ f (off + j * 4 + 3) = .int .i64 (l[j]?.getD q0).2.2.2

theorem QuadsB.quads {B : Nat} {w : World} {v : Value} {l : List Quad} (h : QuadsB B w v l) (hB : B ≤ w.heap.size) : Quads w v l := by
  obtain ⟨a, cap, rfl, h1, h2, h3⟩ := h
  refine ⟨a, cap, rfl, h1, h2, fun h => ?_⟩
  obtain ⟨b, off, rfl, hb', hc⟩ := h3 h
  exact ⟨b, off, rfl, by omega, hc⟩
theorem Quads.quadsB {w : World} {v : Value} {l : List Quad} (h : Quads w v l) : QuadsB w.heap.size w v l := h
theorem QuadsB.below {B B' : Nat} {w w' : World} {v : Value} {l : List Quad} (h : QuadsB B' w v l) (hb : Below B w w') (hd : B' ≤ B) : QuadsB B' w' v l := by
  obtain ⟨a, cap, rfl, h1, h2, h3⟩ := h
  refine ⟨a, cap, rfl, h1, h2, fun h => ?_⟩
  obtain ⟨b, off, rfl, hb', hc⟩ := h3 h
  exact ⟨b, off, rfl, hb', fun j hj => (hc j hj).below hb (by omega)⟩
theorem QuadsB.touch {B lo hi : Nat} {w w' : World} {v : Value} {l : List Quad} (h : QuadsB B w v l) (ht : Touch lo hi w w') (hd : B ≤ lo ∧ B ≤ w.heap.size) : QuadsB B w' v l :=
  h.below (ht.below hd.1 hd.2) (Nat.le_refl _)
theorem QuadsB.mono {B B' : Nat} {w : World} {v : Value} {l : List Quad} (h : QuadsB B w v l) (hB : B ≤ B') : QuadsB B' w v l := by
  obtain ⟨a, cap, rfl, h1, h2, h3⟩ := h
  refine ⟨a, cap, rfl, h1, h2, fun h => ?_⟩
  obtain ⟨b, off, rfl, hb', hc⟩ := h3 h
  exact ⟨b, off, rfl, by omega, hc⟩

theorem OwnQ.quadsB {lo hi : Nat} {w : World} {v : Value} {l : List Quad} (h : OwnQ lo hi w v l) : QuadsB hi w v l := by
  rcases h with ⟨rfl, a, cap, rfl, hc⟩ | ⟨b, off, cap, t, n, f, rfl, h1, h2, h3, h4, h5, h6, h7⟩
  · exact ⟨a, cap, rfl, Nat.zero_le _, hc, fun h => absurd h (by simp)⟩
  · refine ⟨_, cap, rfl, h1, h2, fun _ => ⟨b, off, rfl, h4, fun j hj => ?_⟩⟩
    obtain ⟨e1, e2, e3, e4⟩ := h7 j hj
    exact ⟨by rw [h5.cell (by omega), e1], by rw [h5.cell (by omega), e2], by rw [h5.cell (by omega), e3], by rw [h5.cell (by omega), e4]⟩
theorem OwnQ.quads {lo hi : Nat} {w : World} {v : Value} {l : List Quad} (h : OwnQ lo hi w v l) : Quads w v l := by
  rcases h with ⟨rfl, a, cap, rfl, hc⟩ | ⟨b, off, cap, t, n, f, rfl, h1, h2, h3, h4, h5, h6, h7⟩
  · exact ⟨a, cap, rfl, Nat.zero_le _, hc, fun h => absurd h (by simp)⟩
  · refine ⟨_, cap, rfl, h1, h2, fun _ => ⟨b, off, rfl, h5.lt, fun j hj => ?_⟩⟩
    obtain ⟨e1, e2, e3, e4⟩ := h7 j hj
    exact ⟨by rw [h5.cell (by omega), e1], by rw [h5.cell (by omega), e2], by rw [h5.cell (by omega), e3], by rw [h5.cell (by omega), e4]⟩
theorem OwnQ.touch {lo hi lo' hi' : Nat} {w w' : World} {v : Value} {l : List Quad} (h : OwnQ lo hi w v l) (ht : Touch lo' hi' w w') (hd : hi ≤ lo' ∨ hi' ≤ lo) : OwnQ lo hi w' v l := by
  rcases h with h | ⟨b, off, cap, t, n, f, rfl, h1, h2, h3, h4, h5, h6, h7⟩
  · exact .inl h
  · exact .inr ⟨b, off, cap, t, n, f, rfl, h1, h2, h3, h4, h5.of_block (ht.block b h5.lt (by omega)), h6, h7⟩
theorem OwnQ.below {lo hi B : Nat} {w w' : World} {v : Value} {l : List Quad} (h : OwnQ lo hi w v l) (hb : Below B w w') (hd : hi ≤ B) : OwnQ lo hi w' v l := by
  rcases h with h | ⟨b, off, cap, t, n, f, rfl, h1, h2, h3, h4, h5, h6, h7⟩
  · exact .inl h
  · exact .inr ⟨b, off, cap, t, n, f, rfl, h1, h2, h3, h4, h5.of_block (hb.block b (by omega)), h6, h7⟩
theorem OwnQ.mono {lo hi lo' hi' : Nat} {w : World} {v : Value} {l : List Quad} (h : OwnQ lo hi w v l) (h1 : lo' ≤ lo) (h2 : hi ≤ hi') : OwnQ lo' hi' w v l := by
  rcases h with h | ⟨b, off, cap, t, n, f, rfl, g1, g2, h3, h4, h5, h6, h7⟩
  · exact .inl h
  · exact .inr ⟨b, off, cap, t, n, f, rfl, g1, g2, by omega, by omega, h5, h6, h7⟩
theorem QuadsB.len {B : Nat} {w : World} {v : Value} {l : List Quad} (h : QuadsB B w v l) : l.length ≤ 9223372036854775807 := by
  obtain ⟨a, cap, rfl, h1, h2, h3⟩ := h; omega
theorem getQ_eq {l : List Quad} {k : Nat} (h : k < l.length) : l[k]?.getD q0 = l[k] := by simp [h]
theorem listQ_eq {la lb : List Quad} (hl : la.length = lb.length) (h : ∀ j, j < la.length → la[j]?.getD q0 = lb[j]?.getD q0) : la = lb := by
  refine List.ext_getElem hl fun i h1 h2 => ?_
  have := h i h1
  rwa [getQ_eq h1, getQ_eq h2] at this

/-- a row of structs made by the call, as 'OwnQ' -/
theorem ownQ_of_row {lo hi b cap n : Nat} {t : TypeId} {w : World} {l : List Quad} {f : Nat → Value} (h : w.rowIs b t n f) (hn : l.length * 4 ≤ n)
    (hf : ∀ j, j < l.length → f (j * 4) = .int .i64 (l[j]?.getD q0).1 ∧ f (j * 4 + 1) = .int .i64 (l[j]?.getD q0).2.1 ∧ f (j * 4 + 2) = .int .i64 (l[j]?.getD q0).2.2.1 ∧ f (j * 4 + 3) = .int .i64 (l[j]?.getD q0).2.2.2)
    (h1 : lo ≤ b) (h2 : b < hi) (hc : l.length ≤ cap) (hcap : cap ≤ 9223372036854775807) : OwnQ lo hi w (.slice (some ⟨b, 0, none⟩) l.length cap) l :=
  .inr ⟨b, 0, cap, t, n, f, rfl, hc, hcap, h1, h2, h, by omega, fun j hj => by rw [Nat.zero_add]; exact hf j hj⟩

/-- a store of a whole struct into a row -/
def setQ (f : Nat → Value) (o : Nat) (q : Quad) (j : Nat) : Value :=
  if j = o + 3 then .int .i64 q.2.2.2 else if j = o + 2 then .int .i64 q.2.2.1 else if j = o + 1 then .int .i64 q.2.1 else if j = o then .int .i64 q.1 else f j
theorem rowIs_setQ {w : World} {b n o : Nat} {t : TypeId} {f : Nat → Value} (h : w.rowIs b t n f) (q : Quad) :
    ((((w.setCell ⟨b, o, none⟩ (.int .i64 q.1)).setCell ⟨b, o + 1, none⟩ (.int .i64 q.2.1)).setCell ⟨b, o + 2, none⟩ (.int .i64 q.2.2.1)).setCell ⟨b, o + 3, none⟩ (.int .i64 q.2.2.2)).rowIs b t n (setQ f o q) :=
  ((((h.set o _).set (o + 1) _).set (o + 2) _).set (o + 3) _)
theorem setQ_other {f : Nat → Value} {o j : Nat} {q : Quad} (h : j < o ∨ o + 4 ≤ j) : setQ f o q j = f j := by
  unfold setQ; rw [if_neg (by omega), if_neg (by omega), if_neg (by omega), if_neg (by omega)]
theorem setQ_0 (f : Nat → Value) (o : Nat) (q : Quad) : setQ f o q o = .int .i64 q.1 := by
  unfold setQ; rw [if_neg (by omega), if_neg (by omega), if_neg (by omega), if_pos rfl]
theorem setQ_1 (f : Nat → Value) (o : Nat) (q : Quad) : setQ f o q (o + 1) = .int .i64 q.2.1 := by
  unfold setQ; rw [if_neg (by omega), if_neg (by omega), if_pos rfl]
theorem setQ_2 (f : Nat → Value) (o : Nat) (q : Quad) : setQ f o q (o + 2) = .int .i64 q.2.2.1 := by
  unfold setQ; rw [if_neg (by omega), if_pos rfl]
theorem setQ_3 (f : Nat → Value) (o : Nat) (q : Quad) : setQ f o q (o + 3) = .int .i64 q.2.2.2 := by
  unfold setQ; rw [if_pos rfl]
/-- struct number j of a row of cells is q -/
def QIs (f : Nat → Value) (o : Nat) (q : Quad) : Prop := f o = .int .i64 q.1 ∧ f (o + 1) = .int .i64 q.2.1 ∧ f (o + 2) = .int .i64 q.2.2.1 ∧ f (o + 3) = .int .i64 q.2.2.2
theorem QIs_set (f : Nat → Value) (o : Nat) (q : Quad) : QIs (setQ f o q) o q := ⟨setQ_0 .., setQ_1 .., setQ_2 .., setQ_3 ..⟩
theorem QIs_other {f : Nat → Value} {o o' : Nat} {q q' : Quad} (h : QIs f o' q') (hne : o' + 4 ≤ o ∨ o + 4 ≤ o') : QIs (setQ f o q) o' q' := by
  obtain ⟨h1, h2, h3, h4⟩ := h
  exact ⟨by rw [setQ_other (by omega), h1], by rw [setQ_other (by omega), h2], by rw [setQ_other (by omega), h3], by rw [setQ_other (by omega), h4]⟩

/-- cell number i of the structs of l laid side by side -/
def qcell (l : List Quad) (i : Nat) : Value :=
  match i % 4 with
  | 0 => .int .i64 (l[i / 4]?.getD q0).1
  | 1 => .int .i64 (l[i / 4]?.getD q0).2.1
  | 2 => .int .i64 (l[i / 4]?.getD q0).2.2.1
  | _ => .int .i64 (l[i / 4]?.getD q0).2.2.2
theorem qcell0 (l : List Quad) (j : Nat) : qcell l (j * 4) = .int .i64 (l[j]?.getD q0).1 := by
  unfold qcell; rw [show j * 4 % 4 = 0 by omega, show j * 4 / 4 = j by omega]; rfl
theorem qcell1 (l : List Quad) (j : Nat) : qcell l (j * 4 + 1) = .int .i64 (l[j]?.getD q0).2.1 := by
  unfold qcell; rw [show (j * 4 + 1) % 4 = 1 by omega, show (j * 4 + 1) / 4 = j by omega]; rfl
theorem qcell2 (l : List Quad) (j : Nat) : qcell l (j * 4 + 2) = .int .i64 (l[j]?.getD q0).2.2.1 := by
  unfold qcell; rw [show (j * 4 + 2) % 4 = 2 by omega, show (j * 4 + 2) / 4 = j by omega]; rfl
theorem qcell3 (l : List Quad) (j : Nat) : qcell l (j * 4 + 3) = .int .i64 (l[j]?.getD q0).2.2.2 := by
  unfold qcell; rw [show (j * 4 + 3) % 4 = 3 by omega, show (j * 4 + 3) / 4 = j by omega]; rfl
end Go.Proofs.Ytdelcebkpdnnjaa
