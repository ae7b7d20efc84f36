/-
  The reader of the draws (l6Rd): l6Open and pick. Conditions: fewer than 2^30 picks; pick is asked for one of at least one and at most a million.
  The draws of grids: rows that are being built, and l91Rough. Conditions: the reader has picked fewer than a million times.
  l91Rough: a drawn list of rows. Conditions: up to eight rows and columns; the reader has picked fewer than a hundred thousand times.
  l91Grid, l92Sides: drawn grids. Conditions: the reader has picked fewer than fifty thousand times.
  l92Some: so many corrections of a grid are drawn, seldom other ones; nothing that was there turns but the reader. Conditions: a reader; a drawn grid beside it.
  l92Fixes, DrawFixesValid, DrawFixesRise: a drawn grid and corrections of it. No condition.
  l92Short, l92Both, DrawFixesClash, DrawFixesAre, DrawFixesBoth. No condition.
  Plain laws of both lists' corrections: the lists may be changed round, and what is left to do once the first list is done. No condition.
  The laws' sameInts and sameGrid; an argument of bytes opened. No condition.
  The laws' sameFixes. No condition.
-/
import Derived.Test.YtdelcebkpdnnjaaInts
import Derived.Test.YtdelcebkpdnnjaaCopy
import Derived.Test.YtdelcebkpdnnjaaSpecDo
import Derived.Test.YtdelcebkpdnnjaaBothAll
import Derived.Test.YtdelcebkpdnnjaaGap2
import Derived.Test.YtdelcebkpdnnjaaClash
import Derived.Deep.AppendLies
import Derived.StillTailTactics
import Derived.Maps.AppendAt
import Derived.Deep.Slices
import Derived.OpenShut
namespace Go.Proofs.Ytdelcebkpdnnjaa
open Go.RowKit Go.Deep

/-- n bytes lie behind a, all of it below B -/
def Byts (B : Nat) (w : World) (a : Option Addr) (n : Nat) : Prop :=
  0 < n → ∃ b off, a = some ⟨b, off, none⟩ ∧ b < B ∧ ∃ f : Nat → Nat, ∀ j, j < n → w.cell? ⟨b, off + j, none⟩ = some (.int .u8 (f j : Int)) ∧ f j ≤ 255
/-- an argument of bytes -/
def Bytes (w : World) (v : Value) (n : Nat) : Prop := ∃ a cap, v = .slice a n cap ∧ n ≤ cap ∧ cap ≤ 9223372036854775807 ∧ Byts w.heap.size w a n
theorem Byts.below {B B' : Nat} {w w' : World} {a : Option Addr} {n : Nat} (h : Byts B' w a n) (hb : Below B w w') (hd : B' ≤ B) : Byts B' w' a n := by
  intro hn
  obtain ⟨b, off, rfl, hlt, f, hf⟩ := h hn
  exact ⟨b, off, rfl, hlt, f, fun j hj => ⟨(hb.cell (p := ⟨b, off + j, none⟩) (by show b < B; omega)).trans (hf j hj).1, (hf j hj).2⟩⟩

/-- block R is a reader that has picked P times -/
structure Rd (w : World) (R P : Nat) : Prop where
  ex : ∃ a n cap, n ≤ 2000 ∧ w.cell? ⟨R, 0, none⟩ = some (.slice a n cap) ∧ Byts R w a n
  pos : w.cell? ⟨R, 1, none⟩ = some (.int .i64 (P : Int))
  free : w.frozen? ⟨R, 1, none⟩ = false
  lt : R < w.heap.size
theorem Rd.below {w w' : World} {R P B : Nat} (h : Rd w R P) (hb : Below B w w') (hd : R < B) : Rd w' R P := by
  obtain ⟨⟨a, n, cap, h1, h2, h3⟩, h4, h5, h6⟩ := h
  exact ⟨⟨a, n, cap, h1, (hb.cell (p := ⟨R, 0, none⟩) hd).trans h2, h3.below hb (by omega)⟩, (hb.cell (p := ⟨R, 1, none⟩) hd).trans h4, (hb.frozen (p := ⟨R, 1, none⟩) hd).trans h5, Nat.lt_of_lt_of_le h6 hb.size⟩
theorem Rd.touch {w w' : World} {R P lo hi : Nat} (h : Rd w R P) (ht : Touch lo hi w w') (hd : R < lo) : Rd w' R P :=
  h.below (B := R + 1) (ht.below (by omega) h.lt) (by omega)

theorem Rd_new {w : World} {a : Option Addr} {n cap : Nat} {t : TypeId} (hn : n ≤ 2000) (h : Byts w.heap.size w a n) : Rd (w.alloc (.cells #[.slice a n cap, .int .i64 0] t)) w.heap.size 0 := by
  have hh := heap_alloc_new w (.cells #[.slice a n cap, .int .i64 0] t)
  refine ⟨⟨a, n, cap, hn, ?_, h.below ((Below.refl _ _).alloc (Nat.le_refl _) _) (Nat.le_refl _)⟩, ?_, ?_, by simp⟩
  · unfold World.cell?; simp only [hh]; rfl
  · unfold World.cell?; simp only [hh]; rfl
  · unfold World.frozen?; simp only [hh]; rfl
theorem Byts.less {B : Nat} {w : World} {a : Option Addr} {n m : Nat} (h : Byts B w a n) (hm : m ≤ n) : Byts B w a m := by
  intro hp
  obtain ⟨b, off, rfl, hlt, f, hf⟩ := h (by omega)
  exact ⟨b, off, rfl, hlt, f, fun j hj => hf j (by omega)⟩
theorem Rd.step {w : World} {R P : Nat} (h : Rd w R P) : Rd (w.setCell ⟨R, 1, none⟩ (.int .i64 ((P + 1 : Nat) : Int))) R (P + 1) ∧ Touch R (R + 1) w (w.setCell ⟨R, 1, none⟩ (.int .i64 ((P + 1 : Nat) : Int))) := by
  have ht : Touch R (R + 1) w (w.setCell ⟨R, 1, none⟩ (.int .i64 ((P + 1 : Nat) : Int))) := (Touch.refl R (R + 1) w).setCell (p := ⟨R, 1, none⟩) (Nat.le_refl R) (Nat.lt_succ_self R) _
  obtain ⟨⟨a, n, cap, h1, h2, h3⟩, h4, h5, h6⟩ := h
  refine ⟨⟨⟨a, n, cap, h1, ?_, h3.below (ht.below (Nat.le_refl _) (Nat.le_of_lt h6)) (Nat.le_refl _)⟩, ?_, ?_, by simpa using h6⟩, ht⟩
  · rw [World.cell?_setCell_other w ⟨R, 1, none⟩ ⟨R, 0, none⟩ _ (by simp)]; exact h2
  · exact World.cell?_setCell_same w ⟨R, 1, none⟩ _ h4
  · rw [World.frozen?_setCell]; exact h5

set_option maxHeartbeats 400000 in
set_option maxRecDepth 100000 in
theorem l6Open_any (v : Value) (n : Nat) (w : World) (h : Bytes w v n) :
    Calls Try.prog 45 #[v] w fun e w' => e = .returned (.pointer (some ⟨w.heap.size, 0, none⟩)) ∧ Rd w' w.heap.size 0 ∧ Below w.heap.size w w' := by
  obtain ⟨a, cap, rfl, h1, h2, h3⟩ := h
  have H := Lib.hid h3
  clear h3
  by_cases hbig : 2000 < n
  · have hb' : (2000 : Int) < (n : Int) := by omega
    have hc' : 2000 ≤ cap := by omega
    go_enter Try.func45, Try.ntmps45
    go_wp2
    go_ret
    exact ⟨rfl, Rd_new (by omega) (H.out.less (by omega)), (Below.refl _ _).alloc (Nat.le_refl _) _⟩
  · have hb' : ¬ (2000 : Int) < (n : Int) := by omega
    go_enter Try.func45, Try.ntmps45
    go_wp2
    go_ret
    exact ⟨rfl, Rd_new (by omega) H.out, (Below.refl _ _).alloc (Nat.le_refl _) _⟩

theorem xor_i64 (a b : Nat) (ha : a ≤ 1099511627776) (hb : b ≤ 1099511627776) : bits .xor .i64 (a : Int) (b : Int) = ((a ^^^ b : Nat) : Int) := by
  have hx : a ^^^ b < 2 ^ 41 := Nat.xor_lt_two_pow (by omega) (by omega)
  have h1 : (BitVec.ofInt 64 (a : Int)).toNat = a := by
    rw [BitVec.ofInt_natCast, BitVec.toNat_ofNat]; exact Nat.mod_eq_of_lt (by omega)
  have h2 : (BitVec.ofInt 64 (b : Int)).toNat = b := by
    rw [BitVec.ofInt_natCast, BitVec.toNat_ofNat]; exact Nat.mod_eq_of_lt (by omega)
  show IntKind.i64.wrap ((BitVec.ofInt 64 (a : Int) ^^^ BitVec.ofInt 64 (b : Int)).toNat : Int) = _
  rw [BitVec.toNat_xor, h1, h2]
  exact IntWalk.i64_in _ (by omega)
theorem xor_shift (X : Nat) (h : X ≤ 1099511627776) : bits .xor .i64 (X : Int) ((X : Int) / 64) = ((X ^^^ X / 64 : Nat) : Int) := by
  rw [show (X : Int) / 64 = ((X / 64 : Nat) : Int) by omega]
  exact xor_i64 _ _ h (by omega)

/-- what pick hands back -/
def Picked (w : World) (R P : Nat) (n : Nat) (e : Ending) (w' : World) : Prop := ∃ k : Nat, e = .returned (.int .i64 (k : Int)) ∧ k < n ∧ Rd w' R (P + 1) ∧ Touch R (R + 1) w w'

set_option maxHeartbeats 2000000 in
set_option maxRecDepth 100000 in
theorem pick_any (R P n : Nat) (w : World) (h : Rd w R P) (hP : P ≤ 1073741824) (hn1 : 1 ≤ n) (hn2 : n ≤ 1000000) :
    Calls Try.prog 77 #[.pointer (some ⟨R, 0, none⟩), .int .i64 (n : Int)] w (Picked w R P n) := by
  obtain ⟨⟨a, m, cap, h1, h2, h3⟩, h4, h5, h6⟩ := id h
  have HS := Lib.hid h.step
  have d0 : decide ((n : Int) < 1) = false := decide_eq_false (by omega)
  have H3 := Lib.hid h3
  clear h h3
  by_cases hm : m = 0
  · subst hm
    go_enter Try.func77, Try.ntmps77
    go_wp2
    go_ret
    exact ⟨0, rfl, by omega, HS.out.1, HS.out.2⟩
  obtain ⟨b, off, rfl, hbR, f, hf⟩ := H3.out (by omega)
  have hne : ¬ b = R := by omega
  have hne' : ¬ R = b := by omega
  have hm1 : ((m : Int) == 0) = false := by simp; omega
  have HF := Lib.hid hf
  have hm0 : 0 < m := by omega
  clear hf hm
  by_cases hlt : P < m
  · obtain ⟨c0, c1⟩ := HF.out P hlt
    obtain ⟨x, hx⟩ : ∃ x, x = f P := ⟨_, rfl⟩
    rw [← hx] at c0 c1
    clear hx
    go_enter Try.func77, Try.ntmps77
    go_wp2
    go_ret
    exact ⟨x % n, rfl, Nat.mod_lt _ (by omega), HS.out.1, HS.out.2⟩
  · obtain ⟨c0, c1⟩ := HF.out (P % m) (Nat.mod_lt _ (by omega))
    obtain ⟨e0, e1⟩ := HF.out ((P * 7 + 3) % m) (Nat.mod_lt _ (by omega))
    obtain ⟨x, hx⟩ : ∃ x, x = f (P % m) := ⟨_, rfl⟩
    obtain ⟨y, hy⟩ : ∃ y, y = f ((P * 7 + 3) % m) := ⟨_, rfl⟩
    rw [← hx] at c0 c1
    rw [← hy] at e0 e1
    clear hx hy
    have hd : P / m ≤ P := Nat.div_le_self _ _
    have z1 : (0 : Int) ≤ (P : Int) % (m : Int) := Int.emod_nonneg _ (by omega)
    have z2 : (P : Int) % (m : Int) < (m : Int) := Int.emod_lt_of_pos _ (by omega)
    have z3 : (0 : Int) ≤ ((P : Int) * 7 + 3) % (m : Int) := Int.emod_nonneg _ (by omega)
    have z4 : ((P : Int) * 7 + 3) % (m : Int) < (m : Int) := Int.emod_lt_of_pos _ (by omega)
    have z5 : (((P : Int) * 7 + 3) % (m : Int)).toNat = (P * 7 + 3) % m := by
      rw [show (P : Int) * 7 + 3 = ((P * 7 + 3 : Nat) : Int) by omega, ← Int.natCast_emod, Int.toNat_natCast]
    have z6 : (0 : Int) ≤ (P : Int) / (m : Int) := Int.ediv_nonneg (by omega) (by omega)
    have z7 : (P : Int) / (m : Int) ≤ (P : Int) := by rw [← Int.natCast_ediv]; omega
    go_enter Try.func77, Try.ntmps77
    go_wp2
    go_quiet (fail)
    obtain ⟨X, hX⟩ : ∃ X : Nat, (x : Int) * 131 + (y : Int) * 1117 + (P : Int) * 29 + (P : Int) / (m : Int) * 53 = (X : Int) := ⟨_, (Int.toNat_of_nonneg (by omega)).symm⟩
    have hXb : X ≤ 1099511627776 := by omega
    rw [hX]
    clear hX z1 z2 z3 z4 z5 z6 z7
    have hx2 := xor_shift X hXb
    obtain ⟨Y, hY⟩ : ∃ Y, Y = X ^^^ X / 64 := ⟨_, rfl⟩
    rw [← hY] at hx2
    clear hY
    go_wp2
    go_ret
    exact ⟨Y % n, rfl, Nat.mod_lt _ (by omega), HS.out.1.below (below_drewN (Below.refl w.heap.size _) _) (by omega), HS.out.2.drewN _⟩
end Go.Proofs.Ytdelcebkpdnnjaa
namespace Go.Proofs.Ytdelcebkpdnnjaa
open Go.RowKit Go.Deep

theorem pick_i (R P : Nat) (m : Int) (w : World) (h : Rd w R P) (hP : P ≤ 1000000) (h1 : 1 ≤ m) (h2 : m ≤ 1000000) :
    Calls Try.prog 77 #[.pointer (some ⟨R, 0, none⟩), .int .i64 m] w fun e w' => ∃ k : Int, e = .returned (.int .i64 k) ∧ 0 ≤ k ∧ k < m ∧ Rd w' R (P + 1) ∧ Touch R (R + 1) w w' := by
  obtain ⟨n, rfl⟩ : ∃ n : Nat, m = (n : Int) := ⟨m.toNat, by omega⟩
  refine (pick_any R P n w h (by omega) (by omega) (by omega)).mono fun e w' hp => ?_
  obtain ⟨k, he, hk, hr, ht⟩ := hp
  exact ⟨(k : Int), he, by omega, by omega, hr, ht⟩
theorem Touch.then {lo hi : Nat} {a b c : World} (h : Touch lo hi a b) (k : Below a.heap.size b c) : Touch lo hi a c :=
  ⟨k.os.trans h.os, k.tape.trans h.tape, k.output.trans h.output, Nat.le_trans h.size k.size, fun i hi' hn => (k.block i hi').trans (h.block i hi' hn)⟩
theorem Touch.grown {R : Nat} {a b c : World} {row : Option Nat} (h : Touch R (R + 1) a b) (hg : b.grownBy c row) (hr : ∀ k, row = some k → a.heap.size ≤ k) : Touch R (R + 1) a c :=
  ⟨hg.os.trans h.os, hg.tape.trans h.tape, hg.output.trans h.output, Nat.le_trans h.size hg.size, fun k hk hn => (hg.block k (Nat.lt_of_lt_of_le hk h.size) (fun e => by have := hr k e.symm; omega)).trans (h.block k hk hn)⟩
theorem ownsRow_pick {w w' : World} {R base n size : Nat} {e : TypeId} {v : Value} {xs : List Value} (h : w.ownsRow base e size v n xs) (ht : Touch R (R + 1) w w') (hR : R < base) : w'.ownsRow base e size v n xs :=
  h.kept (row := some R) ⟨ht.os, ht.tape, ht.output, ht.size, fun k hk hne => ht.block k hk (fun hh => hne (by rw [show k = R by omega]))⟩ (by
    cases hb : v.ownBlock with
    | none => exact .inl rfl
    | some g => right; intro e; have hg := (h.lt g hb).1; simp at e; omega)
/-- a row that lies below M is as it was behind an append to one beyond -/
theorem ownsRow_far {w w' : World} {base n size M : Nat} {e : TypeId} {v : Value} {xs : List Value} {row : Option Nat} (h : w.ownsRow base e size v n xs) (hg : w.grownBy w' row) (hv : ∀ b, v.ownBlock = some b → b < M) (hrow : ∀ b, row = some b → M ≤ b) : w'.ownsRow base e size v n xs :=
  h.kept hg (by
    cases hb : v.ownBlock with
    | none => exact .inl rfl
    | some g => right; intro e; have h1 := hv g hb; have h2 := hrow g e.symm; omega)
/-- a row of ints is as it was behind an append to a row of slices -/
theorem ownsRow_tag {w w' : World} {lo base n m : Nat} {v u : Value} {xs zs : List Value} (h : w.ownsRow base 3 1 v n xs) (hu : w.ownsRow lo 27 1 u m zs) (hg : w.grownBy w' u.ownBlock) : w'.ownsRow base 3 1 v n xs :=
  h.kept hg (by
    rcases h.2 with ⟨rfl, _⟩ | ⟨g, cap, cur, rfl, _, hh, _⟩
    · exact .inl rfl
    · right
      intro e
      rcases hu.2 with ⟨rfl, _⟩ | ⟨g', cap', cur', rfl, _, hh', _⟩
      · cases e
      · have hgg : g = g' := by simpa [Value.ownBlock] using e
        rw [hgg, hh'] at hh
        have : (27 : TypeId) = 3 := by injection hh with h1; injection h1
        exact absurd this (by decide))
theorem rowO_own {lo : Nat} {w : World} {v : Value} {l : List Int} (h : w.ownsRow lo 3 1 v l.length (l.map (Value.int .i64))) : RowO lo w.heap.size (v.ownBlock.getD 0) w v l := by
  obtain ⟨h1, h2⟩ := h
  rcases h2 with ⟨rfl, hn⟩ | ⟨g, cap, cur, rfl, hg, hh, hc, hm, hs, ht⟩
  · obtain rfl : l = [] := List.length_eq_zero_iff.1 hn
    exact .inl ⟨rfl, none, 0, rfl, by omega⟩
  · have hlt : g < w.heap.size := (Array.getElem?_eq_some_iff.1 hh).1
    unfold maxLen at hm
    refine .inr ⟨cap, cap, fun j => cur[j]?.getD (.int .i64 0), rfl, hc, hm, hg, hlt, ⟨cur, hh, by omega, fun i hi => ?_⟩, by omega, fun j hj => ?_⟩
    · simp [Array.getElem?_eq_getElem (show i < cur.size by omega)]
    · have e : (cur.toList.take (l.length * 1))[j]? = (l.map (Value.int .i64))[j]? := by rw [ht]
      rw [List.getElem?_take, if_pos (by omega)] at e
      have e2 : cur[j]? = some (Value.int .i64 (l[j]?.getD 0)) := by
        rw [← Array.getElem?_toList, e]; simp [hj]
      show cur[j]?.getD _ = _
      rw [e2]; rfl

/-- rows that the call made, each an owned row of its own block below M -/
def RowsW (lo M : Nat) (w : World) (xs : List Value) (g : Rows) : Prop :=
  xs.length = g.length ∧ (∀ j, j < g.length → w.ownsRow lo 3 1 (xs[j]?.getD undef) (g[j]?.getD []).length ((g[j]?.getD []).map (Value.int .i64)) ∧ ∀ b, (xs[j]?.getD undef).ownBlock = some b → b < M) ∧
  ∀ i j, i < g.length → j < g.length → i ≠ j → (xs[i]?.getD undef).ownBlock = none ∨ (xs[i]?.getD undef).ownBlock ≠ (xs[j]?.getD undef).ownBlock
theorem RowsW.pick {lo M R : Nat} {w w' : World} {xs : List Value} {g : Rows} (h : RowsW lo M w xs g) (ht : Touch R (R + 1) w w') (hR : R < lo) : RowsW lo M w' xs g :=
  ⟨h.1, fun j hj => ⟨ownsRow_pick (h.2.1 j hj).1 ht hR, (h.2.1 j hj).2⟩, h.2.2⟩
theorem RowsW.far {lo M : Nat} {w w' : World} {xs : List Value} {g : Rows} {row : Option Nat} (h : RowsW lo M w xs g) (hg : w.grownBy w' row) (hrow : ∀ b, row = some b → M ≤ b) : RowsW lo M w' xs g :=
  ⟨h.1, fun j hj => ⟨ownsRow_far (h.2.1 j hj).1 hg (h.2.1 j hj).2 hrow, (h.2.1 j hj).2⟩, h.2.2⟩
theorem RowsW.below {lo M : Nat} {w w' : World} {xs : List Value} {g : Rows} (h : RowsW lo M w xs g) (hb : Below w.heap.size w w') : RowsW lo M w' xs g :=
  ⟨h.1, fun j hj => ⟨ownsRow_bel (h.2.1 j hj).1 hb, (h.2.1 j hj).2⟩, h.2.2⟩
theorem RowsW.mono {lo M M' : Nat} {w : World} {xs : List Value} {g : Rows} (h : RowsW lo M w xs g) (hM : M ≤ M') : RowsW lo M' w xs g :=
  ⟨h.1, fun j hj => ⟨(h.2.1 j hj).1, fun b hb => Nat.lt_of_lt_of_le ((h.2.1 j hj).2 b hb) hM⟩, h.2.2⟩
theorem getR_app {g : Rows} {l : List Int} {j : Nat} : (g ++ [l])[j]?.getD [] = if j < g.length then g[j]?.getD [] else if j = g.length then l else [] := by
  by_cases e : j < g.length
  · rw [if_pos e, List.getElem?_append_left e]
  · rw [if_neg e, List.getElem?_append_right (by omega)]
    by_cases e2 : j = g.length
    · subst e2; simp
    · rw [if_neg e2, List.getElem?_eq_none (by simp; omega)]; rfl
theorem getV_app {xs : List Value} {v : Value} {j : Nat} (h : j < xs.length + 1) : (xs ++ [v])[j]?.getD undef = if j < xs.length then xs[j]?.getD undef else v := by
  by_cases e : j < xs.length
  · rw [if_pos e, List.getElem?_append_left e]
  · rw [if_neg e, List.getElem?_append_right (by omega), show j - xs.length = 0 by omega]; rfl
/-- one row more: its block lies in [M, M') -/
theorem RowsW.snoc {lo M M' : Nat} {w w' : World} {xs zs : List Value} {g : Rows} {v u : Value} {l : List Int} {m : Nat} (h : RowsW lo M w xs g) (hl : w.ownsRow lo 3 1 v l.length (l.map (Value.int .i64))) (hv : ∀ b, v.ownBlock = some b → M ≤ b ∧ b < M') (hM : M ≤ M')
    (hu : w.ownsRow lo 27 1 u m zs) (hg : w.grownBy w' u.ownBlock) : RowsW lo M' w' (xs ++ [v]) (g ++ [l]) := by
  obtain ⟨h1, h2, h3⟩ := h
  refine ⟨by simp [h1], fun j hj => ?_, fun i j hi hj hne => ?_⟩
  · rw [List.length_append, List.length_cons, List.length_nil] at hj
    rw [getV_app (by omega), getR_app, h1]
    by_cases e : j < g.length
    · rw [if_pos e, if_pos e]
      exact ⟨ownsRow_tag (h2 j e).1 hu hg, fun b hb => by have := (h2 j e).2 b hb; omega⟩
    · rw [if_neg e, if_neg e, if_pos (by omega)]
      exact ⟨ownsRow_tag hl hu hg, fun b hb => (hv b hb).2⟩
  · rw [List.length_append, List.length_cons, List.length_nil] at hi hj
    rw [getV_app (by omega), getV_app (by omega), h1]
    have new : ∀ i, i < g.length → ∀ b, (xs[i]?.getD undef).ownBlock = some b → v.ownBlock ≠ some b := fun i hi b hb hv' => by
      have := (h2 i hi).2 b hb
      have := (hv b hv').1
      omega
    by_cases ei : i < g.length
    · rw [if_pos ei]
      by_cases ej : j < g.length
      · rw [if_pos ej]; exact h3 i j ei ej hne
      · rw [if_neg ej]
        cases hb : (xs[i]?.getD undef).ownBlock with
        | none => exact .inl rfl
        | some b => exact .inr fun e => new i ei b hb e.symm
    · rw [if_neg ei, if_pos (by omega)]
      cases hb : v.ownBlock with
      | none => exact .inl rfl
      | some b =>
        right
        intro e
        exact new j (by omega) b e.symm hb
theorem RowsW.ownG {lo M hi : Nat} {w : World} {xs : List Value} {g : Rows} {v : Value} (h : RowsW lo M w xs g) (ho : w.ownsRow lo 27 1 v g.length xs) (hhi : w.heap.size ≤ hi) : OwnG lo hi w v g := by
  obtain ⟨h1, h2, h3⟩ := h
  refine ownG_of_rows (Bs := fun j => (xs[j]?.getD undef).ownBlock.getD 0) ho ⟨h1, fun j hj => rowO_own (h2 j hj).1, fun i j hi hj hne e1 e2 => ?_⟩ hhi
  have f1 := (h2 i hi).1.form (by cases hh : (g[i]?.getD []) with
    | nil => exact absurd hh e1
    | cons _ _ => simp)
  have f2 := (h2 j hj).1.form (by cases hh : (g[j]?.getD []) with
    | nil => exact absurd hh e2
    | cons _ _ => simp)
  obtain ⟨b1, c1, q1, _⟩ := f1
  obtain ⟨b2, c2, q2, _⟩ := f2
  have h3' := h3 i j hi hj hne
  dsimp only
  rw [q1, q2] at h3' ⊢
  simp only [Value.ownBlock] at h3' ⊢
  rcases h3' with h | h
  · cases h
  · simpa using h
theorem ownsRow_lower {w : World} {base base' n size : Nat} {e : TypeId} {v : Value} {xs : List Value} (h : w.ownsRow base e size v n xs) (hb : base' ≤ base) : w.ownsRow base' e size v n xs := by
  refine ⟨h.1, ?_⟩
  rcases h.2 with h2 | ⟨g, cap, cur, hv, hg, r⟩
  · exact .inl h2
  · exact .inr ⟨g, cap, cur, hv, by omega, r⟩
theorem ints_one {w : World} {x : Int} {t : TypeId} : Ints (w.alloc (.cells #[.int .i64 x] t)) (.slice (some ⟨w.heap.size, 0, none⟩) 1 1) [x] := by
  refine ⟨_, 1, rfl, Nat.le_refl _, by omega, fun _ => ⟨w.heap.size, 0, rfl, by simp, fun j hj => ?_⟩⟩
  have : j = 0 := by simp at hj; omega
  subst this
  simp
end Go.Proofs.Ytdelcebkpdnnjaa
namespace Go.Proofs.Ytdelcebkpdnnjaa
open Go.RowKit Go.Deep

theorem rowIs_tag {w w' : World} {lo b n m : Nat} {u : Value} {f : Nat → Value} {zs : List Value} (h : w.rowIs b 3 n f) (hu : w.ownsRow lo 27 1 u m zs) (hg : w.grownBy w' u.ownBlock) : w'.rowIs b 3 n f :=
  h.of_block (hg.block b h.lt (fun e => by
    rcases hu.2 with ⟨rfl, _⟩ | ⟨g', cap', cur', rfl, _, hh', _⟩
    · cases e
    · have hgg : b = g' := by simpa [Value.ownBlock] using e
      obtain ⟨c, hc, _⟩ := h
      rw [hgg, hh'] at hc
      have : (27 : TypeId) = 3 := by injection hc with h1; injection h1
      exact absurd this (by decide)))
theorem Touch.new {lo hi : Nat} {a b c : World} (h : Touch lo hi a b) (k : Below b.heap.size b c) : Touch lo hi a c := h.then (k.mono h.size)
theorem ownsRow_tag2 {w w' : World} {lo base n m : Nat} {v u : Value} {xs zs : List Value} (h : w.ownsRow base 27 1 v n xs) (hu : w.ownsRow lo 3 1 u m zs) (hg : w.grownBy w' u.ownBlock) : w'.ownsRow base 27 1 v n xs :=
  h.kept hg (by
    rcases h.2 with ⟨rfl, _⟩ | ⟨g, cap, cur, rfl, _, hh, _⟩
    · exact .inl rfl
    · right
      intro e
      rcases hu.2 with ⟨rfl, _⟩ | ⟨g', cap', cur', rfl, _, hh', _⟩
      · cases e
      · have hgg : g = g' := by simpa [Value.ownBlock] using e
        rw [hgg, hh'] at hh
        have : (3 : TypeId) = 27 := by injection hh with h1; injection h1
        exact absurd this (by decide))
theorem Touch.both {lo hi : Nat} {a b : World} (h : Touch lo hi a b) (p : Addr) (v : Value) : Touch lo hi (a.setCell p v) (b.setCell p v) := by
  refine ⟨h.os, h.tape, h.output, by simpa [World.setCell] using h.size, fun k hk hn => ?_⟩
  have hk' : k < a.heap.size := by simpa [World.setCell] using hk
  have e := h.block k hk' hn
  simp only [World.setCell, Array.getElem?_modify]
  rw [e]
theorem lit3 (w : World) (a0 a1 a2 : Int) : (w.alloc (.cells #[.int .i64 a0, .int .i64 a1, .int .i64 a2] 3)).rowIs w.heap.size 3 3 (fun i => .int .i64 ([a0, a1, a2][i]?.getD 0)) :=
  World.rowIs_alloc w #[.int .i64 a0, .int .i64 a1, .int .i64 a2] 3 _ (fun i hi => by
    simp at hi
    match i, hi with
    | 0, _ => rfl
    | 1, _ => rfl
    | 2, _ => rfl)
theorem RowsW.tag {lo M m : Nat} {w w' : World} {xs zs : List Value} {g : Rows} {u : Value} (h : RowsW lo M w xs g) (hu : w.ownsRow lo 27 1 u m zs) (hg : w.grownBy w' u.ownBlock) : RowsW lo M w' xs g :=
  ⟨h.1, fun j hj => ⟨ownsRow_tag (h.2.1 j hj).1 hu hg, (h.2.1 j hj).2⟩, h.2.2⟩
theorem setV_get {xs : List Value} {m j : Nat} {v : Value} (hm : m < xs.length) : (xs.set m v)[j]?.getD undef = if j = m then v else xs[j]?.getD undef := by
  by_cases e : j = m
  · subst e; simp [hm]
  · rw [if_neg e, List.getElem?_set_ne (by omega)]
/-- one row was appended to: it lies where it lay, or in a new block -/
theorem RowsW.replace {lo M H m g' cap : Nat} {w w' : World} {xs : List Value} {g : Rows} {l : List Int} (h : RowsW lo M w xs g) (hm : m < g.length) (hg : w.grownBy w' (xs[m]?.getD undef).ownBlock) (hM : M ≤ H) (hH : H < w'.heap.size ∨ H ≤ w.heap.size)
    (hn : w'.ownsRow lo 3 1 (.slice (some ⟨g', 0, none⟩) l.length cap) l.length (l.map (Value.int .i64))) (hat : (xs[m]?.getD undef).ownBlock = some g' ∨ g' = H) (hlt : g' < w'.heap.size) : RowsW lo w'.heap.size w' (xs.set m (.slice (some ⟨g', 0, none⟩) l.length cap)) (g.set m l) := by
  obtain ⟨h1, h2, h3⟩ := h
  have hMw : M ≤ w'.heap.size := by have := hg.size; omega
  have hxl : m < xs.length := by omega
  have ne : ∀ j, j < g.length → j ≠ m → ∀ b, (xs[j]?.getD undef).ownBlock = some b → b ≠ g' := fun j hj hne b hb => by
    rcases hat with e | e
    · intro hbg
      rcases h3 j m hj hm hne with e2 | e2
      · rw [hb] at e2; cases e2
      · exact e2 (by rw [hb, e, hbg])
    · have := (h2 j hj).2 b hb
      omega
  refine ⟨by simp [h1], fun j hj => ?_, fun i j hi hj hne => ?_⟩
  · rw [List.length_set] at hj
    rw [setV_get hxl, setR_get hm]
    by_cases e : j = m
    · rw [if_pos e, if_pos e]
      exact ⟨hn, fun b hb => by have : b = g' := by simpa [Value.ownBlock] using hb.symm
                                omega⟩
    · rw [if_neg e, if_neg e]
      exact ⟨(h2 j hj).1.kept hg (h3 j m hj hm e), fun b hb => Nat.lt_of_lt_of_le ((h2 j hj).2 b hb) hMw⟩
  · rw [List.length_set] at hi hj
    rw [setV_get hxl, setV_get hxl]
    by_cases ei : i = m
    · rw [if_pos ei]
      right
      rw [if_neg (by omega)]
      intro e
      exact ne j hj (by omega) g' e.symm rfl
    · rw [if_neg ei]
      by_cases ej : j = m
      · rw [if_pos ej]
        cases hb : (xs[i]?.getD undef).ownBlock with
        | none => exact .inl rfl
        | some b =>
          right
          intro e
          have : b = g' := by simpa [Value.ownBlock] using e
          exact ne i hi ei b hb this
      · rw [if_neg ej]; exact h3 i j hi hj hne
theorem lit8 (w : World) (a0 a1 a2 a3 a4 a5 a6 a7 : Int) : (w.alloc (.cells #[.int .i64 a0, .int .i64 a1, .int .i64 a2, .int .i64 a3, .int .i64 a4, .int .i64 a5, .int .i64 a6, .int .i64 a7] 3)).rowIs w.heap.size 3 8 (fun i => .int .i64 ([a0, a1, a2, a3, a4, a5, a6, a7][i]?.getD 0)) :=
  World.rowIs_alloc w #[.int .i64 a0, .int .i64 a1, .int .i64 a2, .int .i64 a3, .int .i64 a4, .int .i64 a5, .int .i64 a6, .int .i64 a7] 3 _ (fun i hi => by
    simp at hi
    match i, hi with
    | 0, _ => rfl
    | 1, _ => rfl
    | 2, _ => rfl
    | 3, _ => rfl
    | 4, _ => rfl
    | 5, _ => rfl
    | 6, _ => rfl
    | 7, _ => rfl)

set_option maxHeartbeats 4000000 in
set_option maxRecDepth 100000 in
theorem l91Rough_any (R P rows cols : Nat) (w : World) (h : Rd w R P) (hP : P ≤ 100000) (hr1 : 1 ≤ rows) (hr : rows ≤ 8) (hc1 : 1 ≤ cols) (hc : cols ≤ 8) :
    Calls Try.prog 89 #[.pointer (some ⟨R, 0, none⟩), .int .i64 rows, .int .i64 cols] w fun e w' => ∃ v g P', e = .returned v ∧ OwnG w.heap.size w'.heap.size w' v g ∧ g.length = rows ∧ (∀ j, j < rows → 1 ≤ (g[j]?.getD []).length ∧ (g[j]?.getD []).length ≤ 9) ∧ Rd w' R P' ∧ P' ≤ P + 100 ∧ Touch R (R + 1) w w' := by
  have hRw := h.lt
  have HR0 := Lib.hid h
  clear h
  have B1 := Lib.hid ((Below.refl w.heap.size w).alloc (Nat.le_refl _) (.cells #[.int .i64 1, .int .i64 2, .int .i64 3, .int .i64 4, .int .i64 6, .int .i64 9, .int .i64 5, .int .i64 2] 3))
  go_enter Try.func89, Try.ntmps89
  go_wp2_with fail
  refine (pick_i R P _ _ (HR0.out.below B1.out hRw) (by omega) (by omega) (by omega)).mono ?_
  rintro e w1 ⟨c0, rfl, hc00, hc01, hrd1, ht1⟩
  have HRD1 := Lib.hid hrd1
  have HT1 := Lib.hid (((Touch.refl R (R + 1) w).then B1.out).trans ht1)
  have hz1 := ht1.size
  simp at hz1
  have HH1 := (lit8 w 1 2 3 4 6 9 5 2).of_block (ht1.block w.heap.size (by simp) (by omega))
  clear hrd1 ht1
  by_cases e0 : c0 = 0
  · subst e0
    have HH2 := Lib.hid ((lit8 w1 0 10 25 40 55 70 99 12).alloc (.cells #[] 27))
    have B2 := Lib.hid ((Below.refl w1.heap.size w1).alloc (Nat.le_refl _) (.cells #[.int .i64 0, .int .i64 10, .int .i64 25, .int .i64 40, .int .i64 55, .int .i64 70, .int .i64 99, .int .i64 12] 3))
    have B3 := Lib.hid (B2.out.alloc (by simp) (.cells #[] 27))
    have HO0 := Lib.hid (World.ownsRow_made (base := w.heap.size) (e := 27) (size := 1) (w1.alloc (.cells #[.int .i64 0, .int .i64 10, .int .i64 25, .int .i64 40, .int .i64 55, .int .i64 70, .int .i64 99, .int .i64 12] 3)) #[] 0 (by simp; omega) (by decide) rfl)
    clear HH1
    go_wp2_with fail
    obtain ⟨W0, hW0⟩ : ∃ W, W = (w1.alloc (.cells #[.int .i64 0, .int .i64 10, .int .i64 25, .int .i64 40, .int .i64 55, .int .i64 70, .int .i64 99, .int .i64 12] 3)).alloc (.cells #[] 27) := ⟨_, rfl⟩
    have HRD2 := Lib.hid (HRD1.out.below B3.out (by omega))
    have HT2 := Lib.hid (HT1.out.then (B3.out.mono (by omega)))
    obtain ⟨hh, hhh⟩ : ∃ h, h = w1.heap.size := ⟨_, rfl⟩
    obtain ⟨f, hf⟩ : ∃ f : Nat → Int, f = (fun i => [0, 10, 25, 40, 55, 70, 99, 12][i]?.getD 0) := ⟨_, rfl⟩
    have HHX : Hid (W0.rowIs hh 3 8 (fun i => .int .i64 (f i))) := by rw [hW0, hhh, hf]; exact HH2.out
    have HOX : Hid (W0.ownsRow w.heap.size 27 1 (.slice (some ⟨w1.heap.size + 1, 0, none⟩) 0 0) 0 []) := by rw [hW0]; have h0 := HO0.out; (try simp only [World.size_alloc] at h0); exact h0
    rw [← hW0] at HRD2 HT2 ⊢
    have hlo : w.heap.size ≤ hh := by omega
    clear HH2 HO0 B2 B3 hf
    go_loopw [8, 9, 10, 11] (fun v i _ _ wr => ∃ (k P' : Nat) (xs : List Value) (g : Rows), k ≤ rows ∧ i = .int .i64 k ∧ wr.ownsRow w.heap.size 27 1 v k xs ∧ RowsW w.heap.size wr.heap.size wr xs g ∧ g.length = k ∧ (∀ j, j < k → (g[j]?.getD []).length = cols) ∧ wr.rowIs hh 3 8 (fun i => .int .i64 (f i)) ∧ Rd wr R P' ∧ P' ≤ P + 1 + 8 * k ∧ Touch R (R + 1) w wr) (fun _ i _ _ _ => rows - (intOf i).toNat)
    case atStart => exact ⟨0, P + 1, [], [], Nat.zero_le _, rfl, HOX.out, ⟨rfl, fun j hj => absurd hj (Nat.not_lt_zero _), fun i j hi => absurd hi (Nat.not_lt_zero _)⟩, rfl, fun j hj => absurd hj (Nat.not_lt_zero _), HHX.out, HRD2.out, by omega, HT2.out⟩
    case round =>
      obtain ⟨k, P', xs, g, hk, rfl, hout, hrows, hgl, hlens, hhr, hrd, hP', ht⟩ := hrel
      have HO := Lib.hid hout
      have HRW := Lib.hid hrows
      have HL := Lib.hid hlens
      have HHR := Lib.hid hhr
      have HRD := Lib.hid hrd
      have HT := Lib.hid ht
      have hsz := ht.size
      have hhl := hhr.lt
      have hRr := hrd.lt
      obtain ⟨oa, oc, rfl⟩ := ownsRow_sl hout
      clear hout hrows hlens hhr hrd ht
      by_cases hlt : k < rows
      · have BA := Lib.hid ((Below.refl wr.heap.size wr).alloc (Nat.le_refl _) (.cells #[] 3))
        have HV0 := Lib.hid (World.ownsRow_made (base := wr.heap.size) (e := 3) (size := 1) wr #[] 0 (Nat.le_refl _) (by decide) rfl)
        have BO : Hid (∀ b, (Value.slice oa k oc).ownBlock = some b → b < wr.heap.size) := fun b hb => (HO.out.lt b hb).2
        obtain ⟨M, hM⟩ : ∃ M, M = wr.heap.size := ⟨_, rfl⟩
        go_wp2
        obtain ⟨wo, rfl⟩ : ∃ wo : World, wo = wr := ⟨_, rfl⟩
        have HMM := Lib.hid hM
        rw [← hM] at hsz hhl HRW HV0 BO ⊢
        clear hM
        go_loopw [10, 11] (fun v i wi => ∃ (j P'' : Nat) (l : List Int), j ≤ cols ∧ i = .int .i64 j ∧ l.length = j ∧ wi.ownsRow M 3 1 v l.length (l.map (Value.int .i64)) ∧ wi.ownsRow w.heap.size 27 1 (.slice oa k oc) k xs ∧ RowsW w.heap.size M wi xs g ∧ M ≤ wi.heap.size ∧ wi.rowIs hh 3 8 (fun i => .int .i64 (f i)) ∧ Rd wi R P'' ∧ P'' ≤ P' + j ∧ Touch R (R + 1) w wi) (fun _ i _ => cols - (intOf i).toNat)
        case atStart => exact ⟨0, P', [], Nat.zero_le _, rfl, rfl, HV0.out, ownsRow_bel HO.out BA.out, HRW.out.below BA.out, by rw [HMM.out]; simp, HHR.out.alloc _, HRD.out.below BA.out hRr, Nat.le_refl _, HT.out.new BA.out⟩
        case round =>
          obtain ⟨wi, rfl⟩ : ∃ wi : World, wi = wr := ⟨_, rfl⟩
          obtain ⟨j, P'', l, hj, rfl, hll, hv, hout, hrows, hMi, hhr, hrd, hP'', ht⟩ := hrel
          have HV := Lib.hid hv
          have HO2 := Lib.hid hout
          have HRW2 := Lib.hid hrows
          have HHR2 := Lib.hid hhr
          have HRD2' := Lib.hid hrd
          have HT2' := Lib.hid ht
          have hs2 := ht.size
          have hhl2 := hhr.lt
          obtain ⟨va, vc, rfl⟩ := ownsRow_sl hv
          have hl8 : l.length ≤ 8 := by omega
          have HLL := Lib.hid hll
          clear hll hv hout hrows hhr hrd ht
          by_cases hjl : j < cols
          · go_wp2_with fail
            refine (pick_i R P'' _ _ HRD2'.out (by omega) (by omega) (by omega)).mono ?_
            rintro e w5 ⟨d, rfl, hd0, hd1, hrd5, ht5⟩
            obtain ⟨dn, rfl⟩ : ∃ n : Nat, d = (n : Int) := ⟨d.toNat, by omega⟩
            have HRD5 := Lib.hid hrd5
            have HT5 := Lib.hid (HT2'.out.trans ht5)
            have hs5 := ht5.size
            have HV5 := Lib.hid (ownsRow_pick HV.out ht5 (by omega))
            have HO5 := Lib.hid (ownsRow_pick HO2.out ht5 hRw)
            have HRW5 := Lib.hid (HRW2.out.pick ht5 hRw)
            have hh5 := HHR2.out.of_block (ht5.block hh hhl2 (by omega))
            have HHR5 := Lib.hid hh5
            have hcell := hh5.cell (i := dn) (by omega)
            have jd1 : (0 : Int) ≤ (dn : Int) := by omega
            have jd2 : (dn : Int) < 8 := by omega
            have jd3 : dn < 8 := by omega
            obtain ⟨x, hx⟩ : ∃ x, x = f dn := ⟨_, rfl⟩
            rw [← hx, hhh] at hcell
            clear hrd5 ht5 hh5 hx
            go_wp2_with (at_builtin; refine app_ints _ rfl _ _ rfl M _ l _ [x] (HV5.out.alloc _) ints_one rfl rfl (by simp; omega) (by simp; omega) ?_; intro v6 w6 hown6 hg6; have HV6 := Lib.hid hown6; have HG6 := Lib.hid hg6; clear hown6 hg6)
            go_roundw
            case rel =>
              have BB := (Below.refl w5.heap.size w5).alloc (Nat.le_refl _) (.cells #[.int .i64 x] 3)
              have hrow : ∀ b, (Value.slice va l.length vc).ownBlock = some b → M ≤ b := fun b hb => (HV5.out.lt b hb).1
              have hz6 := HG6.out.size
              simp at hz6
              refine ⟨j + 1, P'' + 1, l ++ [x], by omega, by go_num, by rw [List.length_append, HLL.out]; rfl, HV6.out, ownsRow_tag2 (ownsRow_bel HO5.out BB) (HV5.out.alloc _) HG6.out, (HRW5.out.below BB).far HG6.out hrow, by omega, (HHR5.out.alloc _).of_block (HG6.out.block hh (by simp; omega) (fun e => by have := hrow hh e.symm; omega)), ?_, by omega, (HT5.out.new BB).grown HG6.out (fun b hb => by have := hrow b hb; omega)⟩
              exact (HRD5.out.below BB HRD5.out.lt).below (B := M) ((Below.refl M _).grown HG6.out (by simp; omega) hrow) (by omega)
            case measure => simp [intOf]; omega
          · obtain rfl : j = cols := by omega
            have HX := Lib.hid (show (wi.alloc (.cells #[.slice va l.length vc] 27)).cell? ⟨wi.heap.size, 0, none⟩ = some (.slice va l.length vc) from by simp)
            have HO6 := Lib.hid (HO2.out.alloc (.cells #[.slice va l.length vc] 27))
            go_wp2_with (at_builtin; refine app_row _ rfl _ _ rfl w.heap.size _ k xs wi.heap.size _ _ _ HO6.out HX.out rfl rfl (by omega) (by simp; omega) ?_; intro v7 w7 hown7 hg7; have HO7 := Lib.hid hown7; have HG7 := Lib.hid hg7; clear hown7 hg7)
            go_roundw
            case rel =>
              have BB := (Below.refl wi.heap.size wi).alloc (Nat.le_refl _) (.cells #[.slice va l.length vc] 27)
              have hz7 := HG7.out.size
              simp at hz7
              have hblk : ∀ b, (Value.slice oa k oc).ownBlock = some b → w.heap.size ≤ b := fun b hb => (HO6.out.lt b hb).1
              refine ⟨k + 1, P'', xs ++ [.slice va l.length vc], g ++ [l], by omega, by go_num, HO7.out, (HRW2.out.below BB).snoc (l := l) ((ownsRow_lower HV.out (by omega)).alloc _) (fun b hb => ⟨(HV.out.lt b hb).1, by have := (HV.out.lt b hb).2; omega⟩) (by omega) HO6.out HG7.out, by simp [hgl], fun i hi => ?_, rowIs_tag (HHR2.out.alloc _) HO6.out HG7.out, ?_, by omega, (HT2'.out.new BB).grown HG7.out hblk⟩
              · rw [getR_app]
                by_cases e : i < g.length
                · rw [if_pos e]; exact HL.out i (by omega)
                · rw [if_neg e, if_pos (by omega)]; exact HLL.out
              · exact (HRD2'.out.below BB HRD2'.out.lt).below (B := w.heap.size) ((Below.refl w.heap.size _).grown HG7.out (by simp; omega) hblk) hRw
            case measure => simp [intOf]; omega
      · obtain rfl : k = rows := by omega
        go_wp2_with fail
        refine (pick_i R P' _ _ HRD.out (by omega) (by omega) (by omega)).mono ?_
        rintro e w5 ⟨d, rfl, hd0, hd1, hrd5, ht5⟩
        have HRD5 := Lib.hid hrd5
        have HT5 := Lib.hid (HT.out.trans ht5)
        have hs5 := ht5.size
        have HO5 := Lib.hid (ownsRow_pick HO.out ht5 hRw)
        have HRW5 := Lib.hid ((HRW.out.pick ht5 hRw).mono hs5)
        clear hrd5 ht5
        by_cases d0 : d = 0
        · subst d0
          have hG5 := HRW5.out.ownG (v := .slice oa k oc) (by rw [hgl]; exact HO5.out) (Nat.le_refl _)
          obtain ⟨bO, oO, cO, b2, o2, c2, hform, s1, s2, s3, s4, s5, s6, s7, s8⟩ := hG5.cell (r := 0) (c := 0) (by omega) (by have := HL.out 0 (by omega); omega)
          rw [hgl] at hform
          obtain ⟨rfl, rfl⟩ : oa = some ⟨bO, oO, none⟩ ∧ oc = cO := by simp at hform; exact hform
          have hbO : w.heap.size ≤ bO ∧ bO < w5.heap.size := by
            obtain ⟨b9, c9, q1, q2, q3⟩ := HO5.out.form (by omega)
            have : bO = b9 := by simp at q1; exact q1.1.1
            omega
          have hneb : bO ≠ b2 := by
            intro e
            obtain ⟨b9, c9, q1, q2, q3⟩ := HO5.out.form (by omega)
            obtain ⟨rfl, rfl, rfl⟩ : bO = b9 ∧ oO = 0 ∧ oc = c9 := by simp at q1; exact ⟨q1.1.1, q1.1.2, q1.2⟩
            have c1 := HO5.out.cellAt 0 (by omega)
            rw [Nat.add_zero] at s1
            rw [s1] at c1
            have hrow := (HRW5.out.2.1 0 (by omega)).1
            rw [← c1] at hrow
            rcases hrow.2 with ⟨h8, _⟩ | ⟨g8, c8, r8, h8, _, hh8, _⟩
            · simp at h8
            · have e8 : b2 = g8 := by simp at h8; exact h8.1.1
              rcases HO5.out.2 with ⟨h7, _⟩ | ⟨g7, c7, r7, h7, _, hh7, _⟩
              · simp at h7
              · have e7 : bO = g7 := by simp at h7; exact h7.1
                rw [← e8, ← e] at hh8
                rw [← e7, hh8] at hh7
                have : (3 : TypeId) = 27 := by injection hh7 with h1; injection h1
                exact absurd this (by decide)
          have hlen0 := HL.out 0 (by omega)
          rw [hlen0] at s1 s6
          rw [Nat.add_zero] at s1 s2 s3
          have S8 := Lib.hid s8
          obtain ⟨u, hu⟩ : ∃ u, u = (g[0]?.getD [])[0]?.getD 0 := ⟨_, rfl⟩
          rw [← hu] at s2
          have BB := Lib.hid ((Below.refl w5.heap.size w5).alloc (Nat.le_refl _) (.cells #[.int .i64 (-1), .int .i64 100, .int .i64 99] 3))
          have L3 := Lib.hid (lit3 w5 (-1) 100 99)
          have HRD6 : Hid (Rd (w5.alloc (.cells #[.int .i64 (-1), .int .i64 100, .int .i64 99] 3)).drew R (P' + 1)) := (HRD5.out.below BB.out HRD5.out.lt).below ((Below.refl (w5.alloc (.cells #[.int .i64 (-1), .int .i64 100, .int .i64 99] 3)).heap.size _).drew) (by have := HRD5.out.lt; simp; omega)
          have jk : (0 : Int) < (k : Int) := by omega
          have jk2 : 0 < k := by omega
          have jc : (0 : Int) < (cols : Int) := by omega
          have jc2 : 0 < cols := by omega
          clear hG5 s8 hu hform
          go_wp2
          have KA1 : Hid ((w5.alloc (.cells #[.int .i64 (-1), .int .i64 100, .int .i64 99] 3)).drew.cell? ⟨bO, oO, none⟩ = some (.slice (some ⟨b2, o2, none⟩) cols c2)) := (World.cell?_of_block (a := ⟨bO, oO, none⟩) (BB.out.block bO hbO.2)).trans s1
          have KA2 : Hid ((w5.alloc (.cells #[.int .i64 (-1), .int .i64 100, .int .i64 99] 3)).drew.cell? ⟨b2, o2, none⟩ = some (.int .i64 u)) := (World.cell?_of_block (a := ⟨b2, o2, none⟩) (BB.out.block b2 s5)).trans s2
          have KA3 : Hid ((w5.alloc (.cells #[.int .i64 (-1), .int .i64 100, .int .i64 99] 3)).drew.frozen? ⟨b2, o2, none⟩ = false) := (World.frozen?_of_block (a := ⟨b2, o2, none⟩) (BB.out.block b2 s5)).trans s3
          have hRlo : R + 1 ≤ w.heap.size := by omega
          have FIN : Hid (∀ (W : World) (y : Int), Touch R (R + 1) w5 W → Rd W R (P' + 1 + 1) → ∃ v g P'', Ending.returned (.slice (some ⟨bO, oO, none⟩) k oc) = .returned v ∧ OwnG w.heap.size (W.setCell ⟨b2, o2, none⟩ (.int .i64 y)).heap.size (W.setCell ⟨b2, o2, none⟩ (.int .i64 y)) v g ∧ g.length = k ∧ (∀ j, j < k → 1 ≤ (g[j]?.getD []).length ∧ (g[j]?.getD []).length ≤ 9) ∧ Rd (W.setCell ⟨b2, o2, none⟩ (.int .i64 y)) R P'' ∧ P'' ≤ P + 100 ∧ Touch R (R + 1) w (W.setCell ⟨b2, o2, none⟩ (.int .i64 y))) := fun W y hT hR => by
            have hz : w5.heap.size ≤ W.heap.size := hT.size
            have hzs : (W.setCell ⟨b2, o2, none⟩ (.int .i64 y)).heap.size = W.heap.size := by simp [World.setCell]
            have hg : OwnG w.heap.size w5.heap.size (W.setCell ⟨b2, o2, none⟩ (.int .i64 y)) (.slice (some ⟨bO, oO, none⟩) k oc) (g.set 0 ((g[0]?.getD []).set 0 y)) := OwnG.touch (S8.out y) (hT.both ⟨b2, o2, none⟩ (.int .i64 y)) (.inr hRlo)
            refine ⟨_, _, _, rfl, hg.mono (Nat.le_refl _) (by omega), by rw [List.length_set]; exact hgl, fun j hj => ?_, hR.below (B := w.heap.size) ((Below.refl w.heap.size W).setCell s4 _) hRw, by omega, (HT5.out.trans hT).then ((Below.refl w.heap.size W).setCell s4 _)⟩
            rw [setR_get (by omega)]
            have h0 := HL.out 0 (by omega)
            have hj' := HL.out j hj
            by_cases e : j = 0
            · rw [if_pos e, List.length_set]; omega
            · rw [if_neg e]; omega
          have PB : P' + 1 ≤ 1000000 ∧ (1 : Int) ≤ 3 ∧ (3 : Int) ≤ 1000000 := ⟨by omega, by omega, by omega⟩
          have HRD5d : Hid (Rd w5.drew R (P' + 1)) := HRD5.out.below ((Below.refl w5.heap.size w5).drew) HRD5.out.lt
          go_region_with (first | (go_at_call 77; (with_reducible refine (pick_i R (P' + 1) 3 (w5.alloc (.cells #[.int .i64 (-1), .int .i64 100, .int .i64 99] 3)).drew HRD6.out PB.1 PB.2.1 PB.2.2).mono ?_); rintro e w7 ⟨x, rfl, hx0, hx1, hrd7, ht7⟩; have hzz : (w5.alloc (.cells #[.int .i64 (-1), .int .i64 100, .int .i64 99] 3)).drew.heap.size = w5.heap.size + 1 := World.size_alloc _ _; have K1 := KA1.out; have K2 := KA2.out; have K3 := KA3.out; have hL7 := L3.out.drew.of_block (ht7.block w5.heap.size (by rw [hzz]; omega) (by omega)); obtain ⟨xn, rfl⟩ : ∃ n : Nat, x = (n : Int) := ⟨x.toNat, by omega⟩; have k1 : w7.cell? ⟨bO, oO, none⟩ = _ := (World.cell?_of_block (a := ⟨bO, oO, none⟩) (ht7.block bO (by rw [hzz]; omega) (by omega))).trans K1; have m1 : w7.cell? ⟨b2, o2, none⟩ = _ := (World.cell?_of_block (a := ⟨b2, o2, none⟩) (ht7.block b2 (by rw [hzz]; omega) (by omega))).trans K2; have m2 : w7.frozen? ⟨b2, o2, none⟩ = false := (World.frozen?_of_block (a := ⟨b2, o2, none⟩) (ht7.block b2 (by rw [hzz]; omega) (by omega))).trans K3; obtain ⟨y, hy⟩ : ∃ y : Int, y = [(-1 : Int), 100, 99][xn]?.getD 0 := ⟨_, rfl⟩; have x1 : (0 : Int) ≤ (xn : Int) := (by omega); have x2 : (xn : Int) < 3 := (by omega); have x3 : xn < 3 := (by omega); have HRD7 := Lib.hid hrd7; have HT7 := Lib.hid ht7; have m0 := hL7.cell (i := xn) x3; rw [← hy] at m0; have HA7 := Lib.hid (((Touch.refl R (R + 1) w5).new BB.out).drew.trans ht7); clear hy hL7 K1 K2 K3) | (go_at_call 77; (with_reducible refine (pick_i R (P' + 1) 3 w5.drew HRD5d.out PB.1 PB.2.1 PB.2.2).mono ?_); rintro e w7 ⟨x, rfl, hx0, hx1, hrd7, ht7⟩; have hzz : w5.drew.heap.size = w5.heap.size := rfl; have K1 := s1; have K2 := s2; have K3 := s3; obtain ⟨xn, rfl⟩ : ∃ n : Nat, x = (n : Int) := ⟨x.toNat, by omega⟩; have k1 : w7.cell? ⟨bO, oO, none⟩ = _ := (World.cell?_of_block (a := ⟨bO, oO, none⟩) (ht7.block bO (by rw [hzz]; omega) (by omega))).trans K1; have m1 : w7.cell? ⟨b2, o2, none⟩ = _ := (World.cell?_of_block (a := ⟨b2, o2, none⟩) (ht7.block b2 (by rw [hzz]; omega) (by omega))).trans K2; have m2 : w7.frozen? ⟨b2, o2, none⟩ = false := (World.frozen?_of_block (a := ⟨b2, o2, none⟩) (ht7.block b2 (by rw [hzz]; omega) (by omega))).trans K3; obtain ⟨y, hy⟩ : ∃ y : Int, y = [(-1 : Int), 100, 99][xn]?.getD 0 := ⟨_, rfl⟩; have x1 : (0 : Int) ≤ (xn : Int) := (by omega); have x2 : (xn : Int) < 3 := (by omega); have x3 : xn < 3 := (by omega); have HRD7 := Lib.hid hrd7; have HT7 := Lib.hid ht7; have hL7 := lit3 w7 (-1) 100 99; have m0 := hL7.cell (i := xn) x3; rw [← hy] at m0; have z7 : w5.heap.size ≤ w7.heap.size := ht7.size; have BB7 := (Below.refl w7.heap.size w7).alloc (Nat.le_refl _) (.cells #[.int .i64 (-1), .int .i64 100, .int .i64 99] 3); have k1b := (World.cell?_of_block (a := ⟨bO, oO, none⟩) (BB7.block bO (by omega))).trans k1; have m1b := (World.cell?_of_block (a := ⟨b2, o2, none⟩) (BB7.block b2 (by omega))).trans m1; have HA7 := Lib.hid ((Touch.refl R (R + 1) w5).drew.trans ht7); have HB7 := Lib.hid (((Touch.refl R (R + 1) w5).drew.trans ht7).new BB7); have HRDB := Lib.hid (hrd7.below BB7 hrd7.lt); have m2b := (World.frozen?_of_block (a := ⟨b2, o2, none⟩) (BB7.block b2 (by omega))).trans m2; clear BB7 hy hL7 K1 K2 K3) | fail)
          all_goals (go_wp2; go_ret; first | exact FIN.out w7 y HA7.out HRD7.out | exact FIN.out _ y HB7.out HRDB.out)
        · have q0 : (d == 0) = false := by simp [d0]
          by_cases d1 : d = 1
          · subst d1
            obtain ⟨m, rfl⟩ : ∃ m, k = m + 1 := ⟨k - 1, by omega⟩
            obtain ⟨bO, cO, hform, hbO, hbOl⟩ := HO5.out.form (by omega)
            obtain ⟨rfl, rfl⟩ : oa = some ⟨bO, 0, none⟩ ∧ oc = cO := by simp at hform; exact hform
            have hxl : xs.length = m + 1 := HRW5.out.1.trans hgl
            have c1 := HO5.out.cellAt m (by omega)
            have hxm : xs[m]? = some (xs[m]?.getD undef) := by simp [hxl]
            rw [hxm] at c1
            have f1 := HO5.out.frozenAt m
            have hrow := (HRW5.out.2.1 m (by omega)).1
            have hlm := HL.out m (by omega)
            obtain ⟨u, hu⟩ : ∃ u, u = xs[m]?.getD undef := ⟨_, rfl⟩
            obtain ⟨l, hl⟩ : ∃ l, l = g[m]?.getD [] := ⟨_, rfl⟩
            rw [← hl] at hrow hlm
            rw [← hu] at c1 hrow
            obtain ⟨ua, uc, hus⟩ := ownsRow_sl hrow
            have hbu : Hid (∀ b, u.ownBlock = some b → b ≠ bO ∧ w.heap.size ≤ b) := fun b hb => by
              refine ⟨fun e => ?_, (hrow.lt b hb).1⟩
              rcases hrow.2 with ⟨rfl, _⟩ | ⟨g9, c9, r9, rfl, _, hh9, _⟩
              · cases hb
              · have e9 : g9 = bO := by have : b = g9 := by simpa [Value.ownBlock] using hb.symm
                                        omega
                rcases HO5.out.2 with ⟨h8, _⟩ | ⟨g8, c8, r8, h8, _, hh8, _⟩
                · cases h8
                · have e8 : bO = g8 := by simp at h8; exact h8.1
                  rw [e9, e8, hh8] at hh9
                  have : (27 : TypeId) = 3 := by injection hh9 with h1; injection h1
                  exact absurd this (by decide)
            have HU := Lib.hid hu
            have HL2 := Lib.hid hl
            have HROW := Lib.hid hrow
            obtain ⟨i0, hi, hz0, hzz1, hzz2⟩ := info_parts info_int
            have HI := Lib.hid hi
            have HI0 := Lib.hid hz0
            have HI1 := Lib.hid hzz1
            have HI2 := Lib.hid hzz2
            subst hus
            have hl8 : l.length ≤ 8 := by omega
            have HLM := Lib.hid hlm
            have w1' : IntKind.i64.wrap ((m : Int) + 1 - 1) = (m : Int) := by rw [Int.add_sub_cancel]; exact IntWalk.i64_in _ (by omega)
            clear hu hl hrow hxm hi hz0 hzz1 hzz2 hlm hform
            go_wp2_with (at_builtin; refine wpList_append_lies _ rfl _ _ 27 rfl w.heap.size 3 i0 _ 1 8 Try.underlying27 HI.out HI0.out HI1.out HI2.out rfl (by decide) _ l.length _ rfl (HROW.out.alloc _) ⟨w5.heap.size, 0, none⟩ 1 1 [.int .i64 3] rfl rfl (fun j v hj => by match j, hj with | 0, hj => (simp at hj; subst hj; simp [Addr.add])) (fun v hv => by simp at hv; subst hv; rfl) (by decide) (by unfold maxLen; omega) (by omega) (by simp; omega) _ rfl ?_; intro g' cap' w6 hown6 hg6 hat6 hlt6; have HV6 := Lib.hid hown6; have HG6 := Lib.hid hg6; have HAT := Lib.hid hat6; have c6 := (World.cell?_of_block (a := ⟨bO, m, none⟩) (hg6.block bO (by simp; omega) (fun e => (hbu.out bO e.symm).1 rfl))).trans ((World.cell?_alloc_past _ _ _ hbOl).trans c1); have hO6 := ownsRow_tag2 (HO5.out.alloc (.cells #[.int .i64 3] 3)) (HROW.out.alloc _) hg6; have f6 := hO6.frozenAt m; have HO6 := Lib.hid hO6; clear hown6 hg6 hat6)
            go_ret
            have BB := (Below.refl w5.heap.size w5).alloc (Nat.le_refl _) (.cells #[.int .i64 3] 3)
            have hz6 := HG6.out.size
            simp at hz6
            have hv6 : w6.ownsRow w.heap.size 3 1 (.slice (some ⟨g', 0, none⟩) (l ++ [3]).length cap') (l ++ [3]).length ((l ++ [3]).map (Value.int .i64)) := by
              have h6 := HV6.out
              rw [List.map_append, List.length_append]
              exact h6
            have hrep := (HRW5.out.below BB).replace (m := m) (H := (w5.alloc (.cells #[.int .i64 3] 3)).heap.size) (by omega) (by rw [← HU.out]; exact HG6.out) (by simp) (.inr (Nat.le_refl _)) hv6 (by rw [← HU.out]; exact HAT.out) hlt6
            obtain ⟨st1, st2⟩ := HO6.out.stored m (.slice (some ⟨g', 0, none⟩) (l.length + 1) cap')
            have hel : (l ++ [(3 : Int)]).length = l.length + 1 := by simp
            rw [hel] at hrep
            have hrep2 := hrep.tag HO6.out st2
            have hgs : (g.set m (l ++ [3])).length = m + 1 := by rw [List.length_set]; exact hgl
            have hbb : ∀ b, (Value.slice ua l.length uc).ownBlock = some b → w.heap.size ≤ b := fun b hb => (hbu.out b hb).2
            have hsz7 := st2.size
            have hbO3 : ∀ b, some bO = some b → w.heap.size ≤ b := fun b hb => by cases hb; exact hbO
            refine ⟨_, g.set m (l ++ [3]), P' + 1, rfl, hrep2.ownG (v := .slice (some ⟨bO, 0, none⟩) (m + 1) oc) (by rw [hgs]; exact st1) (Nat.le_refl _), hgs, fun j hj => ?_, ?_, by omega, ?_⟩
            · rw [setR_get (by omega)]
              by_cases e : j = m
              · rw [if_pos e, hel, HLM.out]; omega
              · rw [if_neg e]
                have := HL.out j (by omega)
                omega
            · exact ((HRD5.out.below BB HRD5.out.lt).below (B := w.heap.size) ((Below.refl w.heap.size _).grown HG6.out (by simp; omega) hbb) hRw).below (B := w.heap.size) ((Below.refl w.heap.size _).grown st2 (by omega) hbO3) hRw
            · exact ((HT5.out.new BB).grown HG6.out hbb).grown st2 hbO3
          · have q1 : (d == 1) = false := by simp [d1]
            have HG := Lib.hid (HRW5.out.ownG (v := .slice oa k oc) (by rw [hgl]; exact HO5.out) (Nat.le_refl _))
            clear d0 d1
            go_wp2
            go_ret
            exact ⟨_, g, P' + 1, rfl, HG.out, hgl, fun j hj => by have := HL.out j hj; omega, HRD5.out, by omega, HT5.out⟩
  · have e0' : (c0 == 0) = false := by simp [e0]
    have HH2 := Lib.hid (HH1.alloc (.cells #[] 27))
    have B3 := Lib.hid ((Below.refl w1.heap.size w1).alloc (Nat.le_refl _) (.cells #[] 27))
    have B2 := B3
    have HO0 := Lib.hid (World.ownsRow_made (base := w.heap.size) (e := 27) (size := 1) w1 #[] 0 (by omega) (by decide) rfl)
    clear HH1
    go_wp2_with fail
    obtain ⟨W0, hW0⟩ : ∃ W, W = w1.alloc (.cells #[] 27) := ⟨_, rfl⟩
    have HRD2 := Lib.hid (HRD1.out.below B3.out (by omega))
    have HT2 := Lib.hid (HT1.out.then (B3.out.mono (by omega)))
    obtain ⟨hh, hhh⟩ : ∃ h, h = w.heap.size := ⟨_, rfl⟩
    obtain ⟨f, hf⟩ : ∃ f : Nat → Int, f = (fun i => [1, 2, 3, 4, 6, 9, 5, 2][i]?.getD 0) := ⟨_, rfl⟩
    have HHX : Hid (W0.rowIs hh 3 8 (fun i => .int .i64 (f i))) := by rw [hW0, hhh, hf]; exact HH2.out
    have HOX : Hid (W0.ownsRow w.heap.size 27 1 (.slice (some ⟨w1.heap.size, 0, none⟩) 0 0) 0 []) := by rw [hW0]; have h0 := HO0.out; (try simp only [World.size_alloc] at h0); exact h0
    rw [← hW0] at HRD2 HT2 ⊢
    have hlo : w.heap.size ≤ hh := by omega
    clear HH2 HO0 B2 B3 hf
    go_loopw [8, 9, 10, 11] (fun v i _ _ wr => ∃ (k P' : Nat) (xs : List Value) (g : Rows), k ≤ rows ∧ i = .int .i64 k ∧ wr.ownsRow w.heap.size 27 1 v k xs ∧ RowsW w.heap.size wr.heap.size wr xs g ∧ g.length = k ∧ (∀ j, j < k → (g[j]?.getD []).length = cols) ∧ wr.rowIs hh 3 8 (fun i => .int .i64 (f i)) ∧ Rd wr R P' ∧ P' ≤ P + 1 + 8 * k ∧ Touch R (R + 1) w wr) (fun _ i _ _ _ => rows - (intOf i).toNat)
    case atStart => exact ⟨0, P + 1, [], [], Nat.zero_le _, rfl, HOX.out, ⟨rfl, fun j hj => absurd hj (Nat.not_lt_zero _), fun i j hi => absurd hi (Nat.not_lt_zero _)⟩, rfl, fun j hj => absurd hj (Nat.not_lt_zero _), HHX.out, HRD2.out, by omega, HT2.out⟩
    case round =>
      obtain ⟨k, P', xs, g, hk, rfl, hout, hrows, hgl, hlens, hhr, hrd, hP', ht⟩ := hrel
      have HO := Lib.hid hout
      have HRW := Lib.hid hrows
      have HL := Lib.hid hlens
      have HHR := Lib.hid hhr
      have HRD := Lib.hid hrd
      have HT := Lib.hid ht
      have hsz := ht.size
      have hhl := hhr.lt
      have hRr := hrd.lt
      obtain ⟨oa, oc, rfl⟩ := ownsRow_sl hout
      clear hout hrows hlens hhr hrd ht
      by_cases hlt : k < rows
      · have BA := Lib.hid ((Below.refl wr.heap.size wr).alloc (Nat.le_refl _) (.cells #[] 3))
        have HV0 := Lib.hid (World.ownsRow_made (base := wr.heap.size) (e := 3) (size := 1) wr #[] 0 (Nat.le_refl _) (by decide) rfl)
        have BO : Hid (∀ b, (Value.slice oa k oc).ownBlock = some b → b < wr.heap.size) := fun b hb => (HO.out.lt b hb).2
        obtain ⟨M, hM⟩ : ∃ M, M = wr.heap.size := ⟨_, rfl⟩
        go_wp2
        obtain ⟨wo, rfl⟩ : ∃ wo : World, wo = wr := ⟨_, rfl⟩
        have HMM := Lib.hid hM
        rw [← hM] at hsz hhl HRW HV0 BO ⊢
        clear hM
        go_loopw [10, 11] (fun v i wi => ∃ (j P'' : Nat) (l : List Int), j ≤ cols ∧ i = .int .i64 j ∧ l.length = j ∧ wi.ownsRow M 3 1 v l.length (l.map (Value.int .i64)) ∧ wi.ownsRow w.heap.size 27 1 (.slice oa k oc) k xs ∧ RowsW w.heap.size M wi xs g ∧ M ≤ wi.heap.size ∧ wi.rowIs hh 3 8 (fun i => .int .i64 (f i)) ∧ Rd wi R P'' ∧ P'' ≤ P' + j ∧ Touch R (R + 1) w wi) (fun _ i _ => cols - (intOf i).toNat)
        case atStart => exact ⟨0, P', [], Nat.zero_le _, rfl, rfl, HV0.out, ownsRow_bel HO.out BA.out, HRW.out.below BA.out, by rw [HMM.out]; simp, HHR.out.alloc _, HRD.out.below BA.out hRr, Nat.le_refl _, HT.out.new BA.out⟩
        case round =>
          obtain ⟨wi, rfl⟩ : ∃ wi : World, wi = wr := ⟨_, rfl⟩
          obtain ⟨j, P'', l, hj, rfl, hll, hv, hout, hrows, hMi, hhr, hrd, hP'', ht⟩ := hrel
          have HV := Lib.hid hv
          have HO2 := Lib.hid hout
          have HRW2 := Lib.hid hrows
          have HHR2 := Lib.hid hhr
          have HRD2' := Lib.hid hrd
          have HT2' := Lib.hid ht
          have hs2 := ht.size
          have hhl2 := hhr.lt
          obtain ⟨va, vc, rfl⟩ := ownsRow_sl hv
          have hl8 : l.length ≤ 8 := by omega
          have HLL := Lib.hid hll
          clear hll hv hout hrows hhr hrd ht
          by_cases hjl : j < cols
          · go_wp2_with fail
            refine (pick_i R P'' _ _ HRD2'.out (by omega) (by omega) (by omega)).mono ?_
            rintro e w5 ⟨d, rfl, hd0, hd1, hrd5, ht5⟩
            obtain ⟨dn, rfl⟩ : ∃ n : Nat, d = (n : Int) := ⟨d.toNat, by omega⟩
            have HRD5 := Lib.hid hrd5
            have HT5 := Lib.hid (HT2'.out.trans ht5)
            have hs5 := ht5.size
            have HV5 := Lib.hid (ownsRow_pick HV.out ht5 (by omega))
            have HO5 := Lib.hid (ownsRow_pick HO2.out ht5 hRw)
            have HRW5 := Lib.hid (HRW2.out.pick ht5 hRw)
            have hh5 := HHR2.out.of_block (ht5.block hh hhl2 (by omega))
            have HHR5 := Lib.hid hh5
            have hcell := hh5.cell (i := dn) (by omega)
            have jd1 : (0 : Int) ≤ (dn : Int) := by omega
            have jd2 : (dn : Int) < 8 := by omega
            have jd3 : dn < 8 := by omega
            obtain ⟨x, hx⟩ : ∃ x, x = f dn := ⟨_, rfl⟩
            rw [← hx, hhh] at hcell
            clear hrd5 ht5 hh5 hx
            go_wp2_with (at_builtin; refine app_ints _ rfl _ _ rfl M _ l _ [x] (HV5.out.alloc _) ints_one rfl rfl (by simp; omega) (by simp; omega) ?_; intro v6 w6 hown6 hg6; have HV6 := Lib.hid hown6; have HG6 := Lib.hid hg6; clear hown6 hg6)
            go_roundw
            case rel =>
              have BB := (Below.refl w5.heap.size w5).alloc (Nat.le_refl _) (.cells #[.int .i64 x] 3)
              have hrow : ∀ b, (Value.slice va l.length vc).ownBlock = some b → M ≤ b := fun b hb => (HV5.out.lt b hb).1
              have hz6 := HG6.out.size
              simp at hz6
              refine ⟨j + 1, P'' + 1, l ++ [x], by omega, by go_num, by rw [List.length_append, HLL.out]; rfl, HV6.out, ownsRow_tag2 (ownsRow_bel HO5.out BB) (HV5.out.alloc _) HG6.out, (HRW5.out.below BB).far HG6.out hrow, by omega, (HHR5.out.alloc _).of_block (HG6.out.block hh (by simp; omega) (fun e => by have := hrow hh e.symm; omega)), ?_, by omega, (HT5.out.new BB).grown HG6.out (fun b hb => by have := hrow b hb; omega)⟩
              exact (HRD5.out.below BB HRD5.out.lt).below (B := M) ((Below.refl M _).grown HG6.out (by simp; omega) hrow) (by omega)
            case measure => simp [intOf]; omega
          · obtain rfl : j = cols := by omega
            have HX := Lib.hid (show (wi.alloc (.cells #[.slice va l.length vc] 27)).cell? ⟨wi.heap.size, 0, none⟩ = some (.slice va l.length vc) from by simp)
            have HO6 := Lib.hid (HO2.out.alloc (.cells #[.slice va l.length vc] 27))
            go_wp2_with (at_builtin; refine app_row _ rfl _ _ rfl w.heap.size _ k xs wi.heap.size _ _ _ HO6.out HX.out rfl rfl (by omega) (by simp; omega) ?_; intro v7 w7 hown7 hg7; have HO7 := Lib.hid hown7; have HG7 := Lib.hid hg7; clear hown7 hg7)
            go_roundw
            case rel =>
              have BB := (Below.refl wi.heap.size wi).alloc (Nat.le_refl _) (.cells #[.slice va l.length vc] 27)
              have hz7 := HG7.out.size
              simp at hz7
              have hblk : ∀ b, (Value.slice oa k oc).ownBlock = some b → w.heap.size ≤ b := fun b hb => (HO6.out.lt b hb).1
              refine ⟨k + 1, P'', xs ++ [.slice va l.length vc], g ++ [l], by omega, by go_num, HO7.out, (HRW2.out.below BB).snoc (l := l) ((ownsRow_lower HV.out (by omega)).alloc _) (fun b hb => ⟨(HV.out.lt b hb).1, by have := (HV.out.lt b hb).2; omega⟩) (by omega) HO6.out HG7.out, by simp [hgl], fun i hi => ?_, rowIs_tag (HHR2.out.alloc _) HO6.out HG7.out, ?_, by omega, (HT2'.out.new BB).grown HG7.out hblk⟩
              · rw [getR_app]
                by_cases e : i < g.length
                · rw [if_pos e]; exact HL.out i (by omega)
                · rw [if_neg e, if_pos (by omega)]; exact HLL.out
              · exact (HRD2'.out.below BB HRD2'.out.lt).below (B := w.heap.size) ((Below.refl w.heap.size _).grown HG7.out (by simp; omega) hblk) hRw
            case measure => simp [intOf]; omega
      · obtain rfl : k = rows := by omega
        go_wp2_with fail
        refine (pick_i R P' _ _ HRD.out (by omega) (by omega) (by omega)).mono ?_
        rintro e w5 ⟨d, rfl, hd0, hd1, hrd5, ht5⟩
        have HRD5 := Lib.hid hrd5
        have HT5 := Lib.hid (HT.out.trans ht5)
        have hs5 := ht5.size
        have HO5 := Lib.hid (ownsRow_pick HO.out ht5 hRw)
        have HRW5 := Lib.hid ((HRW.out.pick ht5 hRw).mono hs5)
        clear hrd5 ht5
        by_cases d0 : d = 0
        · subst d0
          have hG5 := HRW5.out.ownG (v := .slice oa k oc) (by rw [hgl]; exact HO5.out) (Nat.le_refl _)
          obtain ⟨bO, oO, cO, b2, o2, c2, hform, s1, s2, s3, s4, s5, s6, s7, s8⟩ := hG5.cell (r := 0) (c := 0) (by omega) (by have := HL.out 0 (by omega); omega)
          rw [hgl] at hform
          obtain ⟨rfl, rfl⟩ : oa = some ⟨bO, oO, none⟩ ∧ oc = cO := by simp at hform; exact hform
          have hbO : w.heap.size ≤ bO ∧ bO < w5.heap.size := by
            obtain ⟨b9, c9, q1, q2, q3⟩ := HO5.out.form (by omega)
            have : bO = b9 := by simp at q1; exact q1.1.1
            omega
          have hneb : bO ≠ b2 := by
            intro e
            obtain ⟨b9, c9, q1, q2, q3⟩ := HO5.out.form (by omega)
            obtain ⟨rfl, rfl, rfl⟩ : bO = b9 ∧ oO = 0 ∧ oc = c9 := by simp at q1; exact ⟨q1.1.1, q1.1.2, q1.2⟩
            have c1 := HO5.out.cellAt 0 (by omega)
            rw [Nat.add_zero] at s1
            rw [s1] at c1
            have hrow := (HRW5.out.2.1 0 (by omega)).1
            rw [← c1] at hrow
            rcases hrow.2 with ⟨h8, _⟩ | ⟨g8, c8, r8, h8, _, hh8, _⟩
            · simp at h8
            · have e8 : b2 = g8 := by simp at h8; exact h8.1.1
              rcases HO5.out.2 with ⟨h7, _⟩ | ⟨g7, c7, r7, h7, _, hh7, _⟩
              · simp at h7
              · have e7 : bO = g7 := by simp at h7; exact h7.1
                rw [← e8, ← e] at hh8
                rw [← e7, hh8] at hh7
                have : (3 : TypeId) = 27 := by injection hh7 with h1; injection h1
                exact absurd this (by decide)
          have hlen0 := HL.out 0 (by omega)
          rw [hlen0] at s1 s6
          rw [Nat.add_zero] at s1 s2 s3
          have S8 := Lib.hid s8
          obtain ⟨u, hu⟩ : ∃ u, u = (g[0]?.getD [])[0]?.getD 0 := ⟨_, rfl⟩
          rw [← hu] at s2
          have BB := Lib.hid ((Below.refl w5.heap.size w5).alloc (Nat.le_refl _) (.cells #[.int .i64 (-1), .int .i64 100, .int .i64 99] 3))
          have L3 := Lib.hid (lit3 w5 (-1) 100 99)
          have HRD6 : Hid (Rd (w5.alloc (.cells #[.int .i64 (-1), .int .i64 100, .int .i64 99] 3)).drew R (P' + 1)) := (HRD5.out.below BB.out HRD5.out.lt).below ((Below.refl (w5.alloc (.cells #[.int .i64 (-1), .int .i64 100, .int .i64 99] 3)).heap.size _).drew) (by have := HRD5.out.lt; simp; omega)
          have jk : (0 : Int) < (k : Int) := by omega
          have jk2 : 0 < k := by omega
          have jc : (0 : Int) < (cols : Int) := by omega
          have jc2 : 0 < cols := by omega
          clear hG5 s8 hu hform
          go_wp2
          have KA1 : Hid ((w5.alloc (.cells #[.int .i64 (-1), .int .i64 100, .int .i64 99] 3)).drew.cell? ⟨bO, oO, none⟩ = some (.slice (some ⟨b2, o2, none⟩) cols c2)) := (World.cell?_of_block (a := ⟨bO, oO, none⟩) (BB.out.block bO hbO.2)).trans s1
          have KA2 : Hid ((w5.alloc (.cells #[.int .i64 (-1), .int .i64 100, .int .i64 99] 3)).drew.cell? ⟨b2, o2, none⟩ = some (.int .i64 u)) := (World.cell?_of_block (a := ⟨b2, o2, none⟩) (BB.out.block b2 s5)).trans s2
          have KA3 : Hid ((w5.alloc (.cells #[.int .i64 (-1), .int .i64 100, .int .i64 99] 3)).drew.frozen? ⟨b2, o2, none⟩ = false) := (World.frozen?_of_block (a := ⟨b2, o2, none⟩) (BB.out.block b2 s5)).trans s3
          have hRlo : R + 1 ≤ w.heap.size := by omega
          have FIN : Hid (∀ (W : World) (y : Int), Touch R (R + 1) w5 W → Rd W R (P' + 1 + 1) → ∃ v g P'', Ending.returned (.slice (some ⟨bO, oO, none⟩) k oc) = .returned v ∧ OwnG w.heap.size (W.setCell ⟨b2, o2, none⟩ (.int .i64 y)).heap.size (W.setCell ⟨b2, o2, none⟩ (.int .i64 y)) v g ∧ g.length = k ∧ (∀ j, j < k → 1 ≤ (g[j]?.getD []).length ∧ (g[j]?.getD []).length ≤ 9) ∧ Rd (W.setCell ⟨b2, o2, none⟩ (.int .i64 y)) R P'' ∧ P'' ≤ P + 100 ∧ Touch R (R + 1) w (W.setCell ⟨b2, o2, none⟩ (.int .i64 y))) := fun W y hT hR => by
            have hz : w5.heap.size ≤ W.heap.size := hT.size
            have hzs : (W.setCell ⟨b2, o2, none⟩ (.int .i64 y)).heap.size = W.heap.size := by simp [World.setCell]
            have hg : OwnG w.heap.size w5.heap.size (W.setCell ⟨b2, o2, none⟩ (.int .i64 y)) (.slice (some ⟨bO, oO, none⟩) k oc) (g.set 0 ((g[0]?.getD []).set 0 y)) := OwnG.touch (S8.out y) (hT.both ⟨b2, o2, none⟩ (.int .i64 y)) (.inr hRlo)
            refine ⟨_, _, _, rfl, hg.mono (Nat.le_refl _) (by omega), by rw [List.length_set]; exact hgl, fun j hj => ?_, hR.below (B := w.heap.size) ((Below.refl w.heap.size W).setCell s4 _) hRw, by omega, (HT5.out.trans hT).then ((Below.refl w.heap.size W).setCell s4 _)⟩
            rw [setR_get (by omega)]
            have h0 := HL.out 0 (by omega)
            have hj' := HL.out j hj
            by_cases e : j = 0
            · rw [if_pos e, List.length_set]; omega
            · rw [if_neg e]; omega
          have PB : P' + 1 ≤ 1000000 ∧ (1 : Int) ≤ 3 ∧ (3 : Int) ≤ 1000000 := ⟨by omega, by omega, by omega⟩
          have HRD5d : Hid (Rd w5.drew R (P' + 1)) := HRD5.out.below ((Below.refl w5.heap.size w5).drew) HRD5.out.lt
          go_region_with (first | (go_at_call 77; (with_reducible refine (pick_i R (P' + 1) 3 (w5.alloc (.cells #[.int .i64 (-1), .int .i64 100, .int .i64 99] 3)).drew HRD6.out PB.1 PB.2.1 PB.2.2).mono ?_); rintro e w7 ⟨x, rfl, hx0, hx1, hrd7, ht7⟩; have hzz : (w5.alloc (.cells #[.int .i64 (-1), .int .i64 100, .int .i64 99] 3)).drew.heap.size = w5.heap.size + 1 := World.size_alloc _ _; have K1 := KA1.out; have K2 := KA2.out; have K3 := KA3.out; have hL7 := L3.out.drew.of_block (ht7.block w5.heap.size (by rw [hzz]; omega) (by omega)); obtain ⟨xn, rfl⟩ : ∃ n : Nat, x = (n : Int) := ⟨x.toNat, by omega⟩; have k1 : w7.cell? ⟨bO, oO, none⟩ = _ := (World.cell?_of_block (a := ⟨bO, oO, none⟩) (ht7.block bO (by rw [hzz]; omega) (by omega))).trans K1; have m1 : w7.cell? ⟨b2, o2, none⟩ = _ := (World.cell?_of_block (a := ⟨b2, o2, none⟩) (ht7.block b2 (by rw [hzz]; omega) (by omega))).trans K2; have m2 : w7.frozen? ⟨b2, o2, none⟩ = false := (World.frozen?_of_block (a := ⟨b2, o2, none⟩) (ht7.block b2 (by rw [hzz]; omega) (by omega))).trans K3; obtain ⟨y, hy⟩ : ∃ y : Int, y = [(-1 : Int), 100, 99][xn]?.getD 0 := ⟨_, rfl⟩; have x1 : (0 : Int) ≤ (xn : Int) := (by omega); have x2 : (xn : Int) < 3 := (by omega); have x3 : xn < 3 := (by omega); have HRD7 := Lib.hid hrd7; have HT7 := Lib.hid ht7; have m0 := hL7.cell (i := xn) x3; rw [← hy] at m0; have HA7 := Lib.hid (((Touch.refl R (R + 1) w5).new BB.out).drew.trans ht7); clear hy hL7 K1 K2 K3) | (go_at_call 77; (with_reducible refine (pick_i R (P' + 1) 3 w5.drew HRD5d.out PB.1 PB.2.1 PB.2.2).mono ?_); rintro e w7 ⟨x, rfl, hx0, hx1, hrd7, ht7⟩; have hzz : w5.drew.heap.size = w5.heap.size := rfl; have K1 := s1; have K2 := s2; have K3 := s3; obtain ⟨xn, rfl⟩ : ∃ n : Nat, x = (n : Int) := ⟨x.toNat, by omega⟩; have k1 : w7.cell? ⟨bO, oO, none⟩ = _ := (World.cell?_of_block (a := ⟨bO, oO, none⟩) (ht7.block bO (by rw [hzz]; omega) (by omega))).trans K1; have m1 : w7.cell? ⟨b2, o2, none⟩ = _ := (World.cell?_of_block (a := ⟨b2, o2, none⟩) (ht7.block b2 (by rw [hzz]; omega) (by omega))).trans K2; have m2 : w7.frozen? ⟨b2, o2, none⟩ = false := (World.frozen?_of_block (a := ⟨b2, o2, none⟩) (ht7.block b2 (by rw [hzz]; omega) (by omega))).trans K3; obtain ⟨y, hy⟩ : ∃ y : Int, y = [(-1 : Int), 100, 99][xn]?.getD 0 := ⟨_, rfl⟩; have x1 : (0 : Int) ≤ (xn : Int) := (by omega); have x2 : (xn : Int) < 3 := (by omega); have x3 : xn < 3 := (by omega); have HRD7 := Lib.hid hrd7; have HT7 := Lib.hid ht7; have hL7 := lit3 w7 (-1) 100 99; have m0 := hL7.cell (i := xn) x3; rw [← hy] at m0; have z7 : w5.heap.size ≤ w7.heap.size := ht7.size; have BB7 := (Below.refl w7.heap.size w7).alloc (Nat.le_refl _) (.cells #[.int .i64 (-1), .int .i64 100, .int .i64 99] 3); have k1b := (World.cell?_of_block (a := ⟨bO, oO, none⟩) (BB7.block bO (by omega))).trans k1; have m1b := (World.cell?_of_block (a := ⟨b2, o2, none⟩) (BB7.block b2 (by omega))).trans m1; have HA7 := Lib.hid ((Touch.refl R (R + 1) w5).drew.trans ht7); have HB7 := Lib.hid (((Touch.refl R (R + 1) w5).drew.trans ht7).new BB7); have HRDB := Lib.hid (hrd7.below BB7 hrd7.lt); have m2b := (World.frozen?_of_block (a := ⟨b2, o2, none⟩) (BB7.block b2 (by omega))).trans m2; clear BB7 hy hL7 K1 K2 K3) | fail)
          all_goals (go_wp2; go_ret; first | exact FIN.out w7 y HA7.out HRD7.out | exact FIN.out _ y HB7.out HRDB.out)
        · have q0 : (d == 0) = false := by simp [d0]
          by_cases d1 : d = 1
          · subst d1
            obtain ⟨m, rfl⟩ : ∃ m, k = m + 1 := ⟨k - 1, by omega⟩
            obtain ⟨bO, cO, hform, hbO, hbOl⟩ := HO5.out.form (by omega)
            obtain ⟨rfl, rfl⟩ : oa = some ⟨bO, 0, none⟩ ∧ oc = cO := by simp at hform; exact hform
            have hxl : xs.length = m + 1 := HRW5.out.1.trans hgl
            have c1 := HO5.out.cellAt m (by omega)
            have hxm : xs[m]? = some (xs[m]?.getD undef) := by simp [hxl]
            rw [hxm] at c1
            have f1 := HO5.out.frozenAt m
            have hrow := (HRW5.out.2.1 m (by omega)).1
            have hlm := HL.out m (by omega)
            obtain ⟨u, hu⟩ : ∃ u, u = xs[m]?.getD undef := ⟨_, rfl⟩
            obtain ⟨l, hl⟩ : ∃ l, l = g[m]?.getD [] := ⟨_, rfl⟩
            rw [← hl] at hrow hlm
            rw [← hu] at c1 hrow
            obtain ⟨ua, uc, hus⟩ := ownsRow_sl hrow
            have hbu : Hid (∀ b, u.ownBlock = some b → b ≠ bO ∧ w.heap.size ≤ b) := fun b hb => by
              refine ⟨fun e => ?_, (hrow.lt b hb).1⟩
              rcases hrow.2 with ⟨rfl, _⟩ | ⟨g9, c9, r9, rfl, _, hh9, _⟩
              · cases hb
              · have e9 : g9 = bO := by have : b = g9 := by simpa [Value.ownBlock] using hb.symm
                                        omega
                rcases HO5.out.2 with ⟨h8, _⟩ | ⟨g8, c8, r8, h8, _, hh8, _⟩
                · cases h8
                · have e8 : bO = g8 := by simp at h8; exact h8.1
                  rw [e9, e8, hh8] at hh9
                  have : (27 : TypeId) = 3 := by injection hh9 with h1; injection h1
                  exact absurd this (by decide)
            have HU := Lib.hid hu
            have HL2 := Lib.hid hl
            have HROW := Lib.hid hrow
            obtain ⟨i0, hi, hz0, hzz1, hzz2⟩ := info_parts info_int
            have HI := Lib.hid hi
            have HI0 := Lib.hid hz0
            have HI1 := Lib.hid hzz1
            have HI2 := Lib.hid hzz2
            subst hus
            have hl8 : l.length ≤ 8 := by omega
            have HLM := Lib.hid hlm
            have w1' : IntKind.i64.wrap ((m : Int) + 1 - 1) = (m : Int) := by rw [Int.add_sub_cancel]; exact IntWalk.i64_in _ (by omega)
            clear hu hl hrow hxm hi hz0 hzz1 hzz2 hlm hform
            go_wp2_with (at_builtin; refine wpList_append_lies _ rfl _ _ 27 rfl w.heap.size 3 i0 _ 1 8 Try.underlying27 HI.out HI0.out HI1.out HI2.out rfl (by decide) _ l.length _ rfl (HROW.out.alloc _) ⟨w5.heap.size, 0, none⟩ 1 1 [.int .i64 3] rfl rfl (fun j v hj => by match j, hj with | 0, hj => (simp at hj; subst hj; simp [Addr.add])) (fun v hv => by simp at hv; subst hv; rfl) (by decide) (by unfold maxLen; omega) (by omega) (by simp; omega) _ rfl ?_; intro g' cap' w6 hown6 hg6 hat6 hlt6; have HV6 := Lib.hid hown6; have HG6 := Lib.hid hg6; have HAT := Lib.hid hat6; have c6 := (World.cell?_of_block (a := ⟨bO, m, none⟩) (hg6.block bO (by simp; omega) (fun e => (hbu.out bO e.symm).1 rfl))).trans ((World.cell?_alloc_past _ _ _ hbOl).trans c1); have hO6 := ownsRow_tag2 (HO5.out.alloc (.cells #[.int .i64 3] 3)) (HROW.out.alloc _) hg6; have f6 := hO6.frozenAt m; have HO6 := Lib.hid hO6; clear hown6 hg6 hat6)
            go_ret
            have BB := (Below.refl w5.heap.size w5).alloc (Nat.le_refl _) (.cells #[.int .i64 3] 3)
            have hz6 := HG6.out.size
            simp at hz6
            have hv6 : w6.ownsRow w.heap.size 3 1 (.slice (some ⟨g', 0, none⟩) (l ++ [3]).length cap') (l ++ [3]).length ((l ++ [3]).map (Value.int .i64)) := by
              have h6 := HV6.out
              rw [List.map_append, List.length_append]
              exact h6
            have hrep := (HRW5.out.below BB).replace (m := m) (H := (w5.alloc (.cells #[.int .i64 3] 3)).heap.size) (by omega) (by rw [← HU.out]; exact HG6.out) (by simp) (.inr (Nat.le_refl _)) hv6 (by rw [← HU.out]; exact HAT.out) hlt6
            obtain ⟨st1, st2⟩ := HO6.out.stored m (.slice (some ⟨g', 0, none⟩) (l.length + 1) cap')
            have hel : (l ++ [(3 : Int)]).length = l.length + 1 := by simp
            rw [hel] at hrep
            have hrep2 := hrep.tag HO6.out st2
            have hgs : (g.set m (l ++ [3])).length = m + 1 := by rw [List.length_set]; exact hgl
            have hbb : ∀ b, (Value.slice ua l.length uc).ownBlock = some b → w.heap.size ≤ b := fun b hb => (hbu.out b hb).2
            have hsz7 := st2.size
            have hbO3 : ∀ b, some bO = some b → w.heap.size ≤ b := fun b hb => by cases hb; exact hbO
            refine ⟨_, g.set m (l ++ [3]), P' + 1, rfl, hrep2.ownG (v := .slice (some ⟨bO, 0, none⟩) (m + 1) oc) (by rw [hgs]; exact st1) (Nat.le_refl _), hgs, fun j hj => ?_, ?_, by omega, ?_⟩
            · rw [setR_get (by omega)]
              by_cases e : j = m
              · rw [if_pos e, hel, HLM.out]; omega
              · rw [if_neg e]
                have := HL.out j (by omega)
                omega
            · exact ((HRD5.out.below BB HRD5.out.lt).below (B := w.heap.size) ((Below.refl w.heap.size _).grown HG6.out (by simp; omega) hbb) hRw).below (B := w.heap.size) ((Below.refl w.heap.size _).grown st2 (by omega) hbO3) hRw
            · exact ((HT5.out.new BB).grown HG6.out hbb).grown st2 hbO3
          · have q1 : (d == 1) = false := by simp [d1]
            have HG := Lib.hid (HRW5.out.ownG (v := .slice oa k oc) (by rw [hgl]; exact HO5.out) (Nat.le_refl _))
            clear d0 d1
            go_wp2
            go_ret
            exact ⟨_, g, P' + 1, rfl, HG.out, hgl, fun j hj => by have := HL.out j hj; omega, HRD5.out, by omega, HT5.out⟩
end Go.Proofs.Ytdelcebkpdnnjaa
namespace Go.Proofs.Ytdelcebkpdnnjaa
open Go.RowKit Go.Deep

/-- lists of rows that a draw gives: some rows, none of them empty, all short -/
def Drawn (g : Rows) : Prop := 1 ≤ g.length ∧ g.length ≤ 8 ∧ ∀ j, j < g.length → 1 ≤ (g[j]?.getD []).length ∧ (g[j]?.getD []).length ≤ 9

set_option maxHeartbeats 1000000 in
set_option maxRecDepth 100000 in
theorem l91Grid_any (R P : Nat) (w : World) (h : Rd w R P) (hP : P ≤ 50000) :
    Calls Try.prog 70 #[.pointer (some ⟨R, 0, none⟩)] w fun e w' => ∃ v g P', e = .returned v ∧ OwnG w.heap.size w'.heap.size w' v g ∧ Drawn g ∧ Rd w' R P' ∧ P' ≤ P + 110 ∧ Touch R (R + 1) w w' := by
  have HR := Lib.hid h
  clear h
  go_enter Try.func70, Try.ntmps70
  go_wp2_with fail
  refine (pick_i R P _ _ HR.out (by omega) (by omega) (by omega)).mono ?_
  rintro e w1 ⟨x, rfl, hx0, hx1, hrd1, ht1⟩
  obtain ⟨xn, rfl⟩ : ∃ n : Nat, x = (n : Int) := ⟨x.toNat, by omega⟩
  have HR1 := Lib.hid hrd1
  have HT1 := Lib.hid ht1
  have z1 := ht1.size
  clear hrd1 ht1
  go_wp2_with fail
  refine (pick_i R (P + 1) _ _ HR1.out (by omega) (by omega) (by omega)).mono ?_
  rintro e w2 ⟨y, rfl, hy0, hy1, hrd2, ht2⟩
  obtain ⟨yn, rfl⟩ : ∃ n : Nat, y = (n : Int) := ⟨y.toNat, by omega⟩
  have HR2 := Lib.hid hrd2
  have HT2 := Lib.hid (HT1.out.trans ht2)
  have z2 := ht2.size
  clear hrd2 ht2
  have C := Lib.hid (l91Rough_any R (P + 1 + 1) (1 + xn) (1 + yn) w2 HR2.out (by omega) (by omega) (by omega) (by omega) (by omega))
  have e1 : ((1 + xn : Nat) : Int) = 1 + (xn : Int) := by omega
  have e2 : ((1 + yn : Nat) : Int) = 1 + (yn : Int) := by omega
  rw [e1, e2] at C
  go_wp2_with fail
  refine C.out.mono ?_
  rintro e w3 ⟨v, g, P', rfl, hO, hgl, hlens, hrd3, hP', ht3⟩
  have z3 := ht3.size
  go_wp2
  go_ret
  exact ⟨v, g, P', rfl, hO.mono (by omega) (Nat.le_refl _), ⟨by omega, by omega, fun j hj => hlens j (by omega)⟩, hrd3, by omega, HT2.out.trans ht3⟩

end Go.Proofs.Ytdelcebkpdnnjaa
namespace Go.Proofs.Ytdelcebkpdnnjaa
open Go.RowKit Go.Deep Go.Sort BigFrame

theorem touch_row {w w' : World} {k : Nat} (hg : w.grownBy w' (some k)) : Touch k (k + 1) w w' :=
  ⟨hg.os, hg.tape, hg.output, hg.size, fun j hj hn => hg.block j hj (fun e => by cases e; omega)⟩
theorem touch_none {w w' : World} (hg : w.grownBy w' none) (k : Nat) : Touch k k w w' :=
  ⟨hg.os, hg.tape, hg.output, hg.size, fun j hj _ => hg.block j hj (fun e => by cases e)⟩
theorem OwnG.away {lo hi : Nat} {w w' : World} {v : Value} {g : Rows} {row : Option Nat} (h : OwnG lo hi w v g) (hg : w.grownBy w' row) (hr : ∀ k, row = some k → k < lo ∨ hi ≤ k) : OwnG lo hi w' v g := by
  cases row with
  | none => exact h.touch (touch_none hg hi) (.inl (Nat.le_refl _))
  | some k => exact h.touch (touch_row hg) (by have := hr k rfl; omega)
theorem Rd.away {w w' : World} {R P : Nat} {row : Option Nat} (h : Rd w R P) (hg : w.grownBy w' row) (hr : ∀ k, row = some k → R < k) : Rd w' R P := by
  cases row with
  | none => exact h.touch (touch_none hg (R + 1)) (by omega)
  | some k => exact h.touch (touch_row hg) (hr k rfl)
theorem cells4_at {W : World} {x0 x1 x2 x3 : Value} {t : TypeId} {N : Nat} (hN : W.heap.size = N) (j : Nat) (u : Value) (h : [x0, x1, x2, x3][j]? = some u) : (W.alloc (.cells #[x0, x1, x2, x3] t)).cell? ((⟨N, 0, none⟩ : Addr).add j) = some u := by
  subst hN
  have hj : j < 4 := by have := (List.getElem?_eq_some_iff.1 h).1; simpa using this
  match j, hj with
  | 0, _ => rw [addr_add]; simpa using h
  | 1, _ => rw [addr_add]; simpa using h
  | 2, _ => rw [addr_add]; simpa using h
  | 3, _ => rw [addr_add]; simpa using h
theorem flat_one (q : Quad) : flat [q] = [.int .i64 q.1, .int .i64 q.2.1, .int .i64 q.2.2.1, .int .i64 q.2.2.2] := by
  simp [flat, List.range_succ, qcell]
/-- append(out, q), and where the new slice lies -/
theorem app_quad_at {ops : Array Oper} {rest : List Oper} {o : Oper} {a : Act} {Q : Exit → Act → World → Prop} (W : World) (hgd : o.guard = none) (s x : Operand)
    (ho : o.op = .call { callee := .builtin .append, args := #[s, x], argTypes := #[24, 24] }) (base : Nat) (v : Value) (l : List Quad) (q : Quad)
    (hown : W.ownsRow base 41 4 v l.length (flat l)) (hs : a.eval s = v) (N : Nat) (hc : ∀ (j : Nat) (u : Value), [Value.int .i64 q.1, .int .i64 q.2.1, .int .i64 q.2.2.1, .int .i64 q.2.2.2][j]? = some u → W.cell? ((⟨N, 0, none⟩ : Addr).add j) = some u) (hx : a.eval x = .slice (some ⟨N, 0, none⟩) 1 1) (hlen : l.length ≤ 1000000) (hb : base ≤ W.heap.size)
    (h : ∀ v' w', w'.ownsRow base 41 4 v' (l ++ [q]).length (flat (l ++ [q])) → W.grownBy w' v.ownBlock → (v'.ownBlock = v.ownBlock ∨ v'.ownBlock = some W.heap.size) → wpList Try.prog ops Q rest (a.put o.dst v') w') :
    wpList Try.prog ops Q (o :: rest) a W := by
  obtain ⟨i0, hi, hz0, hz1, hz2⟩ := info_parts info_fix
  refine wpList_append_own_at _ hgd s x 24 ho base 41 i0 _ 4 32 Try.underlying24 hi hz0 hz1 hz2 rfl (by decide) v l.length _ hs hown ⟨N, 0, none⟩ 1 1 [.int .i64 q.1, .int .i64 q.2.1, .int .i64 q.2.2.1, .int .i64 q.2.2.2] hx rfl hc (by simp [Value.oneCell']) (by unfold maxLen; omega) (by omega) hb ?_
  intro v' w' r1 r2 _ r4
  exact h v' w' (by rw [flat_append, List.length_append, flat_one]; exact r1) r2 r4
theorem ownsRow_blk {W W' : World} {base n size : Nat} {e : TypeId} {v : Value} {xs : List Value} (h : W.ownsRow base e size v n xs) (hb : ∀ k, v.ownBlock = some k → W'.heap[k]? = W.heap[k]?) : W'.ownsRow base e size v n xs := by
  refine ⟨h.1, ?_⟩
  rcases h.2 with h | ⟨g, cp, cur, e1, e2, e3, e4⟩
  · exact .inl h
  · exact .inr ⟨g, cp, cur, e1, e2, (hb g (by rw [e1]; rfl)).trans e3, e4⟩
theorem ownQ_setW {w : World} {lo hi b off cap n : Nat} {t : TypeId} {l : List Quad} {f : Nat → Value} (z : Int) (hp : 0 < l.length) (h1 : l.length ≤ cap) (h2 : cap ≤ 9223372036854775807) (h3 : lo ≤ b) (h4 : b < hi) (h5 : w.rowIs b t n f) (h6 : off + l.length * 4 ≤ n)
    (h7 : ∀ j, j < l.length → f (off + j * 4) = .int .i64 (l[j]?.getD q0).1 ∧ f (off + j * 4 + 1) = .int .i64 (l[j]?.getD q0).2.1 ∧ f (off + j * 4 + 2) = .int .i64 (l[j]?.getD q0).2.2.1 ∧ f (off + j * 4 + 3) = .int .i64 (l[j]?.getD q0).2.2.2) :
    OwnQ lo hi (w.setCell ⟨b, off + 2, none⟩ (.int .i64 z)) (.slice (some ⟨b, off, none⟩) l.length cap) (l.set 0 ((l[0]?.getD q0).1, (l[0]?.getD q0).2.1, z, (l[0]?.getD q0).2.2.2)) := by
  have hl : (l.set 0 ((l[0]?.getD q0).1, (l[0]?.getD q0).2.1, z, (l[0]?.getD q0).2.2.2)).length = l.length := by simp
  refine .inr ⟨b, off, cap, t, n, _, by rw [hl], by omega, h2, h3, h4, h5.set (off + 2) (.int .i64 z), by omega, fun j hj => ?_⟩
  rw [hl] at hj
  obtain ⟨g0, g1, g2, g3⟩ := h7 j hj
  by_cases e : j = 0
  · subst e
    simp only [Nat.zero_mul, Nat.add_zero] at g0 g1 g2 g3 ⊢
    rw [List.getElem?_set_self hp]
    exact ⟨(if_neg (by omega)).trans g0, (if_neg (by omega)).trans g1, by simp, (if_neg (by omega)).trans g3⟩
  · rw [List.getElem?_set_ne (fun h => e h.symm)]
    exact ⟨(if_neg (by omega)).trans g0, (if_neg (by omega)).trans g1, (if_neg (by omega)).trans g2, (if_neg (by omega)).trans g3⟩
theorem OwnG.row0 {lo hi n cap b o : Nat} {w : World} {g : Rows} (h : OwnG lo hi w (.slice (some ⟨b, o, none⟩) n cap) g) (hp : 0 < g.length) : ∃ a2 c2, w.cell? ⟨b, o, none⟩ = some (.slice a2 (colsOf g) c2) := by
  obtain ⟨a', cap', e, _, _, h3⟩ := h.gridB
  obtain ⟨b', o', ea, _, hc⟩ := h3 hp
  obtain ⟨r, hr, a2, c2, rfl, _⟩ := hc 0 hp
  subst ea
  simp only [Value.slice.injEq, Option.some.injEq, Addr.mk.injEq] at e
  obtain ⟨⟨rfl, rfl, _⟩, _, _⟩ := e
  exact ⟨a2, c2, hr⟩

set_option maxHeartbeats 4000000 in
set_option maxRecDepth 100000 in
theorem l92Some_any (R P n lo hi : Nat) (vg : Value) (g : Rows) (w : World) (h : Rd w R P) (hP : P ≤ 10000) (hn : n ≤ 100) (hO : OwnG lo hi w vg g) (hR : R < lo) (hhi : hi ≤ w.heap.size) :
    Calls Try.prog 76 #[.pointer (some ⟨R, 0, none⟩), vg, .int .i64 n] w fun e w' => ∃ v l P', e = .returned v ∧ OwnQ w.heap.size w'.heap.size w' v l ∧ l.length ≤ n ∧ Rd w' R P' ∧ P' ≤ P + 3 * n + 1 ∧ Touch R (R + 1) w w' := by
  have hRw := h.lt
  have HR0 := Lib.hid h
  have B0 := Lib.hid ((Below.refl w.heap.size w).alloc (Nat.le_refl _) (.cells #[] 41))
  have HO0 := Lib.hid (World.ownsRow_made (base := w.heap.size) (e := 41) (size := 4) w #[] 0 (Nat.le_refl _) (by decide) rfl)
  have HG0 := Lib.hid hO
  have HG1 := Lib.hid (hO.below B0.out hhi)
  have CV := Lib.hid (specGridValid_any vg g _ (HG1.out.grid (by simp; omega)))
  obtain ⟨ga, gcap, rfl, _, _, hg3⟩ := hO.gridB
  clear h hO
  by_cases hg : GridOk g
  · rw [decide_eq_true hg] at CV
    obtain ⟨gb, go, rfl, _, _⟩ := hg3 hg.1
    clear hg3
    have hgl := hg.1
    have hgl2 := hg.2.1
    have hca := hg.2.2.1
    have hca2 := hg.2.2.2.1
    have HGO := Lib.hid hg
    have HRL : Hid (∀ k, k < g.length → (g[k]?.getD []).length ≤ 1000000) := fun k hk => by have := (hg.2.2.2.2 k hk).1; omega
    clear hg
    go_enter Try.func76, Try.ntmps76
    go_wp2_with fail
    refine CV.out.mono ?_
    rintro e w1 ⟨rfl, hb1⟩
    have z1 := hb1.size
    simp only [World.size_alloc] at z1
    have HB1 := Lib.hid (B0.out.trans (hb1.mono (by simp)))
    have HO1 := Lib.hid (ownsRow_bel HO0.out hb1)
    clear hb1 CV
    go_wp2_with fail
    refine (l1Copy_any _ g _ ((HG0.out.below HB1.out hhi).grid (by omega)) (by omega) HRL.out).mono ?_
    rintro e w2 ⟨x, rfl, hOx, hb2⟩
    have z2 := hb2.size
    have HB2 := Lib.hid (HB1.out.trans (hb2.mono (by omega)))
    have HO2 := Lib.hid (ownsRow_bel HO1.out hb2)
    have HX := Lib.hid hOx
    clear hOx hb2
    obtain ⟨L0, hL0⟩ : ∃ L, L = w1.heap.size := ⟨_, rfl⟩
    obtain ⟨L1, hL1⟩ : ∃ L, L = w2.heap.size := ⟨_, rfl⟩
    rw [← hL0, ← hL1] at HX
    rw [← hL0] at z1 z2
    rw [← hL1] at z2
    have HL1 := Lib.hid hL1
    clear hL0 hL1
    go_wp2_with fail
    go_loopw [7, 9, 10, 11] (fun v s _ _ wr => ∃ (k P' : Nat) (l : List Quad) (gx : Rows), k ≤ n ∧ s = .int .i64 k ∧ wr.ownsRow w.heap.size 41 4 v l.length (flat l) ∧ (∀ m, v.ownBlock = some m → m < L0 ∨ L1 ≤ m) ∧ l.length ≤ k ∧ Rd wr R P' ∧ P' ≤ P + 3 * k ∧ OwnG L0 L1 wr x gx ∧ gx.length = g.length ∧ (∀ i, i < g.length → (gx[i]?.getD []).length = colsOf g) ∧ L1 ≤ wr.heap.size ∧ Touch R (R + 1) w wr) (fun _ s _ _ _ => n - (intOf s).toNat)
    case atStart => exact ⟨0, P, [], g, Nat.zero_le _, rfl, HO2.out, (fun m e => .inl (by simp [Value.ownBlock] at e; omega)), Nat.le_refl _, HR0.out.below HB2.out hRw, Nat.le_refl _, HX.out, rfl, (fun i hi => (HGO.out.2.2.2.2 i hi).1), by rw [HL1.out]; exact Nat.le_refl _, (Touch.refl R (R + 1) w).then HB2.out⟩
    case round =>
      obtain ⟨k, P', l, gx, hk, rfl, hown, hfar, hlk, hrd, hPk, hOx, hgx1, hgx2, hL1w, ht⟩ := hrel
      obtain ⟨va, vc, rfl⟩ := ownsRow_sl hown
      have HO := Lib.hid hown
      have HFAR := Lib.hid hfar
      have HRD := Lib.hid hrd
      have HOX := Lib.hid hOx
      have HGX := Lib.hid hgx2
      have HT := Lib.hid ht
      have hzw := ht.size
      by_cases hlt : k < n
      · clear hown hfar hrd hOx hgx2 ht
        go_wp2_with fail
        refine (pick_i R P' _ _ HRD.out (by omega) (by omega) (by omega)).mono ?_
        rintro e w5 ⟨y, rfl, hy0, hy1, hrd5, ht5⟩
        have HR5 := Lib.hid hrd5
        have HT5 := Lib.hid ht5
        obtain ⟨a5, c5, j5⟩ := (HG0.out.touch (HT.out.trans ht5) (.inr (by omega))).row0 (by omega)
        clear hrd5 ht5
        go_wp2_with fail
        refine (pick_i R (P' + 1) _ _ HR5.out (by omega) (by omega) (by omega)).mono ?_
        rintro e w6 ⟨c, rfl, hc0, hc1, hrd6, ht6⟩
        have HR6 := Lib.hid hrd6
        have HT6 := Lib.hid (HT5.out.trans ht6)
        clear hrd6 ht6 j5
        go_wp2_with fail
        refine (pick_i R (P' + 1 + 1) _ _ HR6.out (by omega) (by omega) (by omega)).mono ?_
        rintro e w7 ⟨z, rfl, hz0, hz1, hrd7, ht7⟩
        have HR7 := Lib.hid hrd7
        have HT7 := Lib.hid (HT6.out.trans ht7)
        have z7 := HT7.out.size
        have HO7 := Lib.hid (ownsRow_pick HO.out HT7.out (by omega))
        have HX7 := Lib.hid (HOX.out.touch HT7.out (.inr (by omega)))
        have HTW := Lib.hid (HT.out.trans HT7.out)
        clear hrd7 ht7
        obtain ⟨i, rfl⟩ : ∃ i : Nat, y = (i : Int) := ⟨y.toNat, by omega⟩
        obtain ⟨j, rfl⟩ : ∃ j : Nat, c = (j : Int) := ⟨c.toNat, by omega⟩
        have hi' : i < gx.length := by omega
        have hjr := HGX.out i (by omega)
        obtain ⟨bx, ox, cx, bx2, ox2, cx2, hxv, s1, s2, s3, s4, s5, s6, s7, s8⟩ := HX7.out.cell (r := i) (c := j) hi' (by omega)
        rw [hjr] at s1
        rw [hgx1] at hxv
        subst hxv
        obtain ⟨u, hu⟩ : ∃ u, u = (gx[i]?.getD [])[j]?.getD 0 := ⟨_, rfl⟩
        rw [← hu] at s2
        have HBX := Lib.hid (QBox_new w7 ((i : Int), (j : Int), (0 : Int), z) 41)
        have hrow8 : (w7.alloc (.cells #[.int .i64 (i : Int), .int .i64 (j : Int), .int .i64 0, .int .i64 z] 41)).rowIs w7.heap.size 41 4 (fun t => (#[Value.int .i64 (i : Int), .int .i64 (j : Int), .int .i64 0, .int .i64 z] : Array Value)[t]?.getD undef) := ⟨_, heap_alloc_new w7 _, rfl, fun t ht => by
          match t, ht with
          | 0, _ => rfl
          | 1, _ => rfl
          | 2, _ => rfl
          | 3, _ => rfl⟩
        have hbw : bx ≠ w7.heap.size := by have := World.block_lt_of_cell? _ _ s1; simp only at this; omega
        have hbw2 : bx2 ≠ w7.heap.size := by omega
        have t1 := (World.cell?_alloc_old w7 (.cells #[.int .i64 (i : Int), .int .i64 (j : Int), .int .i64 0, .int .i64 z] 41) ⟨bx, ox + i, none⟩ hbw).trans s1
        have t2 := (World.cell?_alloc_old w7 (.cells #[.int .i64 (i : Int), .int .i64 (j : Int), .int .i64 0, .int .i64 z] 41) ⟨bx2, ox2 + j, none⟩ hbw2).trans s2
        obtain ⟨W8, hW8⟩ : ∃ W8, W8 = w7.alloc (.cells #[.int .i64 (i : Int), .int .i64 (j : Int), .int .i64 0, .int .i64 z] 41) := ⟨_, rfl⟩
        obtain ⟨F, hF⟩ : ∃ F, F = w7.heap.size := ⟨_, rfl⟩
        have hz8 : W8.heap.size = F + 1 := by rw [hW8, hF]; simp
        have HO8 := Lib.hid (HO7.out.alloc (.cells #[.int .i64 (i : Int), .int .i64 (j : Int), .int .i64 0, .int .i64 z] 41))
        have HX8 := Lib.hid (HX7.out.below ((Below.refl w7.heap.size w7).alloc (Nat.le_refl _) (.cells #[.int .i64 (i : Int), .int .i64 (j : Int), .int .i64 0, .int .i64 z] 41)) (by omega))
        have HB8 := Lib.hid ((Below.refl w7.heap.size w7).alloc (Nat.le_refl _) (.cells #[.int .i64 (i : Int), .int .i64 (j : Int), .int .i64 0, .int .i64 z] 41))
        have i1 : (0 : Int) ≤ (i : Int) := by omega
        have i2 : (i : Int) < (g.length : Int) := by omega
        have i3 : (0 : Int) ≤ (j : Int) := by omega
        have i4 : (j : Int) < (colsOf g : Int) := by omega
        clear s1 s2 s3 s6 s7 s8 hu
        go_wp2_with fail
        rw [← hW8] at t1 t2 hrow8 HO8 HX8 HB8 ⊢
        rw [← hF] at hrow8 hbw hbw2 HB8 z7 ⊢
        have HF := Lib.hid hF
        have HW8 := Lib.hid hW8
        have HZ8 := Lib.hid hz8
        have b0 : W8.cell? ⟨F, 0, none⟩ = some (.int .i64 (i : Int)) := hrow8.cell (i := 0) (by decide)
        have b1 : W8.cell? ⟨F, 1, none⟩ = some (.int .i64 (j : Int)) := hrow8.cell (i := 1) (by decide)
        have b2 : W8.cell? ⟨F, 2, none⟩ = some (.int .i64 0) := hrow8.cell (i := 2) (by decide)
        have b2f := hrow8.frozen 2
        have HROW := Lib.hid hrow8
        clear hF hW8 hrow8 hz8
        go_still_tail 10, (by kernel_rfl)
        change wpList _ _ _ _ _ W8.drew
        have b2' : W8.drew.cell? ⟨F, 2, none⟩ = _ := b2
        have b2f' : W8.drew.frozen? ⟨F, 2, none⟩ = _ := b2f
        clear b0 b1 b2 b2f t1 t2
        have HR9' := HROW.out.set 2 (.int .i64 u)
        have d2 : (W8.setCell ⟨F, 2, none⟩ (.int .i64 u)).cell? ⟨F, 2, none⟩ = some (.int .i64 u) := HR9'.cell (i := 2) (by decide)
        have d3 : (W8.setCell ⟨F, 2, none⟩ (.int .i64 u)).cell? ⟨F, 3, none⟩ = some (.int .i64 z) := HR9'.cell (i := 3) (by decide)
        have HR9 := Lib.hid HR9'
        clear HR9'
        have hRF : R < F := by omega
        have HVF : Hid (∀ m, (Value.slice va l.length vc).ownBlock = some m → m < F) := fun m e => by have := (HO.out.lt m e).2; have := HT7.out.size; have := HF.out; omega
        have HTF : Hid (Touch F (F + 1) W8 (W8.setCell ⟨F, 2, none⟩ (.int .i64 u)).drew) := ((Touch.refl F (F + 1) W8).setCell (p := ⟨F, 2, none⟩) (Nat.le_refl _) (by simp) _).drew
        have HO9 : Hid ((W8.setCell ⟨F, 2, none⟩ (.int .i64 u)).drew.ownsRow w.heap.size 41 4 (.slice va l.length vc) l.length (flat l)) := ownsRow_blk HO8.out fun m e => by
          have := HVF.out m e
          exact HTF.out.block m (by have := HZ8.out; omega) (by omega)
        have HX9 : Hid (OwnG L0 L1 (W8.setCell ⟨F, 2, none⟩ (.int .i64 u)).drew (.slice (some ⟨bx, ox, none⟩) g.length cx) gx) := HX8.out.touch HTF.out (.inl (by omega))
        have HB9 : Hid (Below F w7 (W8.setCell ⟨F, 2, none⟩ (.int .i64 u)).drew) := (HB8.out.setCell (p := ⟨F, 2, none⟩) (Nat.le_refl _) _).drew
        have HRD9 : Hid (Rd (W8.setCell ⟨F, 2, none⟩ (.int .i64 u)).drew R (P' + 1 + 1 + 1)) := HR7.out.below HB9.out hRF
        have HT9 : Hid (Touch R (R + 1) w (W8.setCell ⟨F, 2, none⟩ (.int .i64 u)).drew) := HTW.out.then (HB9.out.mono (by omega))
        have z9 : (W8.setCell ⟨F, 2, none⟩ (.int .i64 u)).drew.heap.size = F + 1 := by rw [← HZ8.out]; simp [World.setCell, World.drew]
        have HZ9 := Lib.hid z9
        clear z9
        by_cases huz : u = z
        · have tn : (u != z) = false := by simp [huz]
          clear huz
          go_wp2_with fail
          go_roundw
          case rel => exact ⟨k + 1, P' + 1 + 1 + 1, l, gx, by omega, by go_num, HO9.out, HFAR.out, by omega, HRD9.out, by omega, HX9.out, hgx1, HGX.out, by have := HZ9.out; omega, HT9.out⟩
          case measure => simp [intOf]; omega
        · have tn : (u != z) = true := by simp [huz]
          clear huz
          have d0 : (W8.setCell ⟨F, 2, none⟩ (.int .i64 u)).cell? ⟨F, 0, none⟩ = some (.int .i64 (i : Int)) := HR9.out.cell (i := 0) (by decide)
          have d1 : (W8.setCell ⟨F, 2, none⟩ (.int .i64 u)).cell? ⟨F, 1, none⟩ = some (.int .i64 (j : Int)) := HR9.out.cell (i := 1) (by decide)
          have HOA : Hid (((W8.setCell ⟨F, 2, none⟩ (.int .i64 u)).alloc (.cells #[.int .i64 (i : Int), .int .i64 (j : Int), .int .i64 u, .int .i64 z] 41)).drew.ownsRow w.heap.size 41 4 (.slice va l.length vc) l.length (flat l)) := (HO9.out.alloc (.cells #[.int .i64 (i : Int), .int .i64 (j : Int), .int .i64 u, .int .i64 z] 41)).drew
          have hzs : (W8.setCell ⟨F, 2, none⟩ (.int .i64 u)).heap.size = F + 1 := by rw [← HZ8.out]; simp [World.setCell]
          have HC4 : Hid (∀ (t : Nat) (y : Value), [Value.int .i64 (i : Int), .int .i64 (j : Int), .int .i64 u, .int .i64 z][t]? = some y → ((W8.setCell ⟨F, 2, none⟩ (.int .i64 u)).alloc (.cells #[.int .i64 (i : Int), .int .i64 (j : Int), .int .i64 u, .int .i64 z] 41)).drew.cell? ((⟨F + 1, 0, none⟩ : Addr).add t) = some y) := fun t y h => cells4_at hzs t y h
          have hza : ((W8.setCell ⟨F, 2, none⟩ (.int .i64 u)).alloc (.cells #[.int .i64 (i : Int), .int .i64 (j : Int), .int .i64 u, .int .i64 z] 41)).drew.heap.size = F + 2 := by show (World.alloc _ _).heap.size = _; rw [World.size_alloc, hzs]
          have HZA := Lib.hid hza
          have hlow : w.heap.size ≤ ((W8.setCell ⟨F, 2, none⟩ (.int .i64 u)).alloc (.cells #[.int .i64 (i : Int), .int .i64 (j : Int), .int .i64 u, .int .i64 z] 41)).drew.heap.size := by rw [hza]; omega
          have hl6 : l.length ≤ 1000000 := by omega
          have HBA : Hid (Below (W8.setCell ⟨F, 2, none⟩ (.int .i64 u)).drew.heap.size (W8.setCell ⟨F, 2, none⟩ (.int .i64 u)).drew ((W8.setCell ⟨F, 2, none⟩ (.int .i64 u)).alloc (.cells #[.int .i64 (i : Int), .int .i64 (j : Int), .int .i64 u, .int .i64 z] 41)).drew) := ⟨rfl, rfl, rfl, by show (W8.setCell _ _).heap.size ≤ (World.alloc _ _).heap.size; simp, fun m hm => Below.heap_alloc (W8.setCell ⟨F, 2, none⟩ (.int .i64 u)) _ m hm⟩
          have h8 := HZ8.out
          clear hza hzs
          go_wp2_with (at_builtin; refine app_quad_at _ rfl _ _ rfl w.heap.size _ l ((i : Int), (j : Int), u, z) HOA.out rfl (F + 1) HC4.out rfl hl6 hlow ?_; intro v10 w10 hown10 hg10 hat10)
          have hzd : (W8.setCell ⟨F, 2, none⟩ (.int .i64 u)).heap.size = F + 1 := by rw [← HZ8.out]; simp [World.setCell]
          have HR10 := Lib.hid (((HR9.out.alloc (.cells #[.int .i64 (i : Int), .int .i64 (j : Int), .int .i64 u, .int .i64 z] 41)).drew).of_block (hg10.block F (by rw [HZA.out]; omega) (fun e => by have := HVF.out F e.symm; omega)))
          have HX10 := Lib.hid (((HX9.out.below HBA.out (by show L1 ≤ (W8.setCell _ _).heap.size; omega)).away hg10 (fun m e => HFAR.out m e)))
          have hRk : ∀ m, (Value.slice va l.length vc).ownBlock = some m → R < m := fun m e => by have := (HO.out.lt m e).1; omega
          have HRD10 := Lib.hid ((HRD9.out.below HBA.out (by show R < (W8.setCell _ _).heap.size; omega)).away hg10 hRk)
          have HT10 := Lib.hid (Touch.grown (HT9.out.then (HBA.out.mono (by show w.heap.size ≤ (W8.setCell _ _).heap.size; omega))) hg10 (fun m e => (HO.out.lt m e).1))
          have z10 : F + 2 ≤ w10.heap.size := by have := hg10.size; rw [HZA.out] at this; exact this
          have HFR10 : Hid (∀ m, v10.ownBlock = some m → m < L0 ∨ L1 ≤ m) := fun m e => by
            rcases hat10 with h | h
            · exact HFAR.out m (h.symm.trans e)
            · rw [h, HZA.out] at e; cases e; omega
          have HO10 := Lib.hid hown10
          obtain ⟨va2, vc2, rfl⟩ := ownsRow_sl hown10
          obtain ⟨by', oy', cy, bx3, ox3, cx3, hxv, s1, s2, s3, s4', s5', s6, s7, s8⟩ := HX10.out.cell (r := i) (c := j) hi' (by rw [hjr]; omega)
          rw [hgx1] at hxv
          simp only [Value.slice.injEq, Option.some.injEq, Addr.mk.injEq] at hxv
          obtain ⟨⟨rfl, rfl, _⟩, _, rfl⟩ := hxv
          rw [hjr] at s1
          obtain ⟨y, hy⟩ : ∃ y, y = (gx[i]?.getD [])[j]?.getD 0 := ⟨_, rfl⟩
          rw [← hy] at s2
          have S8 := Lib.hid (s8 z)
          have e0 : w10.cell? ⟨F, 0, none⟩ = some (.int .i64 (i : Int)) := HR10.out.cell (i := 0) (by decide)
          have e1 : w10.cell? ⟨F, 1, none⟩ = some (.int .i64 (j : Int)) := HR10.out.cell (i := 1) (by decide)
          have e3 : w10.cell? ⟨F, 3, none⟩ = some (.int .i64 z) := HR10.out.cell (i := 3) (by decide)
          clear s8 hy d0 d1 d2 d3 hown10 hg10 hat10 hRk
          go_still_tail 10, (by kernel_rfl)
          change wpList _ _ _ _ _ w10.drew
          have t2' : w10.drew.cell? ⟨bx3, ox3 + j, none⟩ = _ := s2
          have t3' : w10.drew.frozen? ⟨bx3, ox3 + j, none⟩ = _ := s3
          go_wp2_with fail
          go_roundw
          case rel =>
            have hTB : Touch L0 L1 w10 (w10.setCell ⟨bx3, ox3 + j, none⟩ (.int .i64 z)).drew := ((Touch.refl L0 L1 w10).setCell s4' s5' _).drew
            have hzB : w10.heap.size ≤ (w10.setCell ⟨bx3, ox3 + j, none⟩ (.int .i64 z)).drew.heap.size := hTB.size
            have hO11 : (w10.setCell ⟨bx3, ox3 + j, none⟩ (.int .i64 z)).drew.ownsRow w.heap.size 41 4 (.slice va2 (l ++ [((i : Int), (j : Int), u, z)]).length vc2) (l ++ [((i : Int), (j : Int), u, z)]).length (flat (l ++ [((i : Int), (j : Int), u, z)])) := ownsRow_blk HO10.out fun m e => by
              have := HFR10.out m e
              exact hTB.block m (HO10.out.lt m e).2 (by omega)
            have hsv : Value.slice va2 (l ++ [((i : Int), (j : Int), u, z)]).length vc2 = Value.slice va2 (l.length + 1) vc2 := by simp
            refine ⟨k + 1, P' + 1 + 1 + 1, l ++ [((i : Int), (j : Int), u, z)], _, by omega, by go_num, (by rw [← hsv]; exact hO11), (by rw [← hsv]; exact HFR10.out), by rw [List.length_append]; simp only [List.length_cons, List.length_nil]; omega, HRD10.out.touch hTB (by omega), by omega, S8.out, by rw [List.length_set]; exact hgx1, fun i' hi'' => ?_, by omega, HT10.out.then (((Below.refl w.heap.size w10).setCell (p := ⟨bx3, ox3 + j, none⟩) (by show w.heap.size ≤ bx3; omega) _).drew)⟩
            rw [setR_get hi']
            by_cases e : i' = i
            · rw [if_pos e, List.length_set]; exact hjr
            · rw [if_neg e]; exact HGX.out i' hi''
          case measure => simp [intOf]; omega
      · obtain rfl : k = n := by omega
        clear hown hfar hrd hOx hgx2 ht
        by_cases hpos : 0 < l.length
        · go_wp2_with fail
          refine (pick_i R P' _ _ HRD.out (by omega) (by omega) (by omega)).mono ?_
          rintro e w4 ⟨c, rfl, hc0, hc1, hrd4, ht4⟩
          have HR4 := Lib.hid hrd4
          have HT4 := Lib.hid (HT.out.trans ht4)
          have hs4 := ht4.size
          have HO4 := Lib.hid (ownsRow_pick HO.out ht4 hRw)
          clear hrd4 ht4
          by_cases e0 : c = 0
          · have tc : (c == 0) = true := by simp [e0]
            obtain ⟨b9, off9, cap9, t9, n9, f9, hv9, hk91, hk92, hlo9, hhi9, hrow9, hlen9, hf9⟩ := (ownQ_of_ownsRow HO4.out (Nat.le_refl _)).resolve_left (fun h => by rw [h.1] at hpos; simp at hpos)
            obtain ⟨rfl, rfl⟩ : va = some ⟨b9, off9, none⟩ ∧ vc = cap9 := by simp at hv9; exact hv9
            have HROW := Lib.hid hrow9
            have HF9 := Lib.hid hf9
            have d2 := hrow9.cell (i := off9 + 2) (by omega)
            have f2 := hrow9.frozen (off9 + 2)
            have hq := (hf9 0 hpos).2.2.1
            rw [Nat.zero_mul, Nat.add_zero] at hq
            rw [hq] at d2
            obtain ⟨o, ho⟩ : ∃ o, o = (l[0]?.getD q0).2.2.1 := ⟨_, rfl⟩
            rw [← ho] at d2
            have hR4 := HR4.out.lt
            have hp1 : (0 : Int) < (l.length : Int) := by omega
            clear hrow9 hf9 hv9 hq ho e0
            go_wp2_with fail
            go_ret
            refine ⟨_, _, P' + 1, rfl, ownQ_setW (hi := (w4.setCell ⟨b9, off9 + 2, none⟩ _).heap.size) _ hpos hk91 hk92 hlo9 (by simp [World.setCell]; omega) HROW.out hlen9 HF9.out, by rw [List.length_set]; omega, HR4.out.below ((Below.refl b9 w4).setCell (p := ⟨b9, off9 + 2, none⟩) (Nat.le_refl b9) _) (by omega), by omega, HT4.out.then ((Below.refl w.heap.size w4).setCell (p := ⟨b9, off9 + 2, none⟩) hlo9 _)⟩
          · have tc : (c == 0) = false := by simp [e0]
            clear e0
            go_wp2_with fail
            go_ret
            exact ⟨_, l, P' + 1, rfl, ownQ_of_ownsRow HO4.out (Nat.le_refl _), hlk, HR4.out, by omega, HT4.out⟩
        · have hp1 : ¬ (0 : Int) < (l.length : Int) := by omega
          have hp2 : l.length = 0 := by omega
          clear hpos hp2
          go_wp2_with fail
          go_ret
          first | exact ⟨_, l, P', rfl, ownQ_of_ownsRow HO.out (Nat.le_refl _), hlk, HRD.out, by omega, HT.out⟩ | exact ⟨_, rfl, l, ownQ_of_ownsRow HO.out (Nat.le_refl _), hlk, P', HRD.out, by omega, HT.out⟩
  · rw [decide_eq_false hg] at CV
    clear hg
    go_enter Try.func76, Try.ntmps76
    go_wp2_with fail
    refine CV.out.mono ?_
    rintro e w1 ⟨rfl, hb1⟩
    have HB1 := Lib.hid (B0.out.trans (hb1.mono (by simp)))
    clear hb1 CV
    go_wp2
    go_ret
    exact ⟨_, [], P, rfl, .inl ⟨rfl, _, _, rfl, by omega⟩, Nat.zero_le _, HR0.out.below HB1.out hRw, by omega, (Touch.refl R (R + 1) w).then HB1.out⟩
end Go.Proofs.Ytdelcebkpdnnjaa
namespace Go.Proofs.Ytdelcebkpdnnjaa
open Go.RowKit Go.Deep Go.Sort

set_option maxHeartbeats 1000000 in
set_option maxRecDepth 100000 in
theorem l92Fixes_any (R P : Nat) (w : World) (h : Rd w R P) (hP : P ≤ 5000) :
    Calls Try.prog 44 #[.pointer (some ⟨R, 0, none⟩)] w fun e w' => ∃ v u g l P', e = .returned (.tuple #[v, u]) ∧ OwnG w.heap.size w'.heap.size w' v g ∧ OwnQ w.heap.size w'.heap.size w' u l ∧ Drawn g ∧ l.length ≤ 6 ∧ Rd w' R P' ∧ P' ≤ P + 200 ∧ Touch R (R + 1) w w' := by
  have HR := Lib.hid h
  have hRw := h.lt
  clear h
  go_enter Try.func44, Try.ntmps44
  go_wp2_with fail
  refine (l91Grid_any R P w HR.out (by omega)).mono ?_
  rintro e w1 ⟨v, g, P1, rfl, hO, hD, hrd1, hP1, ht1⟩
  have HR1 := Lib.hid hrd1
  have HT1 := Lib.hid ht1
  have HG1 := Lib.hid hO
  have DG := Lib.hid hD
  have z1 := ht1.size
  clear hrd1 ht1 hO hD
  go_wp2_with fail
  refine (pick_i R P1 _ _ HR1.out (by omega) (by omega) (by omega)).mono ?_
  rintro e w2 ⟨x, rfl, hx0, hx1, hrd2, ht2⟩
  obtain ⟨n, rfl⟩ : ∃ n : Nat, x = (n : Int) := ⟨x.toNat, by omega⟩
  have HR2 := Lib.hid hrd2
  have HT2 := Lib.hid (HT1.out.trans ht2)
  have HG2 := Lib.hid (HG1.out.touch ht2 (.inr (by omega)))
  have z2 := ht2.size
  clear hrd2 ht2
  go_wp2_with fail
  refine (l92Some_any R (P1 + 1) n w.heap.size w1.heap.size v g w2 HR2.out (by omega) (by omega) HG2.out hRw z2).mono ?_
  rintro e w3 ⟨u, l, P3, rfl, hQ, hl, hrd3, hP3, ht3⟩
  have HR3 := Lib.hid hrd3
  have HT3 := Lib.hid (HT2.out.trans ht3)
  have HG3 := Lib.hid (HG2.out.touch ht3 (.inr (by omega)))
  have HQ3 := Lib.hid hQ
  have z3 := ht3.size
  clear hrd3 ht3 hQ
  go_wp2
  go_ret2
  exact ⟨v, u, g, l, P3, rfl, HG3.out.mono (Nat.le_refl _) (by omega), HQ3.out.mono (by omega) (Nat.le_refl _), DG.out, by omega, HR3.out, by omega, HT3.out⟩

set_option maxHeartbeats 400000 in
theorem DrawFixesDo_any (v : Value) (n : Nat) (w : World) (h : Bytes w v n) :
    Calls Try.prog 37 #[v] w fun e w' => ∃ va vb g l, e = .returned (.tuple #[va, vb]) ∧ Grid w' va g ∧ Quads w' vb l ∧ Drawn g ∧ l.length ≤ 6 ∧ Below w.heap.size w w' := by
  have C := Lib.hid (l6Open_any v n w h)
  clear h
  go_enter Try.func37, Try.ntmps37
  go_wp2_with fail
  refine C.out.mono ?_
  rintro e w1 ⟨rfl, hrd, hb1⟩
  have B1 := Lib.hid hb1
  have z1 := hb1.size
  clear hb1
  go_wp2_with fail
  refine (l92Fixes_any w.heap.size 0 w1 hrd (by omega)).mono ?_
  rintro e w2 ⟨va, vb, g, l, P2, rfl, ha, hb, da, hl, _, _, ht⟩
  have HA := Lib.hid (ha.grid (Nat.le_refl _))
  have HB := Lib.hid hb.quads
  have HT := Lib.hid (B1.out.trans (ht.below (Nat.le_refl _) z1))
  clear ha hb ht
  go_wp2
  go_ret2
  exact ⟨va, vb, g, l, rfl, HA.out, HB.out, da, hl, HT.out⟩

end Go.Proofs.Ytdelcebkpdnnjaa
namespace Go.Proofs.Ytdelcebkpdnnjaa
open Go.RowKit Go.Deep Go.Sort

theorem shortOf_49 (g : Rows) (l : List Quad) : (shortOf g l).length ≤ 49 := by
  by_cases h : EdOk g l
  · rw [shortOf_yes h]; exact make_len h.like
  · rw [shortOf_no h]; exact Nat.zero_le _

set_option maxHeartbeats 1000000 in
set_option maxRecDepth 100000 in
theorem l92Short_any (R P lo hi : Nat) (vg : Value) (g : Rows) (w : World) (h : Rd w R P) (hP : P ≤ 5000) (hO : OwnG lo hi w vg g) (hR : R < lo) (hhi : hi ≤ w.heap.size) :
    Calls Try.prog 71 #[.pointer (some ⟨R, 0, none⟩), vg] w fun e w' => ∃ u l P', e = .returned u ∧ OwnQ w.heap.size w'.heap.size w' u l ∧ l.length ≤ 60 ∧ Rd w' R P' ∧ P' ≤ P + 60 ∧ Touch R (R + 1) w w' := by
  have HR := Lib.hid h
  have hRw := h.lt
  have HG := Lib.hid hO
  clear h hO
  go_enter Try.func71, Try.ntmps71
  go_wp2_with fail
  refine (pick_i R P _ _ HR.out (by omega) (by omega) (by omega)).mono ?_
  rintro e w1 ⟨x, rfl, hx0, hx1, hrd1, ht1⟩
  obtain ⟨n, rfl⟩ : ∃ n : Nat, x = (n : Int) := ⟨x.toNat, by omega⟩
  have HR1 := Lib.hid hrd1
  have HT1 := Lib.hid ht1
  have HG1 := Lib.hid (HG.out.touch ht1 (.inr (by omega)))
  have z1 := ht1.size
  clear hrd1 ht1
  go_wp2_with fail
  refine (l92Some_any R (P + 1) n lo hi vg g w1 HR1.out (by omega) (by omega) HG1.out hR (by omega)).mono ?_
  rintro e w2 ⟨u, l, P2, rfl, hQ, hl, hrd2, hP2, ht2⟩
  have HR2 := Lib.hid hrd2
  have HT2 := Lib.hid (HT1.out.trans ht2)
  have HG2 := Lib.hid (HG1.out.touch ht2 (.inr (by omega)))
  have HQ2 := Lib.hid hQ
  have z2 := ht2.size
  clear hrd2 ht2 hQ
  go_wp2_with fail
  refine (specFixesShort_any vg u g l w2 (HG2.out.grid (by omega)) HQ2.out.quads).mono ?_
  rintro e w3 ⟨s, rfl, hS, hb3⟩
  have z3 := hb3.size
  have HR3 := Lib.hid (HR2.out.below hb3 (by omega))
  have HT3 := Lib.hid (HT2.out.then (hb3.mono (by omega)))
  have HQ3 := Lib.hid (HQ2.out.below hb3 (Nat.le_refl _))
  have HS3 := Lib.hid hS
  have h49 := shortOf_49 g l
  clear hb3 hS
  by_cases hs : EdOk g l
  · rw [decide_eq_true hs]
    clear hs
    go_wp2_with fail
    refine (pick_i R P2 _ _ HR3.out (by omega) (by omega) (by omega)).mono ?_
    rintro e w4 ⟨c, rfl, hc0, hc1, hrd4, ht4⟩
    have HR4 := Lib.hid hrd4
    have HT4 := Lib.hid (HT3.out.trans ht4)
    have HQ4 := Lib.hid (HQ3.out.touch ht4 (.inr (by omega)))
    have HS4 := Lib.hid (HS3.out.touch ht4 (.inr (by omega)))
    have z4 := ht4.size
    clear hrd4 ht4
    by_cases c0 : 0 < c
    · go_wp2_with fail
      go_ret
      exact ⟨s, _, P2 + 1, rfl, HS4.out.mono (by omega) (by omega), by omega, HR4.out, by omega, HT4.out⟩
    · go_wp2_with fail
      go_ret
      exact ⟨u, l, P2 + 1, rfl, HQ4.out.mono (by omega) (by omega), by omega, HR4.out, by omega, HT4.out⟩
  · rw [decide_eq_false hs]
    clear hs
    go_wp2_with fail
    go_ret
    exact ⟨u, l, P2, rfl, HQ3.out.mono (by omega) (by omega), by omega, HR3.out, by omega, HT3.out⟩

set_option maxHeartbeats 2000000 in
set_option maxRecDepth 100000 in
theorem l92Both_any (R P : Nat) (w : World) (h : Rd w R P) (hP : P ≤ 2000) :
    Calls Try.prog 54 #[.pointer (some ⟨R, 0, none⟩)] w fun e w' => ∃ v u1 u2 g l1 l2, e = .returned (.tuple #[v, u1, u2]) ∧ Grid w' v g ∧ Quads w' u1 l1 ∧ Quads w' u2 l2 ∧ Drawn g ∧ l1.length ≤ 60 ∧ l2.length ≤ 60 ∧ Touch R (R + 1) w w' := by
  have HR := Lib.hid h
  have hRw := h.lt
  clear h
  go_enter Try.func54, Try.ntmps54
  go_wp2_with fail
  refine (l91Grid_any R P w HR.out (by omega)).mono ?_
  rintro e w1 ⟨v, g, P1, rfl, hO, hD, hrd1, hP1, ht1⟩
  have HR1 := Lib.hid hrd1
  have HT1 := Lib.hid ht1
  have HG1 := Lib.hid hO
  have DG := Lib.hid hD
  have z1 := ht1.size
  clear hrd1 ht1 hO hD
  go_wp2_with fail
  refine (l92Short_any R P1 w.heap.size w1.heap.size v g w1 HR1.out (by omega) HG1.out hRw (Nat.le_refl _)).mono ?_
  rintro e w2 ⟨u, l, P2, rfl, hQ, hl, hrd2, hP2, ht2⟩
  have HR2 := Lib.hid hrd2
  have HT2 := Lib.hid (HT1.out.trans ht2)
  have HG2 := Lib.hid (HG1.out.touch ht2 (.inr (by omega)))
  have HQ2 := Lib.hid hQ
  have z2 := ht2.size
  obtain ⟨ua, uc, rfl, c1, c2, c3⟩ := id hQ.quadsB
  clear hrd2 ht2 hQ c3
  have FIN : Hid (∀ W PP, Rd W R PP → PP ≤ P2 + 2 → w1.heap.size ≤ W.heap.size → OwnG w.heap.size w1.heap.size W v g → Calls Try.prog 71 #[.pointer (some ⟨R, 0, none⟩), v] W fun e w' => ∃ u l P', e = .returned u ∧ OwnQ W.heap.size w'.heap.size w' u l ∧ l.length ≤ 60 ∧ Rd w' R P' ∧ P' ≤ PP + 60 ∧ Touch R (R + 1) W w') := fun W PP h1 h2 h3 h4 => l92Short_any R PP w.heap.size w1.heap.size v g W h1 (by omega) h4 hRw h3
  by_cases h1 : 1 < l.length
  · have h1' : (1 : Int) < (l.length : Int) := by omega
    go_wp2_with fail
    refine (pick_i R P2 _ _ HR2.out (by omega) (by omega) (by omega)).mono ?_
    rintro e w3 ⟨x, rfl, hx0, hx1, hrd3, ht3⟩
    have HR3 := Lib.hid hrd3
    have HT3 := Lib.hid (HT2.out.trans ht3)
    have HG3 := Lib.hid (HG2.out.touch ht3 (.inr (by omega)))
    have HQ3 := Lib.hid (HQ2.out.touch ht3 (.inr (by omega)))
    have z3 := ht3.size
    clear hrd3 ht3
    by_cases x0 : x = 0
    · subst x0
      have e1 : IntKind.i64.wrap ((l.length : Int) - 1) = (l.length : Int) - 1 := IntWalk.i64_in _ (by omega)
      go_wp2_with fail
      refine (pick_i R (P2 + 1) _ _ HR3.out (by omega) (by omega) (by omega)).mono ?_
      rintro e w4 ⟨y, rfl, hy0, hy1, hrd4, ht4⟩
      obtain ⟨yn, rfl⟩ : ∃ n : Nat, y = (n : Int) := ⟨y.toNat, by omega⟩
      have HR4 := Lib.hid hrd4
      have HT4 := Lib.hid (HT3.out.trans ht4)
      have HG4 := Lib.hid (HG3.out.touch ht4 (.inr (by omega)))
      have HQ4 := Lib.hid (HQ3.out.touch ht4 (.inr (by omega)))
      have z4 := ht4.size
      clear hrd4 ht4
      obtain ⟨k, hk⟩ : ∃ n, n = 1 + yn := ⟨_, rfl⟩
      have e2 : 1 + (yn : Int) = (k : Int) := by omega
      have e2' : IntKind.i64.wrap (1 + (yn : Int)) = (k : Int) := by rw [e2]; exact IntWalk.i64_in _ (by omega)
      have e2n : IntKind.i64.wrap (k : Int) = (k : Int) := IntWalk.i64_in _ (by omega)
      have hk4 : 1 ≤ k ∧ k < l.length := by omega
      clear hk
      have k1 : k ≤ uc := by omega
      have CP : Hid (Calls Try.prog 77 #[.pointer (some ⟨R, 0, none⟩), .int .i64 2] w4.drew fun e w' => ∃ m c : Nat, e = .returned (.int .i64 (c : Int)) ∧ c ≤ 1 ∧ (k : Int) - (c : Int) = (m : Int) ∧ IntKind.i64.wrap ((k : Int) - (c : Int)) = (m : Int) ∧ m < l.length ∧ Touch R (R + 1) w4.drew w') := by
        refine (pick_i R (P2 + 1 + 1) 2 w4.drew (HR4.out.below (below_n (Below.refl _ _) 1) HR4.out.lt) (by omega) (by omega) (by omega)).mono ?_
        rintro e w' ⟨c, rfl, q0, q1, q2, q3⟩
        obtain ⟨cn, rfl⟩ : ∃ n : Nat, c = (n : Int) := ⟨c.toNat, by omega⟩
        obtain ⟨m, hm⟩ : ∃ m : Nat, (k : Int) - (cn : Int) = (m : Int) := ⟨k - cn, by omega⟩
        exact ⟨m, cn, rfl, by omega, hm, by rw [hm]; exact IntWalk.i64_in _ (by omega), by omega, q3⟩
      go_wp2_with fail
      go_region_held3 (fun _ => True)
        (first | trivial | go_keep)
        (first | (go_at_call 77; (with_reducible refine CP.out.mono ?_); rintro e w5 ⟨m, c, rfl, hc1, hm1, hm2, hm3, ht5⟩; have hm4 : m < uc := (by omega); have hm5 : IntKind.i64.wrap (m : Int) = (m : Int) := IntWalk.i64_in _ (by omega); have hm6 : m ≤ l.length := (by omega); have hm7 : m ≤ uc := (by omega); have hm8 : (m : Int) ≤ (uc : Int) := (by omega); have hm9 : ¬ m = uc := (by omega); have hm10 : ¬ uc ≤ m := (by omega)) | fail)
      have HD5 := Lib.hid (show Below w4.heap.size w4 w4.drew from below_n (Below.refl _ _) 1)
      have z5 : w4.heap.size ≤ w5.heap.size := ht5.size
      have HT5 := Lib.hid ((HT4.out.then (HD5.out.mono (by omega))).trans ht5)
      have HG5 := Lib.hid (((HG4.out.below HD5.out (by omega)).touch ht5 (.inr (by omega))).grid (by omega))
      have HQ5 := Lib.hid ((HQ4.out.below HD5.out (by omega)).touch ht5 (.inr (by omega))).quadsB
      have E : (if uc = m then ua else Option.map (fun x => x.add (m * 4)) ua) = Option.map (fun x => x.add (m * 4)) ua := if_neg (by omega)
      rw [E]
      have QA := Lib.hid ((HQ5.out.take (show k ≤ l.length by omega)).quads (by omega))
      have QB := Lib.hid ((HQ5.out.drop (show m ≤ l.length by omega)).quads (by omega))
      clear E ht5
      go_wp2_with fail
      exact bodyPost_ret (v := .tuple #[_, _, _]) (by simp [results, Try.results54, go_sem]) rfl ⟨v, _, _, g, _, _, rfl, HG5.out, QA.out, QB.out, DG.out, by rw [List.length_take]; omega, by rw [List.length_drop]; omega, HT5.out⟩
    · have q0 : (x == 0) = false := by simp [x0]
      clear x0
      go_wp2_with fail
      refine (FIN.out w3 (P2 + 1) HR3.out (by omega) (by omega) HG3.out).mono ?_
      rintro e w5 ⟨u5, l5, P5, rfl, hQ5, hl5, hrd5, hP5, ht5⟩
      have HT5 := Lib.hid (HT3.out.trans ht5)
      have HG5 := Lib.hid (HG3.out.touch ht5 (.inr (by omega)))
      have HQ5 := Lib.hid (HQ3.out.touch ht5 (.inr (by omega)))
      have z5 := ht5.size
      go_wp2
      exact bodyPost_ret (v := .tuple #[_, _, _]) (by simp [results, Try.results54, go_sem]) rfl ⟨v, _, u5, g, l, l5, rfl, HG5.out.grid (by omega), HQ5.out.quads, hQ5.quads, DG.out, hl, hl5, HT5.out⟩
  · have h1' : ¬ (1 : Int) < (l.length : Int) := by omega
    go_wp2_with fail
    refine (FIN.out w2 P2 HR2.out (by omega) (by omega) HG2.out).mono ?_
    rintro e w5 ⟨u5, l5, P5, rfl, hQ5, hl5, hrd5, hP5, ht5⟩
    have HT5 := Lib.hid (HT2.out.trans ht5)
    have HG5 := Lib.hid (HG2.out.touch ht5 (.inr (by omega)))
    have HQ5 := Lib.hid (HQ2.out.touch ht5 (.inr (by omega)))
    have z5 := ht5.size
    go_wp2
    exact bodyPost_ret (v := .tuple #[_, _, _]) (by simp [results, Try.results54, go_sem]) rfl ⟨v, _, u5, g, l, l5, rfl, HG5.out.grid (by omega), HQ5.out.quads, hQ5.quads, DG.out, hl, hl5, HT5.out⟩

set_option maxHeartbeats 1000000 in
set_option maxRecDepth 100000 in
theorem DrawFixesAre_any (v : Value) (n : Nat) (w : World) (h : Bytes w v n) :
    Calls Try.prog 34 #[v] w fun e w' => ∃ va vb g l, e = .returned (.tuple #[va, vb]) ∧ Grid w' va g ∧ Quads w' vb l ∧ Drawn g ∧ l.length ≤ 60 ∧ Below w.heap.size w w' := by
  have C := Lib.hid (l6Open_any v n w h)
  clear h
  go_enter Try.func34, Try.ntmps34
  go_wp2_with fail
  refine C.out.mono ?_
  rintro e w1 ⟨rfl, hrd, hb1⟩
  have B1 := Lib.hid hb1
  have z1 := hb1.size
  have hRw := hrd.lt
  clear hb1
  go_wp2_with fail
  refine (l91Grid_any w.heap.size 0 w1 hrd (by omega)).mono ?_
  rintro e w2 ⟨va, g, P2, rfl, hO, hD, hrd2, hP2, ht2⟩
  have z2 := ht2.size
  have HT2 := Lib.hid ht2
  have HG2 := Lib.hid hO
  clear ht2 hO
  go_wp2_with fail
  refine (l92Short_any w.heap.size P2 _ _ va g w2 hrd2 (by omega) HG2.out hRw (Nat.le_refl _)).mono ?_
  rintro e w3 ⟨vb, l, P3, rfl, hQ, hl, hrd3, hP3, ht3⟩
  have z3 := ht3.size
  have HA := Lib.hid ((HG2.out.touch ht3 (.inr (by omega))).grid (by omega))
  have HB := Lib.hid hQ.quads
  have HT := Lib.hid (B1.out.trans ((HT2.out.trans ht3).below (Nat.le_refl _) z1))
  clear hQ ht3
  go_wp2
  go_ret2
  exact ⟨va, vb, g, l, rfl, HA.out, HB.out, hD, hl, HT.out⟩

set_option maxHeartbeats 400000 in
theorem DrawFixesBoth_any (v : Value) (n : Nat) (w : World) (h : Bytes w v n) :
    Calls Try.prog 16 #[v] w fun e w' => ∃ v u1 u2 g l1 l2, e = .returned (.tuple #[v, u1, u2]) ∧ Grid w' v g ∧ Quads w' u1 l1 ∧ Quads w' u2 l2 ∧ Drawn g ∧ l1.length ≤ 60 ∧ l2.length ≤ 60 ∧ Below w.heap.size w w' := by
  have C := Lib.hid (l6Open_any v n w h)
  clear h
  go_enter Try.func16, Try.ntmps16
  go_wp2_with fail
  refine C.out.mono ?_
  rintro e w1 ⟨rfl, hrd, hb1⟩
  have B1 := Lib.hid hb1
  have z1 := hb1.size
  clear hb1
  go_wp2_with fail
  refine (l92Both_any w.heap.size 0 w1 hrd (by omega)).mono ?_
  rintro e w2 ⟨v, u1, u2, g, l1, l2, rfl, ha, hb, hc, da, n1, n2, ht⟩
  have HT := Lib.hid (B1.out.trans (ht.below (Nat.le_refl _) z1))
  have HA := Lib.hid ha
  have HB := Lib.hid hb
  have HC := Lib.hid hc
  clear ha hb hc ht
  go_wp2
  exact bodyPost_ret (v := .tuple #[_, _, _]) (by simp [results, Try.results16, go_sem]) rfl ⟨v, u1, u2, g, l1, l2, rfl, HA.out, HB.out, HC.out, da, n1, n2, HT.out⟩
end Go.Proofs.Ytdelcebkpdnnjaa
namespace Go.Proofs.Ytdelcebkpdnnjaa
open Go.RowKit Go.Deep Go.Sort Go.Lib BigFrame

theorem both_mem_iff {g : Rows} {la lb : List Quad} (h : BothOk g la lb) (q : Quad) : q ∈ diffsOf g (bothG g la lb) ↔ q ∈ la ++ lb := by
  rw [mem_diffs]
  constructor
  · rintro ⟨i, j, hi, hj, hne, rfl⟩
    have hin : ∃ p, p ∈ la ++ lb ∧ p.1 = (i : Int) ∧ p.2.1 = (j : Int) := Classical.byContradiction fun hno =>
      hne (puts_at (g0 := g) (la ++ lb) g (both_in h) i j fun q hq hh => hno ⟨q, hq, hh.1, hh.2⟩).symm
    obtain ⟨p, hp, e1, e2⟩ := hin
    obtain ⟨i', j', hi', hj', k1, k2, k3, k4⟩ := both_mem h hp
    have hx := both_hit h hp e1 e2
    obtain rfl : i' = i := by omega
    obtain rfl : j' = j := by omega
    rw [hx, ← k3, ← k1, ← k2]
    exact hp
  · intro hq
    obtain ⟨i, j, hi, hj, e1, e2, e3, e4⟩ := both_mem h hq
    have hx := both_hit h hq e1 e2
    exact ⟨i, j, hi, hj, by rw [hx]; exact fun e => e4 e.symm, by rw [hx, ← e3, ← e1, ← e2]⟩
theorem both_sym {g : Rows} {la lb : List Quad} (h : BothOk g la lb) : BothOk g lb la := by
  refine ⟨h.2.1, h.1, ?_⟩
  rintro ⟨i, hi, j, hj, ⟨e1, e2⟩, hne⟩
  exact h.2.2 ⟨j, hj, i, hi, ⟨e1.symm, e2.symm⟩, fun e => hne e.symm⟩
theorem both_swap {g : Rows} {la lb : List Quad} (h : BothOk g la lb) : bothOf g lb la = bothOf g la lb := by
  rw [bothOf_yes h, bothOf_yes (both_sym h)]
  exact (both_list (both_sym h) (l := diffsOf g (bothG g la lb)) (diffs_asc g (bothG g la lb) g.length).1 fun x => by rw [both_mem_iff h, List.mem_append, List.mem_append, or_comm]).symm
theorem both_like2 {g : Rows} {la lb : List Quad} (h : BothOk g la lb) : Like (edition g la) (bothG g la lb) := by
  obtain ⟨h1, h2, h3⟩ := both_ok h
  obtain ⟨k1, k2, k3⟩ := h.1.1.grid
  exact ⟨⟨k1, h1, by rw [h2, k2]⟩, by rw [h3, k3]⟩
theorem both_keep {g : Rows} {la lb : List Quad} (h : BothOk g la lb) {i j : Nat} (hi : i < g.length) (hj : j < colsOf g) (hne : at2 g i j ≠ at2 (edition g la) i j) :
    ((i : Int), (j : Int), at2 g i j, at2 (edition g la) i j) ∈ la ∧ at2 (bothG g la lb) i j = at2 (edition g la) i j := by
  have hm : ((i : Int), (j : Int), at2 g i j, at2 (edition g la) i j) ∈ la := by
    have : ((i : Int), (j : Int), at2 g i j, at2 (edition g la) i j) ∈ diffsOf g (edition g la) := mem_diffs.2 ⟨i, j, hi, hj, hne, rfl⟩
    rwa [are_diffs h.1] at this
  exact ⟨hm, both_hit h (List.mem_append_left _ hm) rfl rfl⟩
theorem filter_two (p : Quad → Bool) : ∀ l : List Quad, l.length = (l.filter p).length + (l.filter fun q => !p q).length
  | [] => rfl
  | x :: l => by
    have := filter_two p l
    rw [List.filter_cons, List.filter_cons]
    cases p x <;> simp <;> omega
theorem both_rest {g : Rows} {la lb : List Quad} (h : BothOk g la lb) : diffsOf (edition g la) (bothG g la lb) = (diffsOf g (bothG g la lb)).filter fun q => !decide (q ∈ la) := by
  obtain ⟨k1, k2, k3⟩ := h.1.1.grid
  have asc := (diffs_asc g (bothG g la lb) g.length).1
  refine lt_ext _ _ (diffs_asc (edition g la) (bothG g la lb) _).1 (List.Pairwise.filter _ asc) fun q => ?_
  rw [List.mem_filter, mem_diffs, mem_diffs, k2, k3]
  constructor
  · rintro ⟨i, j, hi, hj, hne, rfl⟩
    have e : at2 g i j = at2 (edition g la) i j := Classical.byContradiction fun hne2 => hne (both_keep h hi hj hne2).2.symm
    rw [← e] at hne ⊢
    refine ⟨⟨i, j, hi, hj, hne, rfl⟩, ?_⟩
    have hn : ¬ ((i : Int), (j : Int), at2 g i j, at2 (bothG g la lb) i j) ∈ la := by
      intro hm
      obtain ⟨i', j', -, -, e1, e2, e3, e4⟩ := are_mem h.1 hm
      rw [← are_diffs h.1, mem_diffs] at hm
      obtain ⟨i2, j2, -, -, hne2, e⟩ := hm
      have e5 := congrArg Prod.fst e
      have e6 := congrArg (fun x : Quad => x.2.1) e
      dsimp only at e5 e6
      obtain rfl : i = i2 := by omega
      obtain rfl : j = j2 := by omega
      contradiction
    simp [hn]
  · rintro ⟨⟨i, j, hi, hj, hne, rfl⟩, hn⟩
    have hn' : ¬ ((i : Int), (j : Int), at2 g i j, at2 (bothG g la lb) i j) ∈ la := by simpa using hn
    have e : at2 g i j = at2 (edition g la) i j := Classical.byContradiction fun hne2 => by
      obtain ⟨m1, m2⟩ := both_keep h hi hj hne2
      rw [← m2] at m1
      exact hn' m1
    exact ⟨i, j, hi, hj, by rw [← e]; exact hne, by rw [← e]⟩
theorem both_lens {g : Rows} {la lb : List Quad} (h : BothOk g la lb) :
    (bothOf g la lb).length = la.length + (diffsOf (edition g la) (bothG g la lb)).length ∧ (diffsOf (edition g la) (bothG g la lb)).length ≤ lb.length := by
  have asc := (diffs_asc g (bothG g la lb) g.length).1
  rw [bothOf_yes h, both_rest h]
  obtain ⟨D, hD⟩ : ∃ D, D = diffsOf g (bothG g la lb) := ⟨_, rfl⟩
  have mem := both_mem_iff h
  rw [show diffs g (bothG g la lb) g.length = D from hD.symm] at asc
  rw [← hD] at mem ⊢
  have ea : D.filter (fun q => decide (q ∈ la)) = la := lt_ext _ _ (List.Pairwise.filter _ asc) (are_pair h.1.2) fun q => by
    rw [List.mem_filter, mem, List.mem_append, decide_eq_true_eq]
    exact ⟨fun h => h.2, fun h => ⟨.inl h, h⟩⟩
  have eb : D.filter (fun q => decide (q ∈ lb)) = lb := lt_ext _ _ (List.Pairwise.filter _ asc) (are_pair h.2.1.2) fun q => by
    rw [List.mem_filter, mem, List.mem_append, decide_eq_true_eq]
    exact ⟨fun h => h.2, fun h => ⟨.inr h, h⟩⟩
  have two := filter_two (fun q => decide (q ∈ la)) D
  rw [ea] at two
  refine ⟨two, ?_⟩
  have ec : D.filter (fun q => !decide (q ∈ la)) = lb.filter (fun q => !decide (q ∈ la)) := lt_ext _ _ (List.Pairwise.filter _ asc) (List.Pairwise.filter _ (are_pair h.2.1.2)) fun q => by
    rw [List.mem_filter, List.mem_filter, mem, List.mem_append]
    constructor
    · rintro ⟨h1 | h1, h2⟩
      · simp [h1] at h2
      · exact ⟨h1, h2⟩
    · rintro ⟨h1, h2⟩
      exact ⟨.inr h1, h2⟩
  rw [ec]
  exact List.length_filter_le _ _
/-- each correction of both is one of the first list or one of the second -/
theorem both_found {g : Rows} {la lb : List Quad} (h : BothOk g la lb) {k : Nat} (hk : k < (bothOf g la lb).length) :
    (∃ j, j < la.length ∧ la[j]?.getD q0 = (bothOf g la lb)[k]?.getD q0) ∨ ∃ j, j < lb.length ∧ lb[j]?.getD q0 = (bothOf g la lb)[k]?.getD q0 := by
  have hm : (bothOf g la lb)[k]?.getD q0 ∈ la ++ lb := by
    rw [← both_mem_iff h, getQ_eq hk, ← bothOf_yes h]
    exact List.getElem_mem hk
  rcases List.mem_append.1 hm with hm | hm
  · obtain ⟨j, hj, e⟩ := List.mem_iff_getElem.1 hm
    exact .inl ⟨j, hj, by rw [getQ_eq hj, e]⟩
  · obtain ⟨j, hj, e⟩ := List.mem_iff_getElem.1 hm
    exact .inr ⟨j, hj, by rw [getQ_eq hj, e]⟩
end Go.Proofs.Ytdelcebkpdnnjaa
namespace Go.Proofs.Ytdelcebkpdnnjaa
open Go.RowKit Go.Deep Go.ChangeShapes


set_option maxHeartbeats 400000 in
theorem sameInts_any (va vb : Value) (la lb : List Int) (w : World) (ha : Ints w va la) (hb : Ints w vb lb) :
    Calls Try.prog 12 #[va, vb] w fun e w' => e = .returned (.bool (decide (la = lb))) ∧ ∃ n, w' = w.drewN n := by
  obtain ⟨a, ca, rfl, ha1, ha2, ha3⟩ := ha
  obtain ⟨b, cb, rfl, hb1, hb2, hb3⟩ := hb
  by_cases hlen : la.length = lb.length
  · have hlt' : ((la.length : Int) != (lb.length : Int)) = false := by simp [hlen]
    have HL := Lib.hid hlen
    clear hlen
    go_enter Try.func12, Try.ntmps12
    go_wp2
    go_loopw [5] (fun i wr => ∃ k n : Nat, k ≤ la.length ∧ i = .int .i64 k ∧ wr = w.drewN n ∧ ∀ j, j < k → la[j]?.getD 0 = lb[j]?.getD 0) (fun i _ => la.length - (intOf i).toNat)
    case atStart => exact ⟨0, 0, Nat.zero_le _, rfl, rfl, fun j hj => by omega⟩
    case round =>
      obtain ⟨k, n, hk, rfl, rfl, hsame⟩ := hrel
      have HS := Lib.hid hsame
      clear hsame
      by_cases hlt : k < la.length
      · obtain ⟨b1, off1, rfl, hb1', hcell1⟩ := ha3 (by omega)
        obtain ⟨b2, off2, rfl, hb2', hcell2⟩ := hb3 (by have := HL.out; omega)
        have hl2 : k < lb.length := by have := HL.out; omega
        have c1 := hcell1 k hlt
        have c2 := hcell2 k hl2
        clear hcell1 hcell2 ha3 hb3
        rw [getD_eq hlt] at c1
        rw [getD_eq hl2] at c2
        by_cases he : la[k] = lb[k]
        · have he' : (la[k] != lb[k]) = false := by simp [he]
          have HE := Lib.hid he
          clear he
          go_wp2
          go_quiet (fail)
          go_wp2
          go_roundw
          case rel =>
            refine ⟨k + 1, n + nq, by omega, by go_num, rfl, fun j hj => ?_⟩
            by_cases e : j = k
            · subst e; rw [getD_eq hlt, getD_eq hl2]; exact HE.out
            · exact HS.out j (by omega)
          case measure => simp [intOf]; omega
        · have he' : (la[k] != lb[k]) = true := by simp [he]
          have HE := Lib.hid he
          clear he
          go_wp2
          go_quiet (fail)
          go_wp2
          go_ret
          exact ⟨ret_bool (decide_eq_false fun h => HE.out (by subst h; rfl)).symm, n + nq, World.drewN_drewN ..⟩
      · go_wp2
        go_ret
        exact ⟨ret_bool (decide_eq_true (list_eq HL.out (fun j hj => HS.out j (by omega)))).symm, n, rfl⟩
  · have hlt' : ((la.length : Int) != (lb.length : Int)) = true := by simp; omega
    have HL := Lib.hid hlen
    clear hlen
    go_enter Try.func12, Try.ntmps12
    go_wp2
    go_ret
    exact ⟨ret_bool (decide_eq_false fun h => HL.out (by rw [h])).symm, 0, rfl⟩

theorem sameInts_yes (va vb : Value) (la lb : List Int) (w : World) (ha : Ints w va la) (hb : Ints w vb lb) (he : la = lb) :
    Calls Try.prog 12 #[va, vb] w fun e w' => e = .returned (.bool true) ∧ ∃ n, w' = w.drewN n := by
  have h := sameInts_any va vb la lb w ha hb
  rwa [decide_eq_true he] at h
theorem sameInts_no (va vb : Value) (la lb : List Int) (w : World) (ha : Ints w va la) (hb : Ints w vb lb) (he : ¬ la = lb) :
    Calls Try.prog 12 #[va, vb] w fun e w' => e = .returned (.bool false) ∧ ∃ n, w' = w.drewN n := by
  have h := sameInts_any va vb la lb w ha hb
  rwa [decide_eq_false he] at h

set_option maxHeartbeats 1000000 in
set_option maxRecDepth 100000 in
theorem sameGrid_any (va vb : Value) (ga gb : Rows) (w : World) (ha : Grid w va ga) (hb : Grid w vb gb) :
    Calls Try.prog 39 #[va, vb] w fun e w' => e = .returned (.bool (decide (ga = gb))) ∧ ∃ n, w' = w.drewN n := by
  obtain ⟨a, ca, rfl, ha1, ha2, ha3⟩ := ha
  obtain ⟨b, cb, rfl, hb1, hb2, hb3⟩ := hb
  by_cases hlen : ga.length = gb.length
  · have hlt' : ((ga.length : Int) != (gb.length : Int)) = false := by simp [hlen]
    have HL := Lib.hid hlen
    have HA3 := Lib.hid ha3
    have HB3 := Lib.hid hb3
    clear hlen ha3 hb3
    go_enter Try.func39, Try.ntmps39
    go_wp2
    go_loopw [5] (fun i wr => ∃ k n : Nat, k ≤ ga.length ∧ i = .int .i64 k ∧ wr = w.drewN n ∧ ∀ j, j < k → ga[j]?.getD [] = gb[j]?.getD []) (fun i _ => ga.length - (intOf i).toNat)
    case atStart => exact ⟨0, 0, Nat.zero_le _, rfl, rfl, fun j hj => by omega⟩
    case round =>
      obtain ⟨k, n, hk, rfl, rfl, hsame⟩ := hrel
      have HS := Lib.hid hsame
      clear hsame
      by_cases hlt : k < ga.length
      · obtain ⟨b1, off1, rfl, hb1', hcell1⟩ := HA3.out (by omega)
        obtain ⟨b2, off2, rfl, hb2', hcell2⟩ := HB3.out (by have := HL.out; omega)
        have hl2 : k < gb.length := by have := HL.out; omega
        obtain ⟨r1, c1, i1⟩ := hcell1 k hlt
        obtain ⟨r2, c2, i2⟩ := hcell2 k hl2
        obtain ⟨x1, y1, z1, rfl⟩ := i1.slice
        obtain ⟨x2, y2, z2, rfl⟩ := i2.slice
        have I1 := Lib.hid i1
        have I2 := Lib.hid i2
        clear hcell1 hcell2 i1 i2
        by_cases he : ga[k]?.getD [] = gb[k]?.getD []
        · have HE := Lib.hid he
          clear he
          go_wp2
          go_quiet (exact quiet_of2 (sameInts_yes _ _ _ _ _ ((I1.out.ints (Nat.le_refl _)).drewN _) ((I2.out.ints (Nat.le_refl _)).drewN _) HE.out))
          go_wp2
          go_roundw
          case rel =>
            refine ⟨k + 1, n + nq, by omega, by go_num, rfl, fun j hj => ?_⟩
            by_cases e : j = k
            · subst e; exact HE.out
            · exact HS.out j (by omega)
          case measure => simp [intOf]; omega
        · have HE := Lib.hid he
          clear he
          go_wp2
          go_quiet (exact quiet_of2 (sameInts_no _ _ _ _ _ ((I1.out.ints (Nat.le_refl _)).drewN _) ((I2.out.ints (Nat.le_refl _)).drewN _) HE.out))
          go_wp2
          go_ret
          exact ⟨ret_bool (decide_eq_false fun h => HE.out (by rw [h])).symm, n + nq, World.drewN_drewN ..⟩
      · go_wp2
        go_ret
        exact ⟨ret_bool (decide_eq_true (rows_eq HL.out (fun j hj => HS.out j (by omega)))).symm, n, rfl⟩
  · have hlt' : ((ga.length : Int) != (gb.length : Int)) = true := by simp; omega
    have HL := Lib.hid hlen
    clear hlen ha3 hb3
    go_enter Try.func39, Try.ntmps39
    go_wp2
    go_ret
    exact ⟨ret_bool (decide_eq_false fun h => HL.out (by rw [h])).symm, 0, rfl⟩


theorem sameGrid_b (va vb : Value) (ga gb : Rows) (w : World) (ha : Grid w va ga) (hb : Grid w vb gb) :
    Calls Try.prog 39 #[va, vb] w fun e w' => e = .returned (.bool (decide (ga = gb))) ∧ Below w.heap.size w w' :=
  (sameGrid_any va vb ga gb w ha hb).mono fun _ _ ⟨he, n, hw⟩ => ⟨he, by rw [hw]; exact below_n (Below.refl _ _) n⟩

theorem u8_wf {n : Int} (h : (Lit.int .u8 n).wf = true) : 0 ≤ n ∧ n ≤ 255 := by
  have e1 : IntKind.u8.min = 0 := by decide
  have e2 : IntKind.u8.max = 255 := by decide
  simp [Lit.wf, e1, e2] at h
  exact ⟨by omega, by omega⟩
/-- an argument that is a slice of bytes -/
theorem bytes_opened {H : Type} {enc : TypeId × Value → H} {W : World} {base : Nat} {held : Bool} {a : Option Addr} {len cap : Nat} {d : DataW H} {p : List MemPlace}
    (h : DataW.Trod enc Try.prog W base (fun _ => true) held 22 (.slice a len cap) d p) : ∃ n : Nat, Bytes W (.slice a len cap) n := by
  obtain ⟨fuel, hf⟩ := h
  rcases open_ints Try.underlying22 Try.underlying5 (by kernel_rfl) hf with ⟨hcs, _⟩ | ⟨x, l, c, zs, hcs, _, hl, hm, hz, _, hcell, hwz⟩
  · simp [Value.cells] at hcs
    obtain ⟨rfl, rfl, rfl⟩ := hcs
    exact ⟨0, none, 0, rfl, Nat.le_refl _, by omega, fun h => absurd h (by omega)⟩
  · simp [Value.cells] at hcs
    obtain ⟨rfl, rfl, rfl⟩ := hcs
    unfold maxLen at hm
    have hz' : zs.length = cap := by simpa using hz
    refine ⟨len, some x, cap, rfl, hl, hm, fun hp => ?_⟩
    obtain ⟨b, off, spot⟩ := x
    have hc := hcell 0 (by omega)
    have hspot : spot = none := by simpa [Addr.add] using World.cell?_spot hc
    subst hspot
    refine ⟨b, off, rfl, World.block_lt_of_cell? W ⟨b, off, none⟩ (by simpa [Addr.add] using hc), fun j => (zs.getD j 0).toNat, fun j hj => ?_⟩
    have hc := hcell j (by omega)
    rw [show (⟨b, off, none⟩ : Addr).add j = ⟨b, off + j, none⟩ by unfold Addr.add; split <;> simp_all] at hc
    have hw : 0 ≤ zs.getD j 0 ∧ zs.getD j 0 ≤ 255 := by
      refine u8_wf (hwz _ ?_)
      rw [List.getD_eq_getElem?_getD, List.getElem?_eq_getElem (show j < zs.length by omega)]
      exact List.getElem_mem _
    have hw2 : (zs.getD j 0).toNat ≤ 255 := by omega
    refine ⟨?_, hw2⟩
    rw [hc, Int.toNat_of_nonneg hw.1]
end Go.Proofs.Ytdelcebkpdnnjaa
namespace Go.Proofs.Ytdelcebkpdnnjaa
open Go.RowKit Go.Deep

set_option maxHeartbeats 2000000 in
theorem sameFixes_any (va vb : Value) (la lb : List Quad) (w : World) (ha : Quads w va la) (hb : Quads w vb lb) :
    Calls Try.prog 19 #[va, vb] w fun e w' => e = .returned (.bool (decide (la = lb))) ∧ Below w.heap.size w w' := by
  obtain ⟨a, ca, rfl, ha1, ha2, ha3⟩ := ha
  obtain ⟨b, cb, rfl, hb1, hb2, hb3⟩ := hb
  by_cases hlen : la.length = lb.length
  · have hlt' : ((la.length : Int) != (lb.length : Int)) = false := by simp [hlen]
    have HL := Lib.hid hlen
    clear hlen
    go_enter Try.func19, Try.ntmps19
    go_wp2_with fail
    go_loopw [5] (fun i wr => ∃ k n : Nat, k ≤ la.length ∧ i = .int .i64 k ∧ wr = w.drewN n ∧ ∀ j, j < k → la[j]?.getD q0 = lb[j]?.getD q0) (fun i _ => la.length - (intOf i).toNat)
    case atStart => exact ⟨0, 0, Nat.zero_le _, rfl, rfl, fun j hj => by omega⟩
    case round =>
      obtain ⟨k, n, hk, rfl, rfl, hsame⟩ := hrel
      have HS := Lib.hid hsame
      clear hsame
      by_cases hlt : k < la.length
      · obtain ⟨b1, off1, rfl, hb1', hcell1⟩ := ha3 (by omega)
        obtain ⟨b2, off2, rfl, hb2', hcell2⟩ := hb3 (by have := HL.out; omega)
        have hl2 : k < lb.length := by have := HL.out; omega
        obtain ⟨c0, c1, c2, c3⟩ := hcell1 k hlt
        obtain ⟨d0, d1, d2, d3⟩ := hcell2 k hl2
        clear hcell1 hcell2 ha3 hb3
        obtain ⟨p, hp⟩ : ∃ p, p = la[k]?.getD q0 := ⟨_, rfl⟩
        obtain ⟨q, hq⟩ : ∃ q, q = lb[k]?.getD q0 := ⟨_, rfl⟩
        rw [← hp] at c0 c1 c2 c3
        rw [← hq] at d0 d1 d2 d3
        have HP := Lib.hid hp
        have HQ := Lib.hid hq
        clear hp hq
        by_cases he : p = q
        · have heq : ∀ W, (Op.equalIn 10000 41 (qv p) (qv q)).run Try.prog W = .ok true W := by rw [he]; exact eq_fix_yes q
          have HE := Lib.hid he
          clear he
          go_wp2_with fail
          go_quiet (fail)
          go_wp2_with fail
          go_roundw
          case rel =>
            refine ⟨k + 1, n + nq, by omega, by go_num, rfl, fun j hj => ?_⟩
            by_cases e : j = k
            · subst e; rw [← HP.out, ← HQ.out]; exact HE.out
            · exact HS.out j (by omega)
          case measure => simp [intOf]; omega
        · have heq := eq_fix_no p q he
          have HE := Lib.hid he
          clear he
          go_wp2_with fail
          go_quiet (fail)
          go_wp2_with fail
          go_ret
          exact ⟨ret_bool (decide_eq_false fun h => HE.out (by rw [HP.out, HQ.out, h])).symm, by rw [World.drewN_drewN]; exact below_n (Below.refl _ _) _⟩
      · go_wp2_with fail
        go_ret
        exact ⟨ret_bool (decide_eq_true (listQ_eq HL.out (fun j hj => HS.out j (by omega)))).symm, below_n (Below.refl _ _) _⟩
  · have hlt' : ((la.length : Int) != (lb.length : Int)) = true := by simp; omega
    have HL := Lib.hid hlen
    clear hlen
    go_enter Try.func19, Try.ntmps19
    go_wp2_with fail
    go_ret
    exact ⟨ret_bool (decide_eq_false fun h => HL.out (by rw [h])).symm, Below.refl _ _⟩
end Go.Proofs.Ytdelcebkpdnnjaa
