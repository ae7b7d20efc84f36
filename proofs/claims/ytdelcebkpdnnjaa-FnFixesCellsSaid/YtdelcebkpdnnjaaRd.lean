/-
  The reader of the draws (l6Rd): l6Open and pick. Conditions: fewer than 2^30 picks; pick is asked for one of at least one and at most a million.
-/
import Derived.Test.YtdelcebkpdnnjaaInts
namespace Go.Proofs.Ytdelcebkpdnnjaa
open Go.RowKit Go.Deep

/-- n bytes lie behind a, all of it below B -/
def Byts (B : Nat) (w : World) (a : Option Addr) (n : Nat) : Prop :=
  0 < n → ∃ b off, a = some ⟨b, off, none⟩ ∧ b < B ∧ ∃ f : Nat → Nat, ∀ j, j < n → w.cell? ⟨b, off + j, none⟩ = some (.int .u8 (f j : Int)) ∧ f j ≤ 255
/-- an argument of bytes -/
def Bytes (w : World) (v : Value) (n : Nat) : Prop := ∃ a cap, v = .slice a n cap ∧ n ≤ cap ∧ cap ≤ 9223372036854775807 ∧ Byts w.heap.size w a n
theorem Byts.below {B B' : Nat} {w w' : World} {a : Option Addr} {n : Nat} (h : Byts B' w a n) (hb : Below B w w') (hd : B' ≤ B) : Byts B' w' a n := by
  intro hn
  obtain ⟨b, off, rfl, hlt, f, hf⟩ := h hn
  exact ⟨b, off, rfl, hlt, f, fun j hj => ⟨(hb.cell (p := ⟨b, off + j, none⟩) (by show b < B; omega)).trans (hf j hj).1, (hf j hj).2⟩⟩

/-- block R is a reader that has picked P times -/
structure Rd (w : World) (R P : Nat) : Prop where
  ex : ∃ a n cap, n ≤ 2000 ∧ w.cell? ⟨R, 0, none⟩ = some (.slice a n cap) ∧ Byts R w a n
  pos : w.cell? ⟨R, 1, none⟩ = some (.int .i64 (P : Int))
  free : w.frozen? ⟨R, 1, none⟩ = false
  lt : R < w.heap.size
theorem Rd.below {w w' : World} {R P B : Nat} (h : Rd w R P) (hb : Below B w w') (hd : R < B) : Rd w' R P := by
  obtain ⟨⟨a, n, cap, h1, h2, h3⟩, h4, h5, h6⟩ := h
  exact ⟨⟨a, n, cap, h1, (hb.cell (p := ⟨R, 0, none⟩) hd).trans h2, h3.below hb (by omega)⟩, (hb.cell (p := ⟨R, 1, none⟩) hd).trans h4, (hb.frozen (p := ⟨R, 1, none⟩) hd).trans h5, Nat.lt_of_lt_of_le h6 hb.size⟩
theorem Rd.touch {w w' : World} {R P lo hi : Nat} (h : Rd w R P) (ht : Touch lo hi w w') (hd : R < lo) : Rd w' R P :=
  h.below (B := R + 1) (ht.below (by omega) h.lt) (by omega)

theorem Rd_new {w : World} {a : Option Addr} {n cap : Nat} {t : TypeId} (hn : n ≤ 2000) (h : Byts w.heap.size w a n) : Rd (w.alloc (.cells #[.slice a n cap, .int .i64 0] t)) w.heap.size 0 := by
  have hh := heap_alloc_new w (.cells #[.slice a n cap, .int .i64 0] t)
  refine ⟨⟨a, n, cap, hn, ?_, h.below ((Below.refl _ _).alloc (Nat.le_refl _) _) (Nat.le_refl _)⟩, ?_, ?_, by simp⟩
  · unfold World.cell?; simp only [hh]; rfl
  · unfold World.cell?; simp only [hh]; rfl
  · unfold World.frozen?; simp only [hh]; rfl
theorem Byts.less {B : Nat} {w : World} {a : Option Addr} {n m : Nat} (h : Byts B w a n) (hm : m ≤ n) : Byts B w a m := by
  intro hp
  obtain ⟨b, off, rfl, hlt, f, hf⟩ := h (by omega)
  exact ⟨b, off, rfl, hlt, f, fun j hj => hf j (by omega)⟩
theorem Rd.step {w : World} {R P : Nat} (h : Rd w R P) : Rd (w.setCell ⟨R, 1, none⟩ (.int .i64 ((P + 1 : Nat) : Int))) R (P + 1) ∧ Touch R (R + 1) w (w.setCell ⟨R, 1, none⟩ (.int .i64 ((P + 1 : Nat) : Int))) := by
  have ht : Touch R (R + 1) w (w.setCell ⟨R, 1, none⟩ (.int .i64 ((P + 1 : Nat) : Int))) := (Touch.refl R (R + 1) w).setCell (p := ⟨R, 1, none⟩) (Nat.le_refl R) (Nat.lt_succ_self R) _
  obtain ⟨⟨a, n, cap, h1, h2, h3⟩, h4, h5, h6⟩ := h
  refine ⟨⟨⟨a, n, cap, h1, ?_, h3.below (ht.below (Nat.le_refl _) (Nat.le_of_lt h6)) (Nat.le_refl _)⟩, ?_, ?_, by simpa using h6⟩, ht⟩
  · rw [World.cell?_setCell_other w ⟨R, 1, none⟩ ⟨R, 0, none⟩ _ (by simp)]; exact h2
  · exact World.cell?_setCell_same w ⟨R, 1, none⟩ _ h4
  · rw [World.frozen?_setCell]; exact h5

set_option maxHeartbeats 400000 in
set_option maxRecDepth 100000 in
theorem l6Open_any (v : Value) (n : Nat) (w : World) (h : Bytes w v n) :
    Calls Try.prog 45 #[v] w fun e w' => e = .returned (.pointer (some ⟨w.heap.size, 0, none⟩)) ∧ Rd w' w.heap.size 0 ∧ Below w.heap.size w w' := by
  obtain ⟨a, cap, rfl, h1, h2, h3⟩ := h
  have H := Lib.hid h3
  clear h3
  by_cases hbig : 2000 < n
  · have hb' : (2000 : Int) < (n : Int) := by omega
    have hc' : 2000 ≤ cap := by omega
    go_enter Try.func45, Try.ntmps45
    go_wp2
    go_ret
    exact ⟨rfl, Rd_new (by omega) (H.out.less (by omega)), (Below.refl _ _).alloc (Nat.le_refl _) _⟩
  · have hb' : ¬ (2000 : Int) < (n : Int) := by omega
    go_enter Try.func45, Try.ntmps45
    go_wp2
    go_ret
    exact ⟨rfl, Rd_new (by omega) H.out, (Below.refl _ _).alloc (Nat.le_refl _) _⟩

theorem xor_i64 (a b : Nat) (ha : a ≤ 1099511627776) (hb : b ≤ 1099511627776) : bits .xor .i64 (a : Int) (b : Int) = ((a ^^^ b : Nat) : Int) := by
  have hx : a ^^^ b < 2 ^ 41 := Nat.xor_lt_two_pow (by omega) (by omega)
  have h1 : (BitVec.ofInt 64 (a : Int)).toNat = a := by
    rw [BitVec.ofInt_natCast, BitVec.toNat_ofNat]; exact Nat.mod_eq_of_lt (by omega)
  have h2 : (BitVec.ofInt 64 (b : Int)).toNat = b := by
    rw [BitVec.ofInt_natCast, BitVec.toNat_ofNat]; exact Nat.mod_eq_of_lt (by omega)
  show IntKind.i64.wrap ((BitVec.ofInt 64 (a : Int) ^^^ BitVec.ofInt 64 (b : Int)).toNat : Int) = _
  rw [BitVec.toNat_xor, h1, h2]
  exact IntWalk.i64_in _ (by omega)
theorem xor_shift (X : Nat) (h : X ≤ 1099511627776) : bits .xor .i64 (X : Int) ((X : Int) / 64) = ((X ^^^ X / 64 : Nat) : Int) := by
  rw [show (X : Int) / 64 = ((X / 64 : Nat) : Int) by omega]
  exact xor_i64 _ _ h (by omega)

/-- what pick hands back -/
def Picked (w : World) (R P : Nat) (n : Nat) (e : Ending) (w' : World) : Prop := ∃ k : Nat, e = .returned (.int .i64 (k : Int)) ∧ k < n ∧ Rd w' R (P + 1) ∧ Touch R (R + 1) w w'

set_option maxHeartbeats 2000000 in
set_option maxRecDepth 100000 in
theorem pick_any (R P n : Nat) (w : World) (h : Rd w R P) (hP : P ≤ 1073741824) (hn1 : 1 ≤ n) (hn2 : n ≤ 1000000) :
    Calls Try.prog 77 #[.pointer (some ⟨R, 0, none⟩), .int .i64 (n : Int)] w (Picked w R P n) := by
  obtain ⟨⟨a, m, cap, h1, h2, h3⟩, h4, h5, h6⟩ := id h
  have HS := Lib.hid h.step
  have d0 : decide ((n : Int) < 1) = false := decide_eq_false (by omega)
  have H3 := Lib.hid h3
  clear h h3
  by_cases hm : m = 0
  · subst hm
    go_enter Try.func77, Try.ntmps77
    go_wp2
    go_ret
    exact ⟨0, rfl, by omega, HS.out.1, HS.out.2⟩
  obtain ⟨b, off, rfl, hbR, f, hf⟩ := H3.out (by omega)
  have hne : ¬ b = R := by omega
  have hne' : ¬ R = b := by omega
  have hm1 : ((m : Int) == 0) = false := by simp; omega
  have HF := Lib.hid hf
  have hm0 : 0 < m := by omega
  clear hf hm
  by_cases hlt : P < m
  · obtain ⟨c0, c1⟩ := HF.out P hlt
    obtain ⟨x, hx⟩ : ∃ x, x = f P := ⟨_, rfl⟩
    rw [← hx] at c0 c1
    clear hx
    go_enter Try.func77, Try.ntmps77
    go_wp2
    go_ret
    exact ⟨x % n, rfl, Nat.mod_lt _ (by omega), HS.out.1, HS.out.2⟩
  · obtain ⟨c0, c1⟩ := HF.out (P % m) (Nat.mod_lt _ (by omega))
    obtain ⟨e0, e1⟩ := HF.out ((P * 7 + 3) % m) (Nat.mod_lt _ (by omega))
    obtain ⟨x, hx⟩ : ∃ x, x = f (P % m) := ⟨_, rfl⟩
    obtain ⟨y, hy⟩ : ∃ y, y = f ((P * 7 + 3) % m) := ⟨_, rfl⟩
    rw [← hx] at c0 c1
    rw [← hy] at e0 e1
    clear hx hy
    have hd : P / m ≤ P := Nat.div_le_self _ _
    have z1 : (0 : Int) ≤ (P : Int) % (m : Int) := Int.emod_nonneg _ (by omega)
    have z2 : (P : Int) % (m : Int) < (m : Int) := Int.emod_lt_of_pos _ (by omega)
    have z3 : (0 : Int) ≤ ((P : Int) * 7 + 3) % (m : Int) := Int.emod_nonneg _ (by omega)
    have z4 : ((P : Int) * 7 + 3) % (m : Int) < (m : Int) := Int.emod_lt_of_pos _ (by omega)
    have z5 : (((P : Int) * 7 + 3) % (m : Int)).toNat = (P * 7 + 3) % m := by
      rw [show (P : Int) * 7 + 3 = ((P * 7 + 3 : Nat) : Int) by omega, ← Int.natCast_emod, Int.toNat_natCast]
    have z6 : (0 : Int) ≤ (P : Int) / (m : Int) := Int.ediv_nonneg (by omega) (by omega)
    have z7 : (P : Int) / (m : Int) ≤ (P : Int) := by rw [← Int.natCast_ediv]; omega
    go_enter Try.func77, Try.ntmps77
    go_wp2
    go_quiet (fail)
    obtain ⟨X, hX⟩ : ∃ X : Nat, (x : Int) * 131 + (y : Int) * 1117 + (P : Int) * 29 + (P : Int) / (m : Int) * 53 = (X : Int) := ⟨_, (Int.toNat_of_nonneg (by omega)).symm⟩
    have hXb : X ≤ 1099511627776 := by omega
    rw [hX]
    clear hX z1 z2 z3 z4 z5 z6 z7
    have hx2 := xor_shift X hXb
    obtain ⟨Y, hY⟩ : ∃ Y, Y = X ^^^ X / 64 := ⟨_, rfl⟩
    rw [← hY] at hx2
    clear hY
    go_wp2
    go_ret
    exact ⟨Y % n, rfl, Nat.mod_lt _ (by omega), HS.out.1.below (below_drewN (Below.refl w.heap.size _) _) (by omega), HS.out.2.drewN _⟩
end Go.Proofs.Ytdelcebkpdnnjaa
