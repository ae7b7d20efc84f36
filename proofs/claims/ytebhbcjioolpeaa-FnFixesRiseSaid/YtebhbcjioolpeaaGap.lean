/-
  The sum of the differences along the side: apart, gap, GridsGap, GridsAgree of the program. Conditions: the heights are small where a contract says so.
-/
import Derived.Test.YtebhbcjioolpeaaPair
namespace Go.Proofs.Ytebhbcjioolpeaa
open Go.RowKit Go.Deep Go.Sort

def aparts (a b : Int) : Int := max a b - min a b
/-- the last height of a row of the western, the first of a row of the eastern grid -/
def lastOf (g : Rows) (k : Nat) : Int := (g[k]?.getD [])[colsOf g - 1]?.getD 0
def firstOf (g : Rows) (k : Nat) : Int := (g[k]?.getD [])[0]?.getD 0
def gapUpTo (ga gb : Rows) : Nat → Int
  | 0 => 0
  | k + 1 => gapUpTo ga gb k + aparts (lastOf ga k) (firstOf gb k)
def gapOf (ga gb : Rows) : Int := if Same ga gb then gapUpTo ga gb ga.length else -1

theorem GridOk.cell {g : Rows} (h : GridOk g) {i j : Nat} (hi : i < g.length) (hj : j < colsOf g) : 0 ≤ (g[i]?.getD [])[j]?.getD 0 ∧ (g[i]?.getD [])[j]?.getD 0 ≤ 99 := by
  obtain ⟨h1, h2⟩ := h.2.2.2.2 i hi
  exact h2 j (by omega)
theorem gap_small {ga gb : Rows} (h : Same ga gb) : ∀ k, k ≤ ga.length → 0 ≤ gapUpTo ga gb k ∧ gapUpTo ga gb k ≤ 99 * k := by
  obtain ⟨h1, h2, h3⟩ := h
  have ha := h1.2.2.1
  have hb := h2.2.2.1
  intro k
  induction k with
  | zero => intro _; exact ⟨Int.le_refl _, Int.le_refl _⟩
  | succ k ih =>
    intro hk
    obtain ⟨i1, i2⟩ := ih (by omega)
    have c1 := h1.cell (i := k) (j := colsOf ga - 1) (by omega) (by omega)
    have c2 := h2.cell (i := k) (j := 0) (by omega) (by omega)
    rw [gapUpTo, aparts]
    unfold lastOf firstOf
    omega

theorem apart_any (a b : Int) (w : World) (h1 : 0 ≤ a) (h2 : a ≤ 1000) (h3 : 0 ≤ b) (h4 : b ≤ 1000) :
    Calls Try.prog 94 #[.int .i64 a, .int .i64 b] w fun e w' => e = .returned (.int .i64 (aparts a b)) ∧ w' = w := by
  go_enter Try.func94, Try.ntmps94
  go_wp2
  all_goals (go_ret; exact ⟨ret_int (by unfold aparts; omega), rfl⟩)

theorem ints_of_row {w : World} {a n : Nat} {h : Nat → Int} {t : TypeId} (hr : w.rowIs a t n (fun i => .int .i64 (h i))) (hn : n ≤ 1000000) : Ints w (.slice (some ⟨a, 0, none⟩) n n) ((List.range n).map h) := by
  have hl : ((List.range n).map h).length = n := by simp
  refine ⟨_, n, by rw [hl], by omega, by omega, fun _ => ⟨a, 0, rfl, hr.lt, fun j hj => ?_⟩⟩
  rw [hl] at hj
  rw [Nat.zero_add, hr.cell hj]
  simp [hj]
theorem range_get {n m : Nat} {h : Nat → Int} (hm : m < n) : ((List.range n).map h)[m]?.getD 0 = h m := by simp [hm]
theorem small_cells {g : Rows} (h : GridOk g) : g.length * colsOf g ≤ 49 := by
  have := Nat.mul_le_mul h.2.1 h.2.2.2.1
  omega
theorem idx_lt {i j n c : Nat} (hi : i < n) (hj : j < c) : i * c + j < n * c := by
  have := Nat.mul_le_mul_right c (show i + 1 ≤ n by omega)
  rw [Nat.add_mul, Nat.one_mul] at this
  omega

/-- a height of a grid's field -/
theorem at_grid (g : Rows) (r : Int) (a i j : Nat) (w : World) (hg : GridOk g) (hr : w.rowIs a 3 (g.length * colsOf g) (fun i => .int .i64 (cellOf g i))) (hi : i < g.length) (hj : j < colsOf g) :
    Calls Try.prog 81 #[fv r (colsOf g) (.slice (some ⟨a, 0, none⟩) (g.length * colsOf g) (g.length * colsOf g)), .int .i64 i, .int .i64 j] w fun e w' => e = .returned (.int .i64 ((g[i]?.getD [])[j]?.getD 0)) ∧ Below w.heap.size w w' := by
  have h1 := small_cells hg
  have h2 := hg.2.1
  have h3 := hg.2.2.2.1
  have hx := idx_lt hi hj
  have h := at_any r (colsOf g) i j _ _ w (ints_of_row hr (by omega)) (by omega) (by omega) (by omega) (by simpa using hx)
  rw [range_get hx, cell_at rfl hj] at h
  exact h

theorem row_regrown {w : World} {a n : Nat} {t : TypeId} {f : Nat → Value} (h : w.rowIs a t n f) (d os) : (grow (redrawn w d) os).rowIs a t n f :=
  h.of_block ((below_regrown w d os).block a h.lt)

set_option maxHeartbeats 2000000 in
set_option maxRecDepth 100000 in
theorem gap_any (ga gb : Rows) (a b : Nat) (w : World) (hs : Same ga gb) (ha : w.rowIs a 3 (ga.length * colsOf ga) (fun i => .int .i64 (cellOf ga i))) (hb : w.rowIs b 3 (gb.length * colsOf gb) (fun i => .int .i64 (cellOf gb i))) :
    Calls Try.prog 66 #[fv ga.length (colsOf ga) (.slice (some ⟨a, 0, none⟩) (ga.length * colsOf ga) (ga.length * colsOf ga)), fv gb.length (colsOf gb) (.slice (some ⟨b, 0, none⟩) (gb.length * colsOf gb) (gb.length * colsOf gb))] w fun e w' => e = .returned (.int .i64 (gapUpTo ga gb ga.length)) ∧ Below w.heap.size w w' := by
  have HS := Lib.hid hs
  obtain ⟨s1, s2, s3⟩ := hs
  have hn := s1.2.1
  have hca := s1.2.2.1
  have hca2 := s1.2.2.2.1
  have hcb := s2.2.2.1
  have HA := Lib.hid ha
  have HB := Lib.hid hb
  have HGS := Lib.hid (gap_small HS.out)
  have CA : Hid (∀ W k, k < ga.length → W.rowIs a 3 (ga.length * colsOf ga) (fun i => .int .i64 (cellOf ga i)) → Calls Try.prog 81 #[fv ga.length (colsOf ga) (.slice (some ⟨a, 0, none⟩) (ga.length * colsOf ga) (ga.length * colsOf ga)), .int .i64 (k : Int), .int .i64 ((colsOf ga : Int) - 1)] W fun e w' => e = .returned (.int .i64 (lastOf ga k)) ∧ Below W.heap.size W w') := fun W k hk hr => by
    have := at_grid ga ga.length a k (colsOf ga - 1) W s1 hr hk (by omega)
    rw [show (((colsOf ga - 1 : Nat)) : Int) = (colsOf ga : Int) - 1 by omega] at this
    exact this
  have CB : Hid (∀ W k, k < ga.length → W.rowIs b 3 (gb.length * colsOf gb) (fun i => .int .i64 (cellOf gb i)) → Calls Try.prog 81 #[fv gb.length (colsOf gb) (.slice (some ⟨b, 0, none⟩) (gb.length * colsOf gb) (gb.length * colsOf gb)), .int .i64 (k : Int), .int .i64 0] W fun e w' => e = .returned (.int .i64 (firstOf gb k)) ∧ Below W.heap.size W w') := fun W k hk hr => at_grid gb gb.length b k 0 W s2 hr (by omega) (by omega)
  have HL : Hid (∀ k, k < ga.length → (0 ≤ lastOf ga k ∧ lastOf ga k ≤ 99) ∧ (0 ≤ firstOf gb k ∧ firstOf gb k ≤ 99)) := fun k hk => ⟨s1.cell hk (by omega), s2.cell (by omega) (by omega)⟩
  obtain ⟨na, hna⟩ : ∃ n, n = ga.length * colsOf ga := ⟨_, rfl⟩
  obtain ⟨nb, hnb⟩ : ∃ n, n = gb.length * colsOf gb := ⟨_, rfl⟩
  rw [← hna] at HA CA ⊢
  rw [← hnb] at HB CB ⊢
  clear ha hb s1 s2 hna hnb
  rw [← s3] at CB ⊢
  clear s3
  obtain ⟨n, hnn⟩ : ∃ n, n = ga.length := ⟨_, rfl⟩
  rw [← hnn] at HGS CA CB HL hn ⊢
  clear hnn
  obtain ⟨ca, hca'⟩ : ∃ c, c = colsOf ga := ⟨_, rfl⟩
  obtain ⟨cb, hcb'⟩ : ∃ c, c = colsOf gb := ⟨_, rfl⟩
  rw [← hca'] at CA hca hca2 ⊢
  rw [← hcb'] at CB hcb ⊢
  clear hca' hcb'
  go_enter Try.func66, Try.ntmps66
  go_wp2
  go_loopw [5, 6, 9] (fun s _ i wr => ∃ k : Nat, k ≤ n ∧ i = .int .i64 k ∧ s = .int .i64 (gapUpTo ga gb k) ∧ Below w.heap.size w wr ∧
      wr.cell? ⟨w.heap.size, 0, none⟩ = some (.int .i64 n) ∧ wr.cell? ⟨w.heap.size, 1, none⟩ = some (.int .i64 ca) ∧ wr.cell? ⟨w.heap.size, 2, none⟩ = some (.slice (some ⟨a, 0, none⟩) na na) ∧
      wr.cell? ⟨w.heap.size + 1, 0, none⟩ = some (.int .i64 n) ∧ wr.cell? ⟨w.heap.size + 1, 1, none⟩ = some (.int .i64 cb) ∧ wr.cell? ⟨w.heap.size + 1, 2, none⟩ = some (.slice (some ⟨b, 0, none⟩) nb nb)) (fun _ _ i _ => n - (intOf i).toNat)
  case atStart =>
    have B0 := ((Below.refl w.heap.size w).alloc (Nat.le_refl _) (.cells #[.int .i64 n, .int .i64 ca, .slice (some ⟨a, 0, none⟩) na na] 61)).alloc (by simp) (.cells #[.int .i64 n, .int .i64 cb, .slice (some ⟨b, 0, none⟩) nb nb] 61)
    have r1 := (field_row w (.int .i64 n) (.int .i64 ca) (.slice (some ⟨a, 0, none⟩) na na)).alloc (.cells #[.int .i64 n, .int .i64 cb, .slice (some ⟨b, 0, none⟩) nb nb] 61)
    have r2 := field_row (w.alloc (.cells #[.int .i64 n, .int .i64 ca, .slice (some ⟨a, 0, none⟩) na na] 61)) (.int .i64 n) (.int .i64 cb) (.slice (some ⟨b, 0, none⟩) nb nb)
    rw [World.size_alloc] at r2
    exact ⟨0, Nat.zero_le _, rfl, rfl, B0, r1.cell (i := 0) (by decide), r1.cell (i := 1) (by decide), r1.cell (i := 2) (by decide), r2.cell (i := 0) (by decide), r2.cell (i := 1) (by decide), r2.cell (i := 2) (by decide)⟩
  case round =>
    obtain ⟨k, hk, rfl, rfl, hbel, k0, k1, k2, m0, m1, m2⟩ := hrel
    by_cases hlt : k < n
    · have hgs := HGS.out k hk
      have hl := HL.out k hlt
      obtain ⟨x, hx⟩ : ∃ x, x = lastOf ga k := ⟨_, rfl⟩
      obtain ⟨y, hy⟩ : ∃ y, y = firstOf gb k := ⟨_, rfl⟩
      obtain ⟨g, hgk⟩ : ∃ g, g = gapUpTo ga gb k := ⟨_, rfl⟩
      rw [← hx, ← hy] at hl
      rw [← hgk] at hgs ⊢
      have HX := Lib.hid hx
      have HY := Lib.hid hy
      have HG := Lib.hid hgk
      have HBE := Lib.hid hbel
      have hsz := hbel.size
      have hi1 : ∀ d os, Hid ((grow (redrawn wr d) os).rowIs a 3 na (fun i => .int .i64 (cellOf ga i))) := fun d os => row_regrown (HA.out.of_block (hbel.block _ HA.out.lt)) d os
      have hi2 : ∀ d os, Hid ((grow (redrawn wr d) os).rowIs b 3 nb (fun i => .int .i64 (cellOf gb i))) := fun d os => row_regrown (HB.out.of_block (hbel.block _ HB.out.lt)) d os
      have HI1 := Lib.hid hi1
      have HI2 := Lib.hid hi2
      have cA : ∀ d os, Calls Try.prog 81 #[fv n ca (.slice (some ⟨a, 0, none⟩) na na), .int .i64 k, .int .i64 ((ca : Int) - 1)] (grow (redrawn wr d) os) fun e w'' => e = .returned (.int .i64 x) ∧ ∃ p : Regrown, w'' = grow (redrawn wr p.d) p.os := fun d os => by rw [HX.out]; exact Calls.regrown_of (CA.out _ k hlt (HI1.out d os).out)
      have cB : ∀ d os, Calls Try.prog 81 #[fv n cb (.slice (some ⟨b, 0, none⟩) nb nb), .int .i64 k, .int .i64 0] (grow (redrawn wr d) os) fun e w'' => e = .returned (.int .i64 y) ∧ ∃ p : Regrown, w'' = grow (redrawn wr p.d) p.os := fun d os => by rw [HY.out]; exact Calls.regrown_of (CB.out _ k hlt (HI2.out d os).out)
      have cC : ∀ d os, Calls Try.prog 94 #[.int .i64 x, .int .i64 y] (grow (redrawn wr d) os) fun e w'' => e = .returned (.int .i64 (aparts x y)) ∧ ∃ p : Regrown, w'' = grow (redrawn wr p.d) p.os := fun d os => Calls.regrown_of ((apart_any x y _ (by omega) (by omega) (by omega) (by omega)).mono fun e w' ⟨he, hw⟩ => ⟨he, by rw [hw]; exact Below.refl _ _⟩)
      have hxy : 0 ≤ aparts x y ∧ aparts x y ≤ 99 := by unfold aparts; omega
      obtain ⟨z, hz⟩ : ∃ z, z = aparts x y := ⟨_, rfl⟩
      rw [← hz] at cC hxy
      have HZ := Lib.hid hz
      clear hx hy hgk hbel hi1 hi2 hz
      have w1' := wrap_small (x := (ca : Int) - 1) (by omega) (by omega)
      have w2' := wrap_small (x := g + z) (by omega) (by omega)
      go_wp2
      have q0 := cell_regrown (w := wr) k0
      have q1 := cell_regrown (w := wr) k1
      have q2 := cell_regrown (w := wr) k2
      have p0 := cell_regrown (w := wr) m0
      have p1 := cell_regrown (w := wr) m1
      have p2 := cell_regrown (w := wr) m2
      refine wp_region_quiet_below (by kernel_rfl) (by kernel_rfl) ?_
      repeat (quiet_step (first | with_reducible exact cA _ _ | with_reducible exact cB _ _ | with_reducible exact cC _ _))
      refine wpQuiet_nil ?_
      intro _ hw'
      obtain ⟨⟨dq, osq⟩, hw''⟩ := hw'
      subst hw''
      have HBQ := Lib.hid (below_regrown wr dq osq)
      clear cA cB cC
      have o0 := q0 dq osq
      have o1 := q1 dq osq
      have o2 := q2 dq osq
      have o3 := p0 dq osq
      have o4 := p1 dq osq
      have o5 := p2 dq osq
      clear q0 q1 q2 p0 p1 p2
      go_wp2
      go_roundw
      case rel => exact ⟨k + 1, by omega, by go_num, by rw [gapUpTo, ← HX.out, ← HY.out, ← HZ.out, ← HG.out], HBE.out.trans (HBQ.out.mono hsz), o0, o1, o2, o3, o4, o5⟩
      case measure => simp [intOf]; omega
    · obtain rfl : k = n := by omega
      go_wp2
      go_ret
      exact ⟨rfl, hbel⟩

/-- pairOf as one contract -/
theorem gap_val {ga gb : Rows} (h : Same ga gb) : gapOf ga gb = gapUpTo ga gb ga.length := if_pos h
theorem gap_none {ga gb : Rows} (h : ¬ Same ga gb) : gapOf ga gb = -1 := if_neg h

set_option maxHeartbeats 2000000 in
set_option maxRecDepth 100000 in
theorem GridsGap_any (va vb : Value) (ga gb : Rows) (w : World) (ha : Grid w va ga) (hb : Grid w vb gb) :
    Calls Try.prog 22 #[va, vb] w fun e w' => e = .returned (.int .i64 (gapOf ga gb)) ∧ Below w.heap.size w w' := by
  by_cases hs : Same ga gb
  · rw [gap_val hs]
    have C := Lib.hid (pairOf_yes va vb ga gb w ha hb hs)
    have HS := Lib.hid hs
    clear ha hb hs
    go_enter Try.func22, Try.ntmps22
    go_wp2_with fail
    refine C.out.mono ?_
    rintro e w1 ⟨a, b, rfl, hA, hAB, hra, hrb, hbel⟩
    have ra := (hra.alloc (.cells #[.int .i64 ga.length, .int .i64 (colsOf ga), .slice (some ⟨a, 0, none⟩) (ga.length * colsOf ga) (ga.length * colsOf ga)] 61)).alloc (.cells #[.int .i64 gb.length, .int .i64 (colsOf gb), .slice (some ⟨b, 0, none⟩) (gb.length * colsOf gb) (gb.length * colsOf gb)] 61)
    have rb := (hrb.alloc (.cells #[.int .i64 ga.length, .int .i64 (colsOf ga), .slice (some ⟨a, 0, none⟩) (ga.length * colsOf ga) (ga.length * colsOf ga)] 61)).alloc (.cells #[.int .i64 gb.length, .int .i64 (colsOf gb), .slice (some ⟨b, 0, none⟩) (gb.length * colsOf gb) (gb.length * colsOf gb)] 61)
    have hz := hbel.size
    have HB := Lib.hid ((hbel.alloc (by omega) (.cells #[.int .i64 ga.length, .int .i64 (colsOf ga), .slice (some ⟨a, 0, none⟩) (ga.length * colsOf ga) (ga.length * colsOf ga)] 61)).alloc (by simp; omega) (.cells #[.int .i64 gb.length, .int .i64 (colsOf gb), .slice (some ⟨b, 0, none⟩) (gb.length * colsOf gb) (gb.length * colsOf gb)] 61))
    have RA := Lib.hid ra
    have RB := Lib.hid rb
    clear hra hrb hbel ra rb
    go_wp2_with fail
    refine (gap_any ga gb a b _ HS.out RA.out RB.out).mono ?_
    rintro e w2 ⟨rfl, hb2⟩
    have hz2 := hb2.size
    have HB2 := Lib.hid (HB.out.trans (hb2.mono (by simp; omega)))
    clear hb2
    go_wp2
    go_ret
    exact ⟨rfl, HB2.out⟩
  · rw [gap_none hs]
    have C := Lib.hid (pairOf_no va vb ga gb w ha hb hs)
    clear ha hb hs
    go_enter Try.func22, Try.ntmps22
    go_wp2_with fail
    refine C.out.mono ?_
    rintro e w1 ⟨rfl, hbel⟩
    go_wp2
    go_ret
    exact ⟨rfl, (hbel.alloc hbel.size _).alloc (by have := hbel.size; simp; omega) _⟩

set_option maxHeartbeats 2000000 in
set_option maxRecDepth 100000 in
theorem GridsAgree_any (va vb : Value) (ga gb : Rows) (w : World) (ha : Grid w va ga) (hb : Grid w vb gb) :
    Calls Try.prog 25 #[va, vb] w fun e w' => e = .returned (.bool (decide (gapOf ga gb = 0))) ∧ Below w.heap.size w w' := by
  by_cases hs : Same ga gb
  · rw [gap_val hs]
    have C := Lib.hid (pairOf_yes va vb ga gb w ha hb hs)
    have HS := Lib.hid hs
    clear ha hb hs
    go_enter Try.func25, Try.ntmps25
    go_wp2_with fail
    refine C.out.mono ?_
    rintro e w1 ⟨a, b, rfl, hA, hAB, hra, hrb, hbel⟩
    have ra := (hra.alloc (.cells #[.int .i64 ga.length, .int .i64 (colsOf ga), .slice (some ⟨a, 0, none⟩) (ga.length * colsOf ga) (ga.length * colsOf ga)] 61)).alloc (.cells #[.int .i64 gb.length, .int .i64 (colsOf gb), .slice (some ⟨b, 0, none⟩) (gb.length * colsOf gb) (gb.length * colsOf gb)] 61)
    have rb := (hrb.alloc (.cells #[.int .i64 ga.length, .int .i64 (colsOf ga), .slice (some ⟨a, 0, none⟩) (ga.length * colsOf ga) (ga.length * colsOf ga)] 61)).alloc (.cells #[.int .i64 gb.length, .int .i64 (colsOf gb), .slice (some ⟨b, 0, none⟩) (gb.length * colsOf gb) (gb.length * colsOf gb)] 61)
    have hz := hbel.size
    have HB := Lib.hid ((hbel.alloc (by omega) (.cells #[.int .i64 ga.length, .int .i64 (colsOf ga), .slice (some ⟨a, 0, none⟩) (ga.length * colsOf ga) (ga.length * colsOf ga)] 61)).alloc (by simp; omega) (.cells #[.int .i64 gb.length, .int .i64 (colsOf gb), .slice (some ⟨b, 0, none⟩) (gb.length * colsOf gb) (gb.length * colsOf gb)] 61))
    have RA := Lib.hid ra
    have RB := Lib.hid rb
    clear hra hrb hbel ra rb
    go_wp2_with fail
    refine (gap_any ga gb a b _ HS.out RA.out RB.out).mono ?_
    rintro e w2 ⟨rfl, hb2⟩
    have hz2 := hb2.size
    have HB2 := Lib.hid (HB.out.trans (hb2.mono (by simp; omega)))
    clear hb2
    go_wp2
    go_ret
    exact ⟨ret_bool (by by_cases h : gapUpTo ga gb ga.length = 0 <;> simp [h]), HB2.out⟩
  · rw [gap_none hs]
    have C := Lib.hid (pairOf_no va vb ga gb w ha hb hs)
    clear ha hb hs
    go_enter Try.func25, Try.ntmps25
    go_wp2_with fail
    refine C.out.mono ?_
    rintro e w1 ⟨rfl, hbel⟩
    go_wp2
    go_ret
    exact ⟨rfl, (hbel.alloc hbel.size _).alloc (by have := hbel.size; simp; omega) _⟩

end Go.Proofs.Ytebhbcjioolpeaa
