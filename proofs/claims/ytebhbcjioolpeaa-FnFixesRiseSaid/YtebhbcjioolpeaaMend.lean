/-
  GridsMend of the program. No condition but that the slices read as the lists.
-/
import Derived.Test.YtebhbcjioolpeaaLists
import Derived.BigQuiet
namespace Go.Proofs.Ytebhbcjioolpeaa
open Go.RowKit Go.Deep Go.Sort BigFrame

/-- the middle of the two heights of a row -/
def halfOf (ga gb : Rows) (k : Nat) : Int := (lastOf ga k + firstOf gb k).tdiv 2
/-- both grids with their first k rows mended -/
def mendA (ga gb : Rows) (k : Nat) : Rows := (List.range ga.length).map fun i => if i < k then (ga[i]?.getD []).set (colsOf ga - 1) (halfOf ga gb i) else ga[i]?.getD []
def mendB (ga gb : Rows) (k : Nat) : Rows := (List.range gb.length).map fun i => if i < k then (gb[i]?.getD []).set 0 (halfOf ga gb i) else gb[i]?.getD []
def mendAll (ga gb : Rows) : Rows × Rows := if Same ga gb then (mendA ga gb ga.length, mendB ga gb ga.length) else ([], [])

/-- .. told by the index in the field -/
def hA (ga gb : Rows) (k i : Nat) : Int := if i / colsOf ga < k ∧ i % colsOf ga = colsOf ga - 1 then halfOf ga gb (i / colsOf ga) else cellOf ga i
def hB (ga gb : Rows) (k i : Nat) : Int := if i / colsOf gb < k ∧ i % colsOf gb = 0 then halfOf ga gb (i / colsOf gb) else cellOf gb i

theorem div_row {i j c : Nat} (hj : j < c) : (i * c + j) / c = i := by
  rw [Nat.add_comm, Nat.add_mul_div_right _ _ (by omega), Nat.div_eq_of_lt hj, Nat.zero_add]
theorem mod_row {i j c : Nat} (hj : j < c) : (i * c + j) % c = j := by
  rw [Nat.add_comm, Nat.add_mul_mod_self_right, Nat.mod_eq_of_lt hj]
theorem at_row {n i j c : Nat} (_hc : 0 < c) (h1 : n / c = i) (h2 : n % c = j) : n = i * c + j := by
  have := Nat.div_add_mod n c
  rw [h1, h2, Nat.mul_comm] at this
  omega

theorem hA_set {ga gb : Rows} (hc : 0 < colsOf ga) (k n : Nat) : (if n = k * colsOf ga + (colsOf ga - 1) then Value.int .i64 (halfOf ga gb k) else .int .i64 (hA ga gb k n)) = .int .i64 (hA ga gb (k + 1) n) := by
  unfold hA
  by_cases e : n = k * colsOf ga + (colsOf ga - 1)
  · rw [if_pos e]
    have h1 : n / colsOf ga = k := by rw [e]; exact div_row (by omega)
    have h2 : n % colsOf ga = colsOf ga - 1 := by rw [e]; exact mod_row (by omega)
    rw [h1, h2, if_pos ⟨by omega, rfl⟩]
  · rw [if_neg e]
    by_cases h : n / colsOf ga < k + 1 ∧ n % colsOf ga = colsOf ga - 1
    · have : n / colsOf ga ≠ k := fun h' => e (at_row hc h' h.2)
      rw [if_pos ⟨by omega, h.2⟩, if_pos h]
    · rw [if_neg (fun h' => h ⟨by omega, h'.2⟩), if_neg h]
theorem hB_set {ga gb : Rows} (hc : 0 < colsOf gb) (k n : Nat) : (if n = k * colsOf gb + 0 then Value.int .i64 (halfOf ga gb k) else .int .i64 (hB ga gb k n)) = .int .i64 (hB ga gb (k + 1) n) := by
  unfold hB
  by_cases e : n = k * colsOf gb + 0
  · rw [if_pos e]
    have h1 : n / colsOf gb = k := by rw [e]; exact div_row (by omega)
    have h2 : n % colsOf gb = 0 := by rw [e]; exact mod_row (by omega)
    rw [h1, h2, if_pos ⟨by omega, rfl⟩]
  · rw [if_neg e]
    by_cases h : n / colsOf gb < k + 1 ∧ n % colsOf gb = 0
    · have : n / colsOf gb ≠ k := fun h' => e (at_row hc h' h.2)
      rw [if_pos ⟨by omega, h.2⟩, if_pos h]
    · rw [if_neg (fun h' => h ⟨by omega, h'.2⟩), if_neg h]

theorem row_ext {a b : List Int} (hl : a.length = b.length) (h : ∀ j, j < a.length → a[j]?.getD 0 = b[j]?.getD 0) : a = b := by
  refine List.ext_getElem hl fun i h1 h2 => ?_
  have := h i h1
  simpa [h1, h2] using this

theorem mendA_rows {ga gb : Rows} (h : Same ga gb) : rowsOf (hA ga gb ga.length) ga.length (colsOf ga) = mendA ga gb ga.length := by
  refine rows_eq (by rw [rowsOf_length]; simp [mendA]) fun i hi => ?_
  rw [rowsOf_length] at hi
  have hl := (h.1.2.2.2.2 i hi).1
  have e2 : (mendA ga gb ga.length)[i]?.getD [] = (ga[i]?.getD []).set (colsOf ga - 1) (halfOf ga gb i) := by simp [mendA, hi]
  rw [rowsOf_get _ _ _ _ hi, e2]
  refine row_ext (by simp [hl]) fun j hj => ?_
  have hj : j < colsOf ga := by simpa using hj
  rw [setI_get (by have := h.1.2.2.1; omega), range_get hj]
  unfold hA
  rw [div_row hj, mod_row hj, cell_at rfl hj]
  by_cases e : j = colsOf ga - 1
  · rw [if_pos ⟨hi, e⟩, if_pos e]
  · rw [if_neg (fun h => e h.2), if_neg e]
theorem mendB_rows {ga gb : Rows} (h : Same ga gb) : rowsOf (hB ga gb ga.length) gb.length (colsOf gb) = mendB ga gb ga.length := by
  refine rows_eq (by rw [rowsOf_length]; simp [mendB]) fun i hi => ?_
  rw [rowsOf_length] at hi
  have hl := (h.2.1.2.2.2.2 i hi).1
  have hi2 : i < ga.length := by have := h.2.2; omega
  have e2 : (mendB ga gb ga.length)[i]?.getD [] = (gb[i]?.getD []).set 0 (halfOf ga gb i) := by simp [mendB, hi, hi2]
  rw [rowsOf_get _ _ _ _ hi, e2]
  refine row_ext (by simp [hl]) fun j hj => ?_
  have hj : j < colsOf gb := by simpa using hj
  rw [setI_get (by have := h.2.1.2.2.1; omega), range_get hj]
  unfold hB
  rw [div_row hj, mod_row hj, cell_at rfl hj]
  by_cases e : j = 0
  · rw [if_pos ⟨hi2, e⟩, if_pos e]
  · rw [if_neg (fun h => e h.2), if_neg e]

/-- three cells of a block -/
def Box3 (w : World) (b : Nat) (x y z : Value) : Prop := w.cell? ⟨b, 0, none⟩ = some x ∧ w.cell? ⟨b, 1, none⟩ = some y ∧ w.cell? ⟨b, 2, none⟩ = some z
theorem Box3.block {w w' : World} {b : Nat} {x y z : Value} (h : Box3 w b x y z) (e : w'.heap[b]? = w.heap[b]?) : Box3 w' b x y z :=
  ⟨(World.cell?_of_block e).trans h.1, (World.cell?_of_block e).trans h.2.1, (World.cell?_of_block e).trans h.2.2⟩
theorem Box3.row {w : World} {b : Nat} {x y z : Value} (h : w.rowIs b 61 3 (f3 x y z)) : Box3 w b x y z := ⟨h.cell (i := 0) (by decide), h.cell (i := 1) (by decide), h.cell (i := 2) (by decide)⟩
theorem Box3.other {w : World} {b : Nat} {x y z : Value} (h : Box3 w b x y z) {p : Addr} (hp : b ≠ p.block) (u : Value) : Box3 (w.setCell p u) b x y z := h.block (blk_setCell_other _ _ _ _ hp)

theorem half_small {ga gb : Rows} (h : Same ga gb) (k : Nat) (hk : k < ga.length) : 0 ≤ lastOf ga k + firstOf gb k ∧ lastOf ga k + firstOf gb k ≤ 198 := by
  have h1 := h.1.cell (i := k) (j := colsOf ga - 1) hk (by have := h.1.2.2.1; omega)
  have h2 := h.2.1.cell (i := k) (j := 0) (by have := h.2.2; omega) (by have := h.2.1.2.2.1; omega)
  unfold lastOf firstOf
  omega

set_option maxHeartbeats 4000000 in
set_option maxRecDepth 100000 in
theorem GridsMend_yes (va vb : Value) (ga gb : Rows) (w : World) (ha : Grid w va ga) (hb : Grid w vb gb) (hs : Same ga gb) :
    Calls Try.prog 29 #[va, vb] w fun e w' => ∃ x y m, e = .returned (.tuple #[x, y, .bool true]) ∧ w.heap.size ≤ m ∧ m ≤ w'.heap.size ∧ OwnG w.heap.size m w' x (mendA ga gb ga.length) ∧ OwnG m w'.heap.size w' y (mendB ga gb ga.length) ∧ Below w.heap.size w w' := by
  have C := Lib.hid (pairOf_yes va vb ga gb w ha hb hs)
  have HS := Lib.hid hs
  rw [← mendA_rows hs, ← mendB_rows hs]
  have hn := hs.1.2.1
  have hca1 := hs.1.2.2.1
  have hca2 := hs.1.2.2.2.1
  have hcb1 := hs.2.1.2.2.1
  have hcb2 := hs.2.1.2.2.2.1
  have hl : Hid (gb.length = ga.length) := hs.2.2.symm
  have HSETA : Hid (∀ k i, (if i = k * colsOf ga + (colsOf ga - 1) then Value.int .i64 (halfOf ga gb k) else .int .i64 (hA ga gb k i)) = .int .i64 (hA ga gb (k + 1) i)) := hA_set (by omega)
  have HSETB : Hid (∀ k i, (if i = k * colsOf gb + 0 then Value.int .i64 (halfOf ga gb k) else .int .i64 (hB ga gb k i)) = .int .i64 (hB ga gb (k + 1) i)) := hB_set (by omega)
  have HALF : Hid (∀ k, k < ga.length → 0 ≤ lastOf ga k + firstOf gb k ∧ lastOf ga k + firstOf gb k ≤ 198) := half_small hs
  have HA0 : Hid (∀ i, hA ga gb 0 i = cellOf ga i) := fun i => by unfold hA; rw [if_neg (fun h => absurd h.1 (Nat.not_lt_zero _))]
  have HB0 : Hid (∀ i, hB ga gb 0 i = cellOf gb i) := fun i => by unfold hB; rw [if_neg (fun h => absurd h.1 (Nat.not_lt_zero _))]
  have HAK : Hid (∀ k, k < ga.length → hA ga gb k (k * colsOf ga + (colsOf ga - 1)) = lastOf ga k) := fun k hk => by
    unfold hA lastOf
    rw [div_row (by omega), if_neg (by omega), cell_at rfl (by omega)]
  have HBK : Hid (∀ k, k < ga.length → hB ga gb k (k * colsOf gb + 0) = firstOf gb k) := fun k hk => by
    unfold hB firstOf
    rw [div_row (by omega), if_neg (by omega), cell_at rfl (by omega)]
  have HIA : Hid (∀ k, k < ga.length → k * colsOf ga + (colsOf ga - 1) < ga.length * colsOf ga) := fun k hk => idx_lt hk (by omega)
  have HIB : Hid (∀ k, k < ga.length → k * colsOf gb + 0 < gb.length * colsOf gb) := fun k hk => idx_lt (by have := hl.out; omega) (by omega)
  have CI : Hid (∀ (v : Value) k W, (∃ a n c, v = .slice a n c) → k < ga.length → Calls Try.prog 71 #[fv ga.length (colsOf ga) v, .int .i64 (k : Int), .int .i64 ((colsOf ga : Int) - 1)] W fun e w' => e = .returned (.int .i64 ((k * colsOf ga + (colsOf ga - 1) : Nat) : Int)) ∧ Below W.heap.size W w') := fun v k W hv hk => by
    have := index_any ga.length (colsOf ga) k (colsOf ga - 1) _ v hv W (by omega) (by omega) (by omega) rfl
    rw [show (((colsOf ga - 1 : Nat)) : Int) = (colsOf ga : Int) - 1 by omega] at this
    exact this
  have CJ : Hid (∀ (v : Value) k W, (∃ a n c, v = .slice a n c) → k < ga.length → Calls Try.prog 71 #[fv ga.length (colsOf gb) v, .int .i64 (k : Int), .int .i64 0] W fun e w' => e = .returned (.int .i64 ((k * colsOf gb + 0 : Nat) : Int)) ∧ Below W.heap.size W w') := fun v k W hv hk => index_any ga.length (colsOf gb) k 0 _ v hv W (by omega) (by omega) (by omega) rfl
  rw [hl.out] at C HIB ⊢
  obtain ⟨na, hna⟩ : ∃ n, n = ga.length * colsOf ga := ⟨_, rfl⟩
  obtain ⟨nb, hnb⟩ : ∃ n, n = ga.length * colsOf gb := ⟨_, rfl⟩
  rw [← hna, ← hnb] at C
  rw [← hna] at HIA
  rw [← hnb] at HIB
  have HNA := Lib.hid hna
  have HNB := Lib.hid hnb
  obtain ⟨n, hnn⟩ : ∃ n, n = ga.length := ⟨_, rfl⟩
  obtain ⟨ca, hca'⟩ : ∃ c, c = colsOf ga := ⟨_, rfl⟩
  obtain ⟨cb, hcb'⟩ : ∃ c, c = colsOf gb := ⟨_, rfl⟩
  rw [← hnn] at C hn HALF HAK HBK HIA HIB CI CJ HNA HNB ⊢
  rw [← hca'] at C hca1 hca2 HSETA HAK HIA CI HNA ⊢
  rw [← hcb'] at C hcb1 hcb2 HSETB HBK HIB CJ HNB ⊢
  clear ha hb hs hl hna hnb hnn hca' hcb'
  go_enter Try.func29, Try.ntmps29
  go_wp2_with fail
  refine C.out.mono ?_
  rintro e w1 ⟨A, B, rfl, hA1, hAB, hra, hrb, hbel⟩
  obtain ⟨F, hF⟩ : ∃ F, F = w1.heap.size := ⟨_, rfl⟩
  have hz := hbel.size
  have hA2 := hra.lt
  have hB2 := hrb.lt
  have ra := (hra.alloc (.cells #[.int .i64 n, .int .i64 ca, .slice (some ⟨A, 0, none⟩) na na] 61)).alloc (.cells #[.int .i64 n, .int .i64 cb, .slice (some ⟨B, 0, none⟩) nb nb] 61)
  have rb := (hrb.alloc (.cells #[.int .i64 n, .int .i64 ca, .slice (some ⟨A, 0, none⟩) na na] 61)).alloc (.cells #[.int .i64 n, .int .i64 cb, .slice (some ⟨B, 0, none⟩) nb nb] 61)
  have b1 := Box3.row ((field_row w1 (.int .i64 n) (.int .i64 ca) (.slice (some ⟨A, 0, none⟩) na na)).alloc (.cells #[.int .i64 n, .int .i64 cb, .slice (some ⟨B, 0, none⟩) nb nb] 61))
  have b2 := Box3.row (field_row (w1.alloc (.cells #[.int .i64 n, .int .i64 ca, .slice (some ⟨A, 0, none⟩) na na] 61)) (.int .i64 n) (.int .i64 cb) (.slice (some ⟨B, 0, none⟩) nb nb))
  rw [World.size_alloc] at b2
  have HB := Lib.hid ((hbel.alloc hz (.cells #[.int .i64 n, .int .i64 ca, .slice (some ⟨A, 0, none⟩) na na] 61)).alloc (by simp; omega) (.cells #[.int .i64 n, .int .i64 cb, .slice (some ⟨B, 0, none⟩) nb nb] 61))
  have RA := Lib.hid ra
  have RB := Lib.hid rb
  have BX1 := Lib.hid b1
  have BX2 := Lib.hid b2
  clear hra hrb hbel ra rb b1 b2 C
  go_wp2_with fail
  rw [← hF] at hz hA2 hB2 ⊢
  have HFE := Lib.hid hF
  clear hF
  go_loopw [10, 11, 12, 13, 25] (fun _ _ _ _ i wr => ∃ k : Nat, k ≤ n ∧ i = .int .i64 k ∧ Box3 wr F (.int .i64 n) (.int .i64 ca) (.slice (some ⟨A, 0, none⟩) na na) ∧ Box3 wr (F + 1) (.int .i64 n) (.int .i64 cb) (.slice (some ⟨B, 0, none⟩) nb nb) ∧
      wr.rowIs A 3 na (fun i => .int .i64 (hA ga gb k i)) ∧ wr.rowIs B 3 nb (fun i => .int .i64 (hB ga gb k i)) ∧ Below w.heap.size w wr) (fun _ _ _ _ i _ => n - (intOf i).toNat)
  case atStart =>
    exact ⟨0, Nat.zero_le _, rfl, by rw [HFE.out]; exact BX1.out, by rw [HFE.out]; exact BX2.out, RA.out.congr (fun i _ => by rw [HA0.out]), RB.out.congr (fun i _ => by rw [HB0.out]), HB.out⟩
  case round =>
    obtain ⟨k, hk, rfl, bx1, bx2, hra, hrb, hbel⟩ := hrel
    by_cases hlt : k < n
    · have hia := HIA.out k hlt
      have hib := HIB.out k hlt
      obtain ⟨p, hp⟩ : ∃ p, p = k * ca + (ca - 1) := ⟨_, rfl⟩
      obtain ⟨q, hq⟩ : ∃ q, q = k * cb + 0 := ⟨_, rfl⟩
      have cI : ∀ d os, Calls Try.prog 71 #[fv n ca (.slice (some ⟨A, 0, none⟩) na na), .int .i64 k, .int .i64 ((ca : Int) - 1)] (grow (redrawn wr d) os) fun e w'' => e = .returned (.int .i64 p) ∧ ∃ r : Regrown, w'' = grow (redrawn wr r.d) r.os := fun d os => by rw [hp]; exact Calls.regrown_of (CI.out _ k _ ⟨_, _, _, rfl⟩ hlt)
      have cJ : ∀ d os, Calls Try.prog 71 #[fv n cb (.slice (some ⟨B, 0, none⟩) nb nb), .int .i64 k, .int .i64 0] (grow (redrawn wr d) os) fun e w'' => e = .returned (.int .i64 q) ∧ ∃ r : Regrown, w'' = grow (redrawn wr r.d) r.os := fun d os => by rw [hq]; exact Calls.regrown_of (CJ.out _ k _ ⟨_, _, _, rfl⟩ hlt)
      have xa := hra.cell (i := k * ca + (ca - 1)) hia
      have xb := hrb.cell (i := k * cb + 0) hib
      rw [HAK.out k hlt] at xa
      rw [HBK.out k hlt] at xb
      rw [← hp] at xa hia
      rw [← hq] at xb hib
      have hal := HALF.out k hlt
      have hHV : halfOf ga gb k = (lastOf ga k + firstOf gb k).tdiv 2 := rfl
      obtain ⟨x, hx⟩ : ∃ x, x = lastOf ga k := ⟨_, rfl⟩
      obtain ⟨y, hy⟩ : ∃ y, y = firstOf gb k := ⟨_, rfl⟩
      rw [← hx] at xa hal hHV
      rw [← hy] at xb hal hHV
      have ua := hra.frozen p
      have ub := hrb.frozen q
      obtain ⟨k0, k1, k2⟩ := bx1
      obtain ⟨m0, m1, m2⟩ := bx2
      have hsz := hbel.size
      have hFl : F + 1 < wr.heap.size := World.block_lt_of_cell? wr _ m0
      have HRA := Lib.hid hra
      have HRB := Lib.hid hrb
      have HBE := Lib.hid hbel
      have HP := Lib.hid hp
      have HQ := Lib.hid hq
      clear hra hrb hbel hp hq hx hy
      have w1' := wrap_small (x := (ca : Int) - 1) (by omega) (by omega)
      have w2' := wrap_small (x := x + y) (by omega) (by omega)
      go_wp2
      have q0 := cell_regrown (w := wr) k0
      have q1 := cell_regrown (w := wr) k1
      have q2 := cell_regrown (w := wr) k2
      have p0 := cell_regrown (w := wr) m0
      have p1 := cell_regrown (w := wr) m1
      have p2 := cell_regrown (w := wr) m2
      refine wp_region_quiet_below (by kernel_rfl) (by kernel_rfl) ?_
      repeat (go_big_quiet_step (first | with_reducible exact cI _ _ | with_reducible exact cJ _ _))
      refine wpQuiet_nil ?_
      intro _ hw'
      obtain ⟨⟨dq, osq⟩, hw''⟩ := hw'
      have HBQ := Lib.hid (below_regrown wr dq osq)
      rw [← hw''] at HBQ
      subst hw''
      have o2 := q2 dq osq
      have o5 := p2 dq osq
      have oa := cell_regrown (w := wr) xa dq osq
      have ob := cell_regrown (w := wr) xb dq osq
      have ra' := row_regrown HRA.out dq osq
      have rb' := row_regrown HRB.out dq osq
      have bx1 : Box3 (grow (redrawn wr dq) osq) F (.int .i64 n) (.int .i64 ca) (.slice (some ⟨A, 0, none⟩) na na) := ⟨q0 dq osq, q1 dq osq, q2 dq osq⟩
      have bx2 : Box3 (grow (redrawn wr dq) osq) (F + 1) (.int .i64 n) (.int .i64 cb) (.slice (some ⟨B, 0, none⟩) nb nb) := ⟨p0 dq osq, p1 dq osq, p2 dq osq⟩
      obtain ⟨wq, hwq⟩ : ∃ wq, wq = grow (redrawn wr dq) osq := ⟨_, rfl⟩
      rw [← hwq] at o2 o5 oa ob ra' rb' bx1 bx2 HBQ ⊢
      have HRA2 := Lib.hid ra'
      have HRB2 := Lib.hid rb'
      have BX1' := Lib.hid bx1
      have BX2' := Lib.hid bx2
      clear q0 q1 q2 p0 p1 p2 k0 k1 k2 m0 m1 m2 cI cJ xa xb ua ub ra' rb' bx1 bx2 hwq
      go_wp2
      go_quiet (fail)
      have hHV2 : (x + y) / 2 = halfOf ga gb k := by rw [hHV, Int.tdiv_eq_ediv_of_nonneg hal.1]
      obtain ⟨z, hz'⟩ : ∃ z, z = (x + y) / 2 := ⟨_, rfl⟩
      rw [← hz'] at hHV2 ⊢
      have HZ := Lib.hid hHV2
      replace HBQ := Lib.hid (below_n HBQ.out nq)
      have HRA3 : Hid ((wq.drewN nq).rowIs A 3 na (fun i => .int .i64 (hA ga gb k i))) := HRA2.out
      have HRB3 : Hid ((wq.drewN nq).rowIs B 3 nb (fun i => .int .i64 (hB ga gb k i))) := HRB2.out
      have BX3 : Hid (Box3 (wq.drewN nq) F (.int .i64 n) (.int .i64 ca) (.slice (some ⟨A, 0, none⟩) na na)) := BX1'.out
      have BX4 : Hid (Box3 (wq.drewN nq) (F + 1) (.int .i64 n) (.int .i64 cb) (.slice (some ⟨B, 0, none⟩) nb nb)) := BX2'.out
      replace o2 : (wq.drewN nq).cell? ⟨F, 2, none⟩ = _ := o2
      replace o5 : (wq.drewN nq).cell? ⟨F + 1, 2, none⟩ = _ := o5
      replace oa : (wq.drewN nq).cell? ⟨A, p, none⟩ = _ := oa
      replace ob : (wq.drewN nq).cell? ⟨B, q, none⟩ = _ := ob
      have ua := HRA3.out.frozen p
      have ub := HRB3.out.frozen q
      obtain ⟨wp, hwp⟩ : ∃ wp, wp = wq.drewN nq := ⟨_, rfl⟩
      rw [← hwp] at o2 o5 oa ob ua ub HRA3 HRB3 BX3 BX4 HBQ ⊢
      have n1 : F + 1 ≠ A := by omega
      have n2 : B ≠ A := by omega
      have n3 : F ≠ A := by omega
      have n4 : F ≠ B := by omega
      have n5 : F + 1 ≠ B := by omega
      have p5 := (World.cell?_of_block (blk_setCell_other wp ⟨A, p, none⟩ (.int .i64 z) (F + 1) n1)).trans o5
      have pb := (World.cell?_of_block (blk_setCell_other wp ⟨A, p, none⟩ (.int .i64 z) B n2)).trans ob
      have vb' := (HRB3.out.setOther (a := ⟨A, p, none⟩) n2 (.int .i64 z)).frozen q
      clear hz' hwp hHV hHV2
      go_wp2
      go_roundw
      case rel =>
        refine ⟨k + 1, by omega, by go_num, (BX3.out.other (p := ⟨A, p, none⟩) n3 _).other (p := ⟨B, q, none⟩) n4 _, (BX4.out.other (p := ⟨A, p, none⟩) n1 _).other (p := ⟨B, q, none⟩) n5 _, ?_, ?_, ?_⟩
        · refine (((HRA3.out.set p (.int .i64 z)).setOther (a := ⟨B, q, none⟩) (fun h => n2 h.symm) (.int .i64 z))).congr fun j _ => ?_
          rw [HZ.out, HP.out]
          exact HSETA.out k j
        · refine (((HRB3.out.setOther (a := ⟨A, p, none⟩) n2 (.int .i64 z)).set q (.int .i64 z))).congr fun j _ => ?_
          rw [HZ.out, HQ.out]
          exact HSETB.out k j
        · exact ((HBE.out.trans (HBQ.out.mono hsz)).setCell (p := ⟨A, p, none⟩) (by show w.heap.size ≤ A; omega) _).setCell (p := ⟨B, q, none⟩) (by show w.heap.size ≤ B; omega) _
      case measure => simp [intOf]; omega
    · obtain rfl : k = n := by omega
      have CL1 : Hid (∀ W, W.rowIs A 3 na (fun i => .int .i64 (hA ga gb k i)) → Calls Try.prog 72 #[fv k ca (.slice (some ⟨A, 0, none⟩) na na)] W fun e w' => ∃ v, e = .returned v ∧ OwnG W.heap.size w'.heap.size w' v (rowsOf (hA ga gb k) k ca) ∧ Below W.heap.size W w') := fun W h => by
        rw [HNA.out] at h ⊢
        exact lists_any k ca A (hA ga gb k) W (by omega) (by omega) hca1 h
      have CL2 : Hid (∀ W, W.rowIs B 3 nb (fun i => .int .i64 (hB ga gb k i)) → Calls Try.prog 72 #[fv k cb (.slice (some ⟨B, 0, none⟩) nb nb)] W fun e w' => ∃ v, e = .returned v ∧ OwnG W.heap.size w'.heap.size w' v (rowsOf (hB ga gb k) k cb) ∧ Below W.heap.size W w') := fun W h => by
        rw [HNB.out] at h ⊢
        exact lists_any k cb B (hB ga gb k) W (by omega) (by omega) hcb1 h
      obtain ⟨k0, k1, k2⟩ := bx1
      obtain ⟨m0, m1, m2⟩ := bx2
      have hsz := hbel.size
      have hFl : F + 1 < wr.heap.size := World.block_lt_of_cell? wr _ m0
      have HRA := Lib.hid hra
      have HRB := Lib.hid hrb
      have HBE := Lib.hid hbel
      clear hra hrb hbel
      go_wp2
      go_region_held3 (fun w' => (w'.cell? ⟨F, 0, none⟩ = some (.int .i64 k) ∧ w'.cell? ⟨F, 1, none⟩ = some (.int .i64 ca) ∧ w'.cell? ⟨F, 2, none⟩ = some (.slice (some ⟨A, 0, none⟩) na na)) ∧ w'.cell? ⟨F + 1, 0, none⟩ = some (.int .i64 k) ∧ w'.cell? ⟨F + 1, 1, none⟩ = some (.int .i64 cb) ∧ w'.cell? ⟨F + 1, 2, none⟩ = some (.slice (some ⟨B, 0, none⟩) nb nb))
        (first | exact ⟨⟨k0, k1, k2⟩, m0, m1, m2⟩ | exact ⟨e0, e1⟩ | exact ⟨f0, f1⟩ | go_keep)
        (first | (go_at_call 72; have hr0 := HRA.out.drew; (with_reducible refine (CL1.out _ hr0).mono ?_); rintro e w5 ⟨x, rfl, hO5, hb5⟩; have z5 : wr.heap.size ≤ w5.heap.size := hb5.size; have HO5 := Lib.hid hO5; have HB5 := Lib.hid hb5; have e0 := Box3.block (b := F) ⟨k0, k1, k2⟩ (hb5.block F (by show F < wr.heap.size; omega)); have e1 := Box3.block (b := F + 1) ⟨m0, m1, m2⟩ (hb5.block (F + 1) hFl); have hr5 := HRB.out.drew.of_block (hb5.block _ HRB.out.lt)) | (go_at_call 72; (with_reducible refine (CL2.out _ hr5).mono ?_); rintro e w6 ⟨y, rfl, hO6, hb6⟩; have z6 : w5.heap.size ≤ w6.heap.size := hb6.size; have HO6 := Lib.hid hO6; have HB6 := Lib.hid hb6; have f0 := Box3.block (b := F) e0 (hb6.block F (by omega)); have f1 := Box3.block (b := F + 1) e1 (hb6.block (F + 1) (by omega))) | fail)
      go_wp2
      go_ret3
      exact ⟨x, y, w5.heap.size, rfl, by omega, z6, (HO5.out.below HB6.out (Nat.le_refl _)).mono hsz (Nat.le_refl _), HO6.out, (HBE.out.drew.trans (HB5.out.mono hsz)).trans (HB6.out.mono (by omega))⟩

set_option maxHeartbeats 2000000 in
set_option maxRecDepth 100000 in
theorem GridsMend_no (va vb : Value) (ga gb : Rows) (w : World) (ha : Grid w va ga) (hb : Grid w vb gb) (hs : ¬ Same ga gb) :
    Calls Try.prog 29 #[va, vb] w fun e w' => e = .returned (.tuple #[.slice none 0 0, .slice none 0 0, .bool false]) ∧ Below w.heap.size w w' := by
  have C := Lib.hid (pairOf_no va vb ga gb w ha hb hs)
  clear ha hb hs
  go_enter Try.func29, Try.ntmps29
  go_wp2_with fail
  refine C.out.mono ?_
  rintro e w1 ⟨rfl, hbel⟩
  go_wp2
  go_ret3
  exact ⟨rfl, (hbel.alloc hbel.size _).alloc (by have := hbel.size; simp; omega) _⟩

theorem mendAll_yes {ga gb : Rows} (h : Same ga gb) : mendAll ga gb = (mendA ga gb ga.length, mendB ga gb ga.length) := if_pos h
theorem mendAll_no {ga gb : Rows} (h : ¬ Same ga gb) : mendAll ga gb = ([], []) := if_neg h
theorem GridsMend_any (va vb : Value) (ga gb : Rows) (w : World) (ha : Grid w va ga) (hb : Grid w vb gb) :
    Calls Try.prog 29 #[va, vb] w fun e w' => ∃ x y m, e = .returned (.tuple #[x, y, .bool (decide (Same ga gb))]) ∧ w.heap.size ≤ m ∧ m ≤ w'.heap.size ∧ OwnG w.heap.size m w' x (mendAll ga gb).1 ∧ OwnG m w'.heap.size w' y (mendAll ga gb).2 ∧ Below w.heap.size w w' := by
  by_cases hs : Same ga gb
  · rw [mendAll_yes hs, decide_eq_true hs]
    exact GridsMend_yes va vb ga gb w ha hb hs
  · rw [mendAll_no hs, decide_eq_false hs]
    exact (GridsMend_no va vb ga gb w ha hb hs).mono fun e w' ⟨he, hb⟩ => ⟨_, _, w.heap.size, he, Nat.le_refl _, hb.size, .inl ⟨rfl, none, 0, rfl, by omega⟩, .inl ⟨rfl, none, 0, rfl, by omega⟩, hb⟩
end Go.Proofs.Ytebhbcjioolpeaa
