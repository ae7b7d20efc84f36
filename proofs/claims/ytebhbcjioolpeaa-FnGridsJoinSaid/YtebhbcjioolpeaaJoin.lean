/-
  GridsJoin of the program. No condition but that the slices read as the lists.
-/
import Derived.Test.YtebhbcjioolpeaaMadeJoin
namespace Go.Proofs.Ytebhbcjioolpeaa
open Go.RowKit Go.Deep Go.Sort BigFrame

/-- both grids agree, and joined they are a grid -/
def JoinOk (ga gb : Rows) : Prop := gapOf ga gb = 0 ∧ colsOf ga + colsOf gb ≤ 8
instance (ga gb : Rows) : Decidable (JoinOk ga gb) := by unfold JoinOk; infer_instance
def joinRows (ga gb : Rows) (k : Nat) : Rows := (List.range k).map fun i => (ga[i]?.getD []) ++ (gb[i]?.getD []).drop 1
def joinAll (ga gb : Rows) : Rows := if JoinOk ga gb then joinRows ga gb ga.length else []
/-- a height of the joined grid -/
def hJ (ga gb : Rows) (i j : Nat) : Int := if j < colsOf ga then (ga[i]?.getD [])[j]?.getD 0 else (gb[i]?.getD [])[j - colsOf ga + 1]?.getD 0

theorem same_of_gap {ga gb : Rows} (h : gapOf ga gb = 0) : Same ga gb := by
  by_cases hs : Same ga gb
  · exact hs
  · rw [gap_none hs] at h; exact absurd h (by decide)
theorem joinRows_len (ga gb : Rows) (k : Nat) : (joinRows ga gb k).length = k := by simp [joinRows]
theorem joinRows_get (ga gb : Rows) (k i : Nat) (hi : i < k) : (joinRows ga gb k)[i]?.getD [] = (ga[i]?.getD []) ++ (gb[i]?.getD []).drop 1 := by simp [joinRows, hi]
theorem join_self {ga gb : Rows} (h : Same ga gb) (c : Nat) (hc : c + 1 = colsOf ga + colsOf gb) : rowsOf (fun n => hJ ga gb (n / c) (n % c)) ga.length c = joinRows ga gb ga.length := by
  have hb1 := h.2.1.2.2.1
  refine rows_eq (by rw [rowsOf_length, joinRows_len]) fun i hi => ?_
  rw [rowsOf_length] at hi
  have hla := (h.1.2.2.2.2 i hi).1
  have hlb := (h.2.1.2.2.2.2 i (by have := h.2.2; omega)).1
  rw [rowsOf_get _ _ _ _ hi, joinRows_get _ _ _ _ hi]
  refine row_ext (by simp [hla, hlb]; omega) fun j hj => ?_
  have hj : j < c := by simpa using hj
  rw [range_get hj, div_row hj, mod_row hj]
  unfold hJ
  by_cases e : j < colsOf ga
  · rw [if_pos e, List.getElem?_append_left (by omega)]
  · rw [if_neg e, List.getElem?_append_right (by omega), List.getElem?_drop, hla]
    congr 2
    omega

set_option maxHeartbeats 1000000 in
set_option maxRecDepth 100000 in
theorem joinCl_any (ga gb : Rows) (F A B i j : Nat) (w : World) (hs : Same ga gb) (ba : Box3 w F (.int .i64 ga.length) (.int .i64 (colsOf ga)) (.slice (some ⟨A, 0, none⟩) (ga.length * colsOf ga) (ga.length * colsOf ga)))
    (bb : Box3 w (F + 1) (.int .i64 gb.length) (.int .i64 (colsOf gb)) (.slice (some ⟨B, 0, none⟩) (gb.length * colsOf gb) (gb.length * colsOf gb)))
    (ra : w.rowIs A 3 (ga.length * colsOf ga) (fun i => .int .i64 (cellOf ga i))) (rb : w.rowIs B 3 (gb.length * colsOf gb) (fun i => .int .i64 (cellOf gb i))) (hi : i < ga.length) (hj : j + 1 < colsOf ga + colsOf gb) :
    Calls Try.prog 86 #[.int .i64 i, .int .i64 j, .pointer (some ⟨F, 0, none⟩), .pointer (some ⟨F + 1, 0, none⟩)] w fun e w' => e = .returned (.int .i64 (hJ ga gb i j)) ∧ Below w.heap.size w w' := by
  obtain ⟨k0, k1, k2⟩ := ba
  obtain ⟨m0, m1, m2⟩ := bb
  have hca := hs.1.2.2.2.1
  have hcb := hs.2.1.2.2.2.1
  by_cases e : j < colsOf ga
  · have C := Lib.hid (at_grid ga ga.length A i j w hs.1 ra hi e)
    have hv : hJ ga gb i j = (ga[i]?.getD [])[j]?.getD 0 := if_pos e
    rw [hv]
    have t1 := e
    obtain ⟨y, hy⟩ : ∃ y, y = (ga[i]?.getD [])[j]?.getD 0 := ⟨_, rfl⟩
    rw [← hy] at C ⊢
    obtain ⟨ca, hc⟩ : ∃ c, c = colsOf ga := ⟨_, rfl⟩
    obtain ⟨na, hn⟩ : ∃ c, c = ga.length * colsOf ga := ⟨_, rfl⟩
    obtain ⟨n, hnn⟩ : ∃ c, c = ga.length := ⟨_, rfl⟩
    rw [← hn] at C k2
    rw [← hc] at C k1 t1
    rw [← hnn] at C k0
    clear hs ra rb hv hy hc hn hnn m0 m1 m2 hi hj e
    go_enter Try.func86, Try.ntmps86
    go_wp2_with (go_at_call 81; refine C.out.mono ?_; rintro e w5 ⟨rfl, hb5⟩)
    go_ret
    exact ⟨rfl, hb5⟩
  · have C := Lib.hid (at_grid gb gb.length B i (j - colsOf ga + 1) w hs.2.1 rb (by have := hs.2.2; omega) (by omega))
    have hv : hJ ga gb i j = (gb[i]?.getD [])[j - colsOf ga + 1]?.getD 0 := if_neg e
    rw [hv]
    have t1 := e
    have e1 : ((j - colsOf ga + 1 : Nat) : Int) = (j : Int) - (colsOf ga : Int) + 1 := by omega
    rw [e1] at C
    have w1' := wrap_small (x := (j : Int) - (colsOf ga : Int)) (by omega) (by omega)
    have w2' := wrap_small (x := (j : Int) - (colsOf ga : Int) + 1) (by omega) (by omega)
    obtain ⟨y, hy⟩ : ∃ y, y = (gb[i]?.getD [])[j - colsOf ga + 1]?.getD 0 := ⟨_, rfl⟩
    rw [← hy] at C ⊢
    obtain ⟨cb, hc⟩ : ∃ c, c = colsOf gb := ⟨_, rfl⟩
    obtain ⟨nb, hn⟩ : ∃ c, c = gb.length * colsOf gb := ⟨_, rfl⟩
    obtain ⟨n, hnn⟩ : ∃ c, c = gb.length := ⟨_, rfl⟩
    rw [← hn] at C m2
    rw [← hc] at C m1
    rw [← hnn] at C m0
    obtain ⟨ca, hc2⟩ : ∃ c, c = colsOf ga := ⟨_, rfl⟩
    rw [← hc2] at C k1 t1 w1' w2'
    clear hs ra rb hv hy hc hn hnn hi hj e e1 hc2 hca hcb k0 k2
    go_enter Try.func86, Try.ntmps86
    go_wp2_with (go_at_call 81; refine C.out.mono ?_; rintro e w5 ⟨rfl, hb5⟩)
    go_ret
    exact ⟨rfl, hb5⟩

set_option maxHeartbeats 2000000 in
set_option maxRecDepth 100000 in
theorem GridsJoin_same (va vb : Value) (ga gb : Rows) (w : World) (ha : Grid w va ga) (hb : Grid w vb gb) (hs : Same ga gb) :
    Calls Try.prog 41 #[va, vb] w fun e w' => ∃ v, e = .returned (.tuple #[v, .bool (decide (JoinOk ga gb))]) ∧ OwnG w.heap.size w'.heap.size w' v (joinAll ga gb) ∧ Below w.heap.size w w' := by
  have C := Lib.hid (pairOf_yes va vb ga gb w ha hb hs)
  have HS := Lib.hid hs
  clear ha hb
  have hgl := hs.1.1
  have hgl2 := hs.1.2.1
  have hca := hs.1.2.2.1
  have hcb := hs.2.1.2.2.1
  have hca2 := hs.1.2.2.2.1
  have hcb2 := hs.2.1.2.2.2.1
  have GV := Lib.hid (gap_val hs)
  have gs := gap_small hs ga.length (Nat.le_refl _)
  clear hs
  go_enter Try.func41, Try.ntmps41
  go_wp2_with fail
  refine C.out.mono ?_
  rintro e w1 ⟨a, b, rfl, hA, hAB, hra, hrb, hbel⟩
  have ra := (hra.alloc (.cells #[.int .i64 ga.length, .int .i64 (colsOf ga), .slice (some ⟨a, 0, none⟩) (ga.length * colsOf ga) (ga.length * colsOf ga)] 61)).alloc (.cells #[.int .i64 gb.length, .int .i64 (colsOf gb), .slice (some ⟨b, 0, none⟩) (gb.length * colsOf gb) (gb.length * colsOf gb)] 61)
  have rb := (hrb.alloc (.cells #[.int .i64 ga.length, .int .i64 (colsOf ga), .slice (some ⟨a, 0, none⟩) (ga.length * colsOf ga) (ga.length * colsOf ga)] 61)).alloc (.cells #[.int .i64 gb.length, .int .i64 (colsOf gb), .slice (some ⟨b, 0, none⟩) (gb.length * colsOf gb) (gb.length * colsOf gb)] 61)
  have hz := hbel.size
  have HB := Lib.hid ((hbel.alloc (by omega) (.cells #[.int .i64 ga.length, .int .i64 (colsOf ga), .slice (some ⟨a, 0, none⟩) (ga.length * colsOf ga) (ga.length * colsOf ga)] 61)).alloc (by simp; omega) (.cells #[.int .i64 gb.length, .int .i64 (colsOf gb), .slice (some ⟨b, 0, none⟩) (gb.length * colsOf gb) (gb.length * colsOf gb)] 61))
  have b1 := Box3.row ((field_row w1 (.int .i64 ga.length) (.int .i64 (colsOf ga)) (.slice (some ⟨a, 0, none⟩) (ga.length * colsOf ga) (ga.length * colsOf ga))).alloc (.cells #[.int .i64 gb.length, .int .i64 (colsOf gb), .slice (some ⟨b, 0, none⟩) (gb.length * colsOf gb) (gb.length * colsOf gb)] 61))
  have b2 := Box3.row (field_row (w1.alloc (.cells #[.int .i64 ga.length, .int .i64 (colsOf ga), .slice (some ⟨a, 0, none⟩) (ga.length * colsOf ga) (ga.length * colsOf ga)] 61)) (.int .i64 gb.length) (.int .i64 (colsOf gb)) (.slice (some ⟨b, 0, none⟩) (gb.length * colsOf gb) (gb.length * colsOf gb)))
  rw [World.size_alloc] at b2
  have RA := Lib.hid ra
  have RB := Lib.hid rb
  have BX1 := Lib.hid b1
  have BX2 := Lib.hid b2
  clear hra hrb hbel ra rb b1 b2 C
  go_wp2_with fail
  refine (gap_any ga gb a b _ HS.out RA.out RB.out).mono ?_
  rintro e w2 ⟨rfl, hb2⟩
  have hz2 := hb2.size
  simp at hz2
  have HB2 := Lib.hid (HB.out.trans (hb2.mono (by simp; omega)))
  have RA2 := Lib.hid (RA.out.of_block (hb2.block _ RA.out.lt))
  have RB2 := Lib.hid (RB.out.of_block (hb2.block _ RB.out.lt))
  have bx1 := BX1.out.block (hb2.block w1.heap.size (by simp; omega))
  have bx2 := BX2.out.block (hb2.block (w1.heap.size + 1) (by simp))
  clear hb2
  obtain ⟨F, hF⟩ : ∃ F, F = w1.heap.size := ⟨_, rfl⟩
  rw [← hF] at bx1 bx2 hz hz2 ⊢
  have BY1 := Lib.hid bx1
  have BY2 := Lib.hid bx2
  clear hF BX1 BX2 RA RB HB
  by_cases h0 : gapUpTo ga gb ga.length = 0
  · have G0 : Hid (gapOf ga gb = 0) := GV.out.trans h0
    have e0 : (gapUpTo ga gb ga.length != 0) = false := by simp [h0]
    obtain ⟨x, hx⟩ : ∃ x, x = gapUpTo ga gb ga.length := ⟨_, rfl⟩
    rw [← hx] at e0 ⊢
    clear hx h0 gs
    obtain ⟨k0, k1, k2⟩ := bx1
    obtain ⟨m0, m1, m2⟩ := bx2
    have w1' := wrap_small (x := (colsOf ga : Int) + (colsOf gb : Int)) (by omega) (by omega)
    have w2' := wrap_small (x := (colsOf ga : Int) + (colsOf gb : Int) - 1) (by omega) (by omega)
    obtain ⟨c, hc⟩ : ∃ c, c + 1 = colsOf ga + colsOf gb := ⟨colsOf ga + colsOf gb - 1, by omega⟩
    have ec : (colsOf ga : Int) + (colsOf gb : Int) - 1 = (c : Int) := by omega
    by_cases hc8 : colsOf ga + colsOf gb ≤ 8
    · have HJ : Hid (JoinOk ga gb) := ⟨G0.out, hc8⟩
      have CM := Lib.hid (made_join F (F + 1) ga.length c (hJ ga gb) w2 hgl hgl2 (by omega) (by omega) (fun W i j hW hi hj => joinCl_any ga gb F a b i j W HS.out (BY1.out.block (hW.block F (by omega))) (BY2.out.block (hW.block (F + 1) (by omega))) (RA2.out.of_block (hW.block a RA2.out.lt)) (RB2.out.of_block (hW.block b RB2.out.lt)) hi (by omega))
        (fun i j hi hj => by
          unfold hJ
          split
          · exact HS.out.1.cell hi (by omega)
          · exact HS.out.2.1.cell (by have := HS.out.2.2; omega) (by omega)))
      rw [join_self HS.out c hc] at CM
      have hw2 : w.heap.size ≤ w2.heap.size := HB2.out.size
      go_wp2_with fail
      refine CM.out.mono ?_
      rintro e w5 ⟨v, rfl, hO, hb5⟩
      have HO := Lib.hid hO
      have HB5 := Lib.hid (HB2.out.trans (hb5.mono hw2))
      clear hO hb5
      go_wp2
      go_ret2
      exact ⟨v, by rw [decide_eq_true HJ.out]; first | done | rfl, by unfold joinAll; rw [if_pos HJ.out]; exact HO.out.mono hw2 (Nat.le_refl _), HB5.out⟩
    · have HJ : Hid (¬ JoinOk ga gb) := fun h => hc8 h.2
      have CM := Lib.hid (made_join_no F (F + 1) ga.length c w2 hgl hgl2 (by omega))
      go_wp2_with fail
      refine CM.out.mono ?_
      rintro e w5 ⟨rfl, rfl⟩
      go_wp2
      go_ret2
      exact ⟨_, by rw [decide_eq_false HJ.out]; first | done | rfl, by unfold joinAll; rw [if_neg HJ.out]; exact .inl ⟨rfl, none, 0, rfl, by omega⟩, HB2.out⟩
  · have e0 : (gapUpTo ga gb ga.length != 0) = true := by simp [h0]
    have hno : Hid (¬ JoinOk ga gb) := fun h => h0 (GV.out ▸ h.1)
    obtain ⟨x, hx⟩ : ∃ x, x = gapUpTo ga gb ga.length := ⟨_, rfl⟩
    rw [← hx] at e0 ⊢
    clear hx h0 gs bx1 bx2
    go_wp2
    go_ret2
    exact ⟨_, by rw [decide_eq_false hno.out]; first | done | rfl, by unfold joinAll; rw [if_neg hno.out]; exact .inl ⟨rfl, none, 0, rfl, by omega⟩, HB2.out⟩

set_option maxHeartbeats 2000000 in
set_option maxRecDepth 100000 in
theorem GridsJoin_any (va vb : Value) (ga gb : Rows) (w : World) (ha : Grid w va ga) (hb : Grid w vb gb) :
    Calls Try.prog 41 #[va, vb] w fun e w' => ∃ v, e = .returned (.tuple #[v, .bool (decide (JoinOk ga gb))]) ∧ OwnG w.heap.size w'.heap.size w' v (joinAll ga gb) ∧ Below w.heap.size w w' := by
  by_cases hs : Same ga gb
  · exact GridsJoin_same va vb ga gb w ha hb hs
  · have hno : Hid (¬ JoinOk ga gb) := fun h => hs (same_of_gap h.1)
    have C := Lib.hid (pairOf_no va vb ga gb w ha hb hs)
    clear ha hb hs
    go_enter Try.func41, Try.ntmps41
    go_wp2_with fail
    refine C.out.mono ?_
    rintro e w1 ⟨rfl, hbel⟩
    go_wp2
    go_ret2
    exact ⟨_, by rw [decide_eq_false hno.out]; first | done | rfl, by unfold joinAll; rw [if_neg hno.out]; exact .inl ⟨rfl, none, 0, rfl, by omega⟩, (hbel.alloc hbel.size _).alloc (by have := hbel.size; simp; omega) _⟩
end Go.Proofs.Ytebhbcjioolpeaa
