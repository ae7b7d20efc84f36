/-
  Contracts of the laws' small functions on corrections: copy, compare, mark, check of the marks. Conditions: lengths up to 2^40.
-/
import Derived.Test.YtdelcebkpdnnjaaQuad
import Derived.Deep.RegionWith
import Derived.StillTailTactics
namespace Go.Proofs.Ytdelcebkpdnnjaa
open Go.RowKit Go.Deep

theorem al {w w1 : World} (h : Below w.heap.size w w1) (o : Obj) : Below w.heap.size w (w1.alloc o) := h.alloc h.size o

theorem info_fix : (Try.prog.info? 41).map (fun i => (i.zero, i.size, i.bytes)) = some (some (.agg #[.int .i64 0, .int .i64 0, .int .i64 0, .int .i64 0]), 4, 32) := by kernel_rfl

set_option maxHeartbeats 400000 in
theorem toFix_any (q : Quad) (w : World) :
    Calls Try.prog 68 #[qv q] w fun e w' => e = .returned (qv q) ∧ Below w.heap.size w w' := by
  go_enter Try.func68, Try.ntmps68
  go_wp2
  exact bodyPost_ret (v := .agg #[.int .i64 q.1, .int .i64 q.2.1, .int .i64 q.2.2.1, .int .i64 q.2.2.2]) (by simp [results, Try.results68, go_sem]) rfl ⟨rfl, al (al (al (Below.refl _ _) _) _) _⟩

theorem quad_ne {p q : Quad} (h : p ≠ q) : p.1 ≠ q.1 ∨ (p.1 = q.1 ∧ p.2.1 ≠ q.2.1) ∨ (p.1 = q.1 ∧ p.2.1 = q.2.1 ∧ p.2.2.1 ≠ q.2.2.1) ∨ (p.1 = q.1 ∧ p.2.1 = q.2.1 ∧ p.2.2.1 = q.2.2.1 ∧ p.2.2.2 ≠ q.2.2.2) := by
  obtain ⟨a, b, c, d⟩ := p
  obtain ⟨a', b', c', d'⟩ := q
  simp only [ne_eq, Prod.mk.injEq] at h ⊢
  omega

set_option maxHeartbeats 400000 in
theorem eqFix_any (p q : Quad) (w : World) :
    Calls Try.prog 69 #[qv p, qv q] w fun e w' => e = .returned (.bool (decide (p = q))) ∧ Below w.heap.size w w' := by
  by_cases h : p = q
  · subst h
    have e1 : (p.1 != p.1) = false := by simp
    have e2 : (p.2.1 != p.2.1) = false := by simp
    have e3 : (p.2.2.1 != p.2.2.1) = false := by simp
    have e4 : (p.2.2.2 != p.2.2.2) = false := by simp
    go_enter Try.func69, Try.ntmps69
    go_wp2
    go_ret
    exact ⟨ret_bool (by simp), al (al (Below.refl _ _) _) _⟩
  · have HD := Lib.hid (decide_eq_false h)
    rcases quad_ne h with n1 | ⟨n1, n2⟩ | ⟨n1, n2, n3⟩ | ⟨n1, n2, n3, n4⟩
    · have e1 : (p.1 != q.1) = true := by simp [n1]
      clear h n1
      go_enter Try.func69, Try.ntmps69
      go_wp2
      go_ret
      exact ⟨ret_bool HD.out.symm, al (al (Below.refl _ _) _) _⟩
    · have e1 : (p.1 != q.1) = false := by simp [n1]
      have e2 : (p.2.1 != q.2.1) = true := by simp [n2]
      clear h n1 n2
      go_enter Try.func69, Try.ntmps69
      go_wp2
      go_ret
      exact ⟨ret_bool HD.out.symm, al (al (Below.refl _ _) _) _⟩
    · have e1 : (p.1 != q.1) = false := by simp [n1]
      have e2 : (p.2.1 != q.2.1) = false := by simp [n2]
      have e3 : (p.2.2.1 != q.2.2.1) = true := by simp [n3]
      clear h n1 n2 n3
      go_enter Try.func69, Try.ntmps69
      go_wp2
      go_ret
      exact ⟨ret_bool HD.out.symm, al (al (Below.refl _ _) _) _⟩
    · have e1 : (p.1 != q.1) = false := by simp [n1]
      have e2 : (p.2.1 != q.2.1) = false := by simp [n2]
      have e3 : (p.2.2.1 != q.2.2.1) = false := by simp [n3]
      have e4 : (p.2.2.2 != q.2.2.2) = true := by simp [n4]
      clear h n1 n2 n3 n4
      go_enter Try.func69, Try.ntmps69
      go_wp2
      go_ret
      exact ⟨ret_bool HD.out.symm, al (al (Below.refl _ _) _) _⟩

/-- the cells that a make of n structs lays -/
def zeros4 : Array Value := #[.int .i64 0, .int .i64 0, .int .i64 0, .int .i64 0]
theorem run_make_corrections (n : Nat) (hn : n ≤ 1099511627776) (w : World) :
    (Instr.makeSlice 24 (.int .i64 (n : Int)) (.int .i64 (n : Int))).run Try.prog w = .ok (.slice (some ⟨w.heap.size, 0, none⟩) n n) (w.alloc (.cells (madeCells zeros4 (n * 4)) 41)) := by
  obtain ⟨i0, hi, hz0, hz1, hz2⟩ := info_parts info_fix
  have hr := run_make (P := Try.prog) w 24 41 i0 _ Try.underlying24 hi hz0 .i64 .i64 n n (by omega) (Int.le_refl _) (by rw [hz2]; omega) (by omega)
  simp only [Int.toNat_natCast, hz1] at hr
  exact hr
theorem rowIs_zeros (w : World) (n : Nat) (t : TypeId) : (w.alloc (.cells (madeCells zeros4 (n * 4)) t)).rowIs w.heap.size t (n * 4) (fun _ => .int .i64 0) :=
  ⟨_, heap_alloc_new w _, size_madeCells _ _, fun i hi => by
    have e0 : (madeCells zeros4 (n * 4))[i]? = some (zeros4[i % 4]!) := by simp [madeCells, hi, zeros4]
    rw [e0]
    rcases (show i % 4 = 0 ∨ i % 4 = 1 ∨ i % 4 = 2 ∨ i % 4 = 3 by omega) with e | e | e | e <;> rw [e] <;> rfl⟩

set_option maxHeartbeats 400000 in
theorem toFixS_any (v : Value) (l : List Quad) (w : World) (h : Quads w v l) (hn : l.length ≤ 1099511627776) :
    Calls Try.prog 25 #[v] w fun e w' => ∃ v', e = .returned v' ∧ OwnQ w.heap.size w'.heap.size w' v' l ∧ Below w.heap.size w w' := by
  obtain ⟨a, cap, rfl, hc1, hc2, hc3⟩ := h
  have hmk := run_make_corrections l.length hn
  go_enter Try.func25, Try.ntmps25
  go_wp2
  go_loopw [4] (fun i wr => ∃ k : Nat, k ≤ l.length ∧ i = .int .i64 k ∧ (∃ f, wr.rowIs w.heap.size 41 (l.length * 4) f ∧ ∀ j, j < k → QIs f (j * 4) (l[j]?.getD q0)) ∧ Below w.heap.size w wr) (fun i _ => l.length - (intOf i).toNat)
  case atStart => exact ⟨0, Nat.zero_le _, rfl, ⟨_, rowIs_zeros w l.length _, fun j hj => by omega⟩, (Below.refl _ _).alloc (Nat.le_refl _) _⟩
  case round =>
    obtain ⟨k, hk, rfl, ⟨f, hrow, hf⟩, hbel⟩ := hrel
    by_cases hlt : k < l.length
    · obtain ⟨b, off, rfl, hb, hcell⟩ := hc3 (by omega)
      obtain ⟨c0, c1, c2, c3⟩ := (hcell k hlt).below hbel hb
      rw [getQ_eq hlt] at c0 c1 c2 c3
      have hs := hbel.size
      have hlt' := hrow.lt
      have HF := Lib.hid hf
      have HR := Lib.hid hrow
      have HQ := Lib.hid (getQ_eq hlt)
      obtain ⟨q, hq⟩ : ∃ q, q = l[k] := ⟨_, rfl⟩
      rw [← hq] at c0 c1 c2 c3 HQ
      clear hrow hc3 hcell hf hq hmk
      go_wp2_with fail
      refine (toFix_any q _).mono ?_
      rintro e w1 ⟨rfl, hb1⟩
      have hr1 := HR.out.of_block (hb1.block _ hlt')
      have g0 := hr1.cell (i := k * 4) (by omega)
      have g1 := hr1.cell (i := k * 4 + 1) (by omega)
      have g2 := hr1.cell (i := k * 4 + 2) (by omega)
      have g3 := hr1.cell (i := k * 4 + 3) (by omega)
      have f0 := hr1.frozen (k * 4)
      have f1 := hr1.frozen (k * 4 + 1)
      have f2 := hr1.frozen (k * 4 + 2)
      have f3 := hr1.frozen (k * 4 + 3)
      have HB := Lib.hid (hbel.trans (hb1.mono hs))
      have HR1 := Lib.hid (rowIs_setQ (o := k * 4) hr1 q)
      clear hr1 hbel hb1
      go_wp2
      go_roundw
      case rel =>
        refine ⟨k + 1, by omega, by go_num, ⟨_, HR1.out, fun j hj => ?_⟩, (((HB.out.setCell (Nat.le_refl _) _).setCell (Nat.le_refl _) _).setCell (Nat.le_refl _) _).setCell (Nat.le_refl _) _⟩
        by_cases e : j = k
        · subst e; rw [HQ.out]; exact QIs_set _ _ _
        · exact QIs_other (HF.out j (by omega)) (by omega)
      case measure => simp [intOf]; omega
    · go_wp2
      go_ret
      obtain rfl : k = l.length := by omega
      exact ⟨_, rfl, ownQ_of_row hrow (Nat.le_refl _) hf (Nat.le_refl _) hrow.lt (Nat.le_refl _) (by omega), hbel⟩

set_option maxHeartbeats 400000 in
set_option maxRecDepth 100000 in
theorem eqFixS_any (va vb : Value) (la lb : List Quad) (w : World) (ha : Quads w va la) (hb : Quads w vb lb) :
    Calls Try.prog 26 #[va, vb] w fun e w' => e = .returned (.bool (decide (la = lb))) ∧ Below w.heap.size w w' := by
  obtain ⟨a, ca, rfl, ha1, ha2, ha3⟩ := ha
  obtain ⟨b, cb, rfl, hb1, hb2, hb3⟩ := hb
  by_cases hlen : la.length = lb.length
  · have hlt' : ((la.length : Int) != (lb.length : Int)) = false := by simp [hlen]
    have HL := Lib.hid hlen
    clear hlen
    go_enter Try.func26, Try.ntmps26
    go_wp2
    go_loopw [5] (fun i wr => ∃ k : Nat, k ≤ la.length ∧ i = .int .i64 k ∧ Below w.heap.size w wr ∧ ∀ j, j < k → la[j]?.getD q0 = lb[j]?.getD q0) (fun i _ => la.length - (intOf i).toNat)
    case atStart => exact ⟨0, Nat.zero_le _, rfl, Below.refl _ _, fun j hj => by omega⟩
    case round =>
      obtain ⟨k, hk, rfl, hbel, hsame⟩ := hrel
      have HS := Lib.hid hsame
      clear hsame
      by_cases hlt : k < la.length
      · obtain ⟨b1, off1, rfl, hb1', hcell1⟩ := ha3 (by omega)
        obtain ⟨b2, off2, rfl, hb2', hcell2⟩ := hb3 (by have := HL.out; omega)
        have hl2 : k < lb.length := by have := HL.out; omega
        obtain ⟨c0, c1, c2, c3⟩ := (hcell1 k hlt).below hbel hb1'
        obtain ⟨d0, d1, d2, d3⟩ := (hcell2 k hl2).below hbel hb2'
        rw [getQ_eq hlt] at c0 c1 c2 c3
        rw [getQ_eq hl2] at d0 d1 d2 d3
        have HB := Lib.hid hbel
        have hs := hbel.size
        have E1 := Lib.hid (getQ_eq hlt)
        have E2 := Lib.hid (getQ_eq hl2)
        obtain ⟨p, hp⟩ : ∃ p, p = la[k] := ⟨_, rfl⟩
        obtain ⟨q, hq⟩ : ∃ q, q = lb[k] := ⟨_, rfl⟩
        rw [← hp] at c0 c1 c2 c3 E1
        rw [← hq] at d0 d1 d2 d3 E2
        clear hcell1 hcell2 ha3 hb3 hbel hp hq
        go_wp2
        go_still_tail 8, (by kernel_rfl)
        change wpList _ _ _ _ _ wr.drew
        go_wp2_with fail
        refine (eqFix_any p q _).mono ?_
        rintro e w1 ⟨rfl, hb1⟩
        have HB1 := Lib.hid (HB.out.drew.trans (hb1.mono hs))
        clear hb1
        by_cases he : p = q
        · subst he
          rw [decide_eq_true rfl]
          go_wp2
          go_roundw
          case rel =>
            refine ⟨k + 1, by omega, by go_num, HB1.out, fun j hj => ?_⟩
            by_cases e : j = k
            · subst e; rw [E1.out, E2.out]
            · exact HS.out j (by omega)
          case measure => simp [intOf]; omega
        · rw [decide_eq_false he]
          have HE := Lib.hid he
          clear he
          go_wp2
          go_ret
          exact ⟨ret_bool (decide_eq_false fun h => HE.out (by rw [← E1.out, ← E2.out, h])).symm, HB1.out⟩
      · go_wp2
        go_ret
        exact ⟨ret_bool (decide_eq_true (listQ_eq HL.out (fun j hj => HS.out j (by omega)))).symm, hbel⟩
  · have hlt' : ((la.length : Int) != (lb.length : Int)) = true := by simp; omega
    have HL := Lib.hid hlen
    clear hlen
    go_enter Try.func26, Try.ntmps26
    go_wp2
    go_ret
    exact ⟨ret_bool (decide_eq_false fun h => HL.out (by rw [h])).symm, Below.refl _ _⟩

/-- the structs that a mark beginning with k writes -/
def marksQ (k : Int) (n : Nat) : List Quad := (List.range n).map (fun i : Nat => (k + 4 * (i : Int), k + 4 * (i : Int) + 1, k + 4 * (i : Int) + 1 + 1, k + 4 * (i : Int) + 1 + 1 + 1))
theorem marksQ_length (k : Int) (n : Nat) : (marksQ k n).length = n := by simp [marksQ]
theorem marksQ_get (k : Int) (n j : Nat) (h : j < n) : (marksQ k n)[j]?.getD q0 = (k + 4 * (j : Int), k + 4 * (j : Int) + 1, k + 4 * (j : Int) + 1 + 1, k + 4 * (j : Int) + 1 + 1 + 1) := by simp [marksQ, h]

set_option maxHeartbeats 400000 in
set_option maxRecDepth 100000 in
theorem markFixS_any (v : Value) (l : List Quad) (k0 : Int) (lo hi : Nat) (w : World) (h : OwnQ lo hi w v l) (hn : l.length ≤ 1099511627776) (h0 : 0 ≤ k0) (h1 : k0 ≤ 1152921504606846976) :
    Calls Try.prog 29 #[v, .int .i64 k0] w fun e w' => e = .returned (.int .i64 (k0 + 4 * (l.length : Int))) ∧ OwnQ lo hi w' v (marksQ k0 l.length) ∧ Touch lo hi w w' := by
  rcases h with ⟨rfl, a, cap, rfl, hcap⟩ | ⟨b, off, cap, t, n, f, rfl, hc1, hc2, hlo, hhi, hrow, hlen, hf⟩
  · go_enter Try.func29, Try.ntmps29
    go_wp2
    refine wp_loop_rounds 1 ?_
    rw [rounds_succ]
    go_wp2
    go_ret
    exact ⟨ret_int (by simp), .inl ⟨rfl, a, cap, rfl, hcap⟩, Touch.refl _ _ _⟩
  · go_enter Try.func29, Try.ntmps29
    go_wp2
    go_loopw [1, 5] (fun q i wr => ∃ k : Nat, k ≤ l.length ∧ i = .int .i64 k ∧ q = .int .i64 (k0 + 4 * (k : Int)) ∧ (∃ g, wr.rowIs b t n g ∧ ∀ j, j < k → QIs g (off + j * 4) (k0 + 4 * (j : Int), k0 + 4 * (j : Int) + 1, k0 + 4 * (j : Int) + 1 + 1, k0 + 4 * (j : Int) + 1 + 1 + 1)) ∧ Touch lo hi w wr) (fun _ i _ => l.length - (intOf i).toNat)
    case atStart => exact ⟨0, Nat.zero_le _, rfl, by simp, ⟨f, hrow, fun j hj => by omega⟩, Touch.refl _ _ _⟩
    case round =>
      obtain ⟨k, hk, rfl, rfl, ⟨g, hg, hgv⟩, ht⟩ := hrel
      by_cases hlt : k < l.length
      · have d0 := hg.cell (i := off + k * 4) (by omega)
        have d1 := hg.cell (i := off + k * 4 + 1) (by omega)
        have d2 := hg.cell (i := off + k * 4 + 2) (by omega)
        have d3 := hg.cell (i := off + k * 4 + 3) (by omega)
        have f0 := hg.frozen (off + k * 4)
        have f1 := hg.frozen (off + k * 4 + 1)
        have f2 := hg.frozen (off + k * 4 + 2)
        have f3 := hg.frozen (off + k * 4 + 3)
        have HG := Lib.hid (rowIs_setQ (o := off + k * 4) hg (k0 + 4 * (k : Int), k0 + 4 * (k : Int) + 1, k0 + 4 * (k : Int) + 1 + 1, k0 + 4 * (k : Int) + 1 + 1 + 1))
        have HV := Lib.hid hgv
        have HT := Lib.hid ht
        obtain ⟨u0, hu0⟩ : ∃ u, u = g (off + k * 4) := ⟨_, rfl⟩
        obtain ⟨u1, hu1⟩ : ∃ u, u = g (off + k * 4 + 1) := ⟨_, rfl⟩
        obtain ⟨u2, hu2⟩ : ∃ u, u = g (off + k * 4 + 2) := ⟨_, rfl⟩
        obtain ⟨u3, hu3⟩ : ∃ u, u = g (off + k * 4 + 3) := ⟨_, rfl⟩
        rw [← hu0] at d0
        rw [← hu1] at d1
        rw [← hu2] at d2
        rw [← hu3] at d3
        clear hg hgv hrow hf ht hu0 hu1 hu2 hu3
        go_wp2
        go_roundw
        case rel =>
          have hr := HG.out
          simp only at hr
          refine ⟨k + 1, by omega, by go_num, by go_num, ⟨_, hr, fun j hj => ?_⟩, (((HT.out.setCell hlo hhi _).setCell hlo hhi _).setCell hlo hhi _).setCell hlo hhi _⟩
          by_cases e : j = k
          · subst e; exact QIs_set _ _ _
          · exact QIs_other (HV.out j (by omega)) (by omega)
        case measure => simp [intOf]; omega
      · go_wp2
        go_ret
        obtain rfl : k = l.length := by omega
        have hml := marksQ_length k0 l.length
        refine ⟨rfl, .inr ⟨b, off, cap, t, n, g, by rw [hml], by omega, hc2, hlo, hhi, hg, by omega, fun j hj => ?_⟩, ht⟩
        rw [marksQ_get _ _ _ (by omega)]
        exact hgv j (by omega)

set_option maxHeartbeats 400000 in
set_option maxRecDepth 100000 in
theorem heldFixS_any (v : Value) (k0 : Int) (m : Nat) (w : World) (h : Quads w v (marksQ k0 m)) (hn : m ≤ 1099511627776) (h0 : 0 ≤ k0) (h1 : k0 ≤ 1152921504606846976) :
    Calls Try.prog 30 #[v, .int .i64 k0] w fun e w' => e = .returned (.int .i64 (k0 + 4 * (m : Int))) ∧ Below w.heap.size w w' := by
  obtain ⟨a, cap, rfl, hc1, hc2, hc3⟩ := h
  rw [marksQ_length] at hc1 hc3 ⊢
  go_enter Try.func30, Try.ntmps30
  go_wp2
  go_loop [1, 5] (fun q i => ∃ k : Nat, k ≤ m ∧ i = .int .i64 k ∧ q = .int .i64 (k0 + 4 * (k : Int))) (fun _ i => m - (intOf i).toNat)
  case atStart => exact ⟨0, Nat.zero_le _, rfl, by simp⟩
  case round =>
    obtain ⟨k, hk, rfl, rfl⟩ := hrel
    by_cases hlt : k < m
    · obtain ⟨b, off, rfl, hb, hcell⟩ := hc3 (by omega)
      obtain ⟨c0, c1, c2, c3⟩ := hcell k hlt
      rw [marksQ_get _ _ _ hlt] at c0 c1 c2 c3
      have e0 : (k0 + 4 * (k : Int) != k0 + 4 * (k : Int)) = false := by simp
      have e1 : (k0 + 4 * (k : Int) + 1 != k0 + 4 * (k : Int) + 1) = false := by simp
      have e2 : (k0 + 4 * (k : Int) + 1 + 1 != k0 + 4 * (k : Int) + 1 + 1) = false := by simp
      have e3 : (k0 + 4 * (k : Int) + 1 + 1 + 1 != k0 + 4 * (k : Int) + 1 + 1 + 1) = false := by simp
      clear hcell hc3
      go_wp2
      go_round
      case rel => exact ⟨k + 1, by omega, by go_num, by go_num⟩
      case measure => simp [intOf]; omega
    · go_wp2
      go_ret
      obtain rfl : k = m := by omega
      exact ⟨rfl, Below.refl _ _⟩
end Go.Proofs.Ytdelcebkpdnnjaa
