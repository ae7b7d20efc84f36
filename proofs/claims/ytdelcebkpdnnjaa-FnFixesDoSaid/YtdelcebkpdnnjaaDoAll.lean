/-
  Plain laws of editions and corrected cells, and contracts of the laws' cellsOf, heightOf, totalOf. Condition: the slices read as a grid and its corrections.
-/
import Derived.Test.YtdelcebkpdnnjaaCellsAll
import Derived.Test.YtdelcebkpdnnjaaBackOk
namespace Go.Proofs.Ytdelcebkpdnnjaa
open Go.RowKit Go.Deep Go.Sort

theorem at_step {g : Rows} {l : List Quad} (hg : GridOk g) {k : Nat} (hk : k < l.length) (hc : CanUp g l (k + 1)) {r c : Nat} (hr : r < g.length) (hcc : c < colsOf g) :
    at2 (doneUp g l (k + 1)) r c = if (l[k]?.getD q0).1 = (r : Int) ∧ (l[k]?.getD q0).2.1 = (c : Int) then (l[k]?.getD q0).2.2.2 else at2 (doneUp g l k) r c := by
  have d := doneUp_grid hg k (by omega) (hc.less (by omega))
  have cn := hc k (by omega)
  rw [doneUp_succ hk, put_at d.1 cn (by rw [d.2.1]; exact hr) (by rw [d.2.2]; exact hcc)]
  have n1 := cn.1
  have n2 := cn.2.2.1
  by_cases e : (l[k]?.getD q0).1 = (r : Int) ∧ (l[k]?.getD q0).2.1 = (c : Int)
  · rw [if_pos e, if_pos (by omega)]
  · rw [if_neg e, if_neg (by omega)]
theorem at_same {g : Rows} {l : List Quad} (hg : GridOk g) {r c : Nat} (hr : r < g.length) (hcc : c < colsOf g) : ∀ k, k ≤ l.length → CanUp g l k → (∀ j, j < k → ¬ ((l[j]?.getD q0).1 = (r : Int) ∧ (l[j]?.getD q0).2.1 = (c : Int))) → at2 (doneUp g l k) r c = at2 g r c := by
  intro k
  induction k with
  | zero => intro _ _ _; rw [doneUp_zero]
  | succ k ih =>
    intro hk hc hn
    rw [at_step hg (by omega) hc hr hcc, if_neg (hn k (by omega))]
    exact ih (by omega) (hc.less (by omega)) fun j hj => hn j (by omega)
theorem mem_diffs {ga gb : Rows} {q : Quad} : q ∈ diffsOf ga gb ↔ ∃ i j : Nat, i < ga.length ∧ j < colsOf ga ∧ at2 ga i j ≠ at2 gb i j ∧ q = ((i : Int), (j : Int), at2 ga i j, at2 gb i j) := by
  unfold diffsOf diffs rowDiff
  simp only [List.mem_flatMap, List.mem_range, List.mem_filterMap]
  constructor
  · rintro ⟨i, hi, j, hj, h⟩
    by_cases e : (ga[i]?.getD [])[j]?.getD 0 = (gb[i]?.getD [])[j]?.getD 0
    · rw [if_pos e] at h; cases h
    · rw [if_neg e] at h
      exact ⟨i, j, hi, hj, e, (Option.some.inj h).symm⟩
  · rintro ⟨i, j, hi, hj, e, rfl⟩
    exact ⟨i, hi, j, hj, if_neg e⟩
/-- a rising list inside a rising one is not longer -/
theorem asc_sub : ∀ b a : List Int, a.Pairwise (· < ·) → b.Pairwise (· < ·) → (∀ x, x ∈ a → x ∈ b) → a.length ≤ b.length
  | [], [], _, _, _ => Nat.le_refl _
  | [], x :: a, _, _, h => absurd (h x (List.mem_cons_self ..)) (by simp)
  | y :: b, [], _, _, _ => Nat.zero_le _
  | y :: b, x :: a, ha, hb, h => by
    have hb' := List.pairwise_cons.1 hb
    have ha' := List.pairwise_cons.1 ha
    by_cases e : x = y
    · subst e
      have := asc_sub b a ha'.2 hb'.2 fun z hz => by
        rcases List.mem_cons.1 (h z (List.mem_cons_of_mem _ hz)) with rfl | hz'
        · have := ha'.1 z hz; omega
        · exact hz'
      simp only [List.length_cons]; omega
    · have hxb : x ∈ b := (List.mem_cons.1 (h x (List.mem_cons_self ..))).resolve_left e
      have hyx := hb'.1 x hxb
      have := asc_sub b (x :: a) ha hb'.2 fun z hz => by
        rcases List.mem_cons.1 (h z hz) with rfl | hz'
        · rcases List.mem_cons.1 hz with e2 | hz2
          · exact absurd e2.symm e
          · have := ha'.1 z hz2; omega
        · exact hz'
      simp only [List.length_cons] at this ⊢; omega
/-- an edition differs where it was corrected -/
theorem diffs_in_cells {g : Rows} {l : List Quad} (h : EdOk g l) : (diffsOf g (edition g l)).length ≤ (cellsOut g l).length := by
  rw [cellsOut_yes h, show (diffsOf g (edition g l)).length = ((diffsOf g (edition g l)).map (idxQ (colsOf g))).length from (List.length_map ..).symm]
  have hm : ∀ q, q ∈ diffsOf g (edition g l) → ∃ i j : Nat, i < g.length ∧ j < colsOf g ∧ at2 g i j ≠ at2 (edition g l) i j ∧ q = ((i : Int), (j : Int), at2 g i j, at2 (edition g l) i j) := fun q hq => mem_diffs.1 hq
  refine asc_sub _ _ ?_ (cellsL_asc _).1 ?_
  · rw [List.pairwise_map]
    refine List.Pairwise.imp_of_mem ?_ (diffs_asc g (edition g l) g.length).1
    intro a b ha hb hab
    obtain ⟨i, j, hi, hj, _, rfl⟩ := hm a ha
    obtain ⟨i', j', hi', hj', _, rfl⟩ := hm b hb
    unfold CellLt at hab
    unfold idxQ
    simp only at hab ⊢
    have e3 : (i : Int) * (colsOf g : Int) = ((i * colsOf g : Nat) : Int) := by simp
    have e4 : (i' : Int) * (colsOf g : Int) = ((i' * colsOf g : Nat) : Int) := by simp
    rcases hab with h1 | ⟨h1, h2⟩
    · have := Nat.mul_le_mul_right (colsOf g) (show i + 1 ≤ i' by omega)
      rw [Nat.succ_mul] at this
      rw [e3, e4]; omega
    · rw [h1]; omega
  · intro x hx
    rw [List.mem_map] at hx
    obtain ⟨q, hq, rfl⟩ := hx
    obtain ⟨i, j, hi, hj, hne, rfl⟩ := hm q hq
    rw [(cellsL_asc _).2]
    refine Classical.byContradiction fun hno => hne ?_
    have := at_same h.1 hi hj l.length (Nat.le_refl _) h.2.2 fun k hk he => hno ?_
    · exact this.symm
    · rw [List.mem_map]
      refine ⟨l[k], List.getElem_mem hk, ?_⟩
      rw [getQ_eq hk] at he
      unfold idxQ
      rw [he.1, he.2]

/-- what a read matrix with a row holds -/
theorem GridB.open {B : Nat} {w : World} {v : Value} {g : Rows} (h : GridB B w v g) (hp : 0 < g.length) : ∃ b off cap, v = .slice (some ⟨b, off, none⟩) g.length cap ∧ g.length ≤ cap ∧ cap ≤ 9223372036854775807 ∧ b < B ∧
    ∀ k, k < g.length → ∃ a c, w.cell? ⟨b, off + k, none⟩ = some (.slice a (g[k]?.getD []).length c) ∧ (g[k]?.getD []).length ≤ c ∧ c ≤ 9223372036854775807 ∧ (0 < (g[k]?.getD []).length → ∃ b2 o2, a = some ⟨b2, o2, none⟩ ∧ b2 < B ∧ ∀ j, j < (g[k]?.getD []).length → w.cell? ⟨b2, o2 + j, none⟩ = some (.int .i64 ((g[k]?.getD [])[j]?.getD 0))) := by
  obtain ⟨a, cap, rfl, h1, h2, h3⟩ := h
  obtain ⟨b, off, rfl, hb, hc⟩ := h3 hp
  refine ⟨b, off, cap, rfl, h1, h2, hb, fun k hk => ?_⟩
  obtain ⟨r, hr, a2, c2, rfl, q1, q2, q3⟩ := hc k hk
  exact ⟨a2, c2, hr, q1, q2, q3⟩

/-- a cell's height in a read grid -/
theorem GridB.height {B : Nat} {w : World} {v : Value} {g : Rows} (h : GridB B w v g) (hg : GridOk g) {r c : Nat} (hr : r < g.length) (hc : c < colsOf g) : ∃ b off cap b2 o2 c2, v = .slice (some ⟨b, off, none⟩) g.length cap ∧ w.cell? ⟨b, off + r, none⟩ = some (.slice (some ⟨b2, o2, none⟩) (colsOf g) c2) ∧ w.cell? ⟨b2, o2 + c, none⟩ = some (.int .i64 (at2 g r c)) := by
  obtain ⟨b, off, cap, hv, _, _, _, H⟩ := h.open (by omega)
  obtain ⟨a, c2, h1, _, _, h2⟩ := H r hr
  have e := (hg.2.2.2.2 r hr).1
  rw [e] at h1 h2
  obtain ⟨b2, o2, rfl, _, h3⟩ := h2 (by omega)
  exact ⟨b, off, cap, b2, o2, c2, hv, h1, h3 c hc⟩
set_option maxHeartbeats 1000000 in
theorem cellsOf_any (v : Value) (g : Rows) (w : World) (h : Grid w v g) (hg : GridOk g) :
    Calls Try.prog 13 #[v] w fun e w' => e = .returned (.int .i64 ((g.length * colsOf g : Nat) : Int)) ∧ Below w.heap.size w w' := by
  obtain ⟨b1, o1, c1, hv1, _, _, k1, HC1⟩ := GridB.open h (by have := hg.1; omega)
  obtain ⟨p1, d1, x1, u1, u1', _⟩ := HC1 0 (by have := hg.1; omega)
  rw [(hg.2.2.2.2 0 (by have := hg.1; omega)).1] at x1 u1
  rw [Nat.add_zero] at x1
  subst hv1
  have hgl := hg.1
  have hgl2 := hg.2.1
  have hca := hg.2.2.1
  have hca2 := hg.2.2.2.1
  have hsm := small_cells hg
  have e0 : ((g.length * colsOf g : Nat) : Int) = (g.length : Int) * (colsOf g : Int) := by simp
  have e1 : 0 ≤ (g.length : Int) * (colsOf g : Int) ∧ (g.length : Int) * (colsOf g : Int) ≤ 49 := by rw [← e0]; omega
  have w1 := wrap_small (x := (g.length : Int) * (colsOf g : Int)) (by omega) (by omega)
  obtain ⟨n, hn⟩ : ∃ n, n = g.length := ⟨_, rfl⟩
  obtain ⟨c, hc⟩ : ∃ n, n = colsOf g := ⟨_, rfl⟩
  rw [← hn, ← hc] at w1
  rw [← hn] at hgl hgl2 ⊢
  rw [← hc] at hca x1 ⊢
  have n1 : (0 : Int) < (n : Int) := by omega
  have n2 : 0 < n := by omega
  clear HC1 h hg e0 e1 hsm hn hc
  go_enter Try.func13, Try.ntmps13
  go_wp2
  go_ret
  exact ⟨ret_int (by simp), below_n (Below.refl _ _) 0⟩

theorem nat7 {r : Nat} (h : r ≤ 7) : wrap64 (r : Int) = (r : Int) ∧ IntKind.i64.wrap (r : Int) = (r : Int) := ⟨by unfold wrap64; omega, wrap_small (by omega) (by omega)⟩
theorem cell_bound {g : Rows} (h : GridOk g) {n : Nat} (hn : n < g.length * colsOf g) : 0 ≤ cellOf g n ∧ cellOf g n ≤ 99 := by
  have h1 := h.2.2.1
  have hr : n / colsOf g < g.length := Nat.div_lt_of_lt_mul (by rw [Nat.mul_comm]; exact hn)
  have hc : n % colsOf g < colsOf g := Nat.mod_lt _ (by omega)
  exact at2_small h hr hc
theorem tot_up {g : Rows} (h : GridOk g) : ∀ n, n ≤ g.length * colsOf g → 0 ≤ totUp g n ∧ totUp g n ≤ 99 * (n : Int) := by
  intro n
  induction n with
  | zero => intro _; simp [totUp]
  | succ n ih =>
    intro hn
    have := ih (by omega)
    have := cell_bound h (show n < g.length * colsOf g by omega)
    rw [totUp]; omega
theorem tot_bound {g : Rows} (h : GridOk g) : 0 ≤ totOf g ∧ totOf g ≤ 4851 := by
  have := tot_up h _ (Nat.le_refl _)
  have := small_cells h
  unfold totOf; omega

set_option maxHeartbeats 1000000 in
set_option maxRecDepth 100000 in
theorem heightOf_any (v : Value) (g : Rows) (k : Nat) (w : World) (h : Grid w v g) (hg : GridOk g) (hk : k < g.length * colsOf g) :
    Calls Try.prog 75 #[v, .int .i64 (k : Int)] w fun e w' => e = .returned (.int .i64 (cellOf g k)) ∧ Below w.heap.size w w' := by
  have h1 := hg.2.2.1
  have hr : k / colsOf g < g.length := Nat.div_lt_of_lt_mul (by rw [Nat.mul_comm]; exact hk)
  have hc : k % colsOf g < colsOf g := Nat.mod_lt _ (by omega)
  have hsm := small_cells hg
  have hcl : colsOf g ≤ 7 := hg.2.2.2.1
  have hgl := hg.2.1
  obtain ⟨b, off, cap, hv, _, _, _, HC⟩ := GridB.open h (by have := hg.1; omega)
  obtain ⟨p0, d0, x0, _, _, _⟩ := HC 0 (by have := hg.1; omega)
  rw [(hg.2.2.2.2 0 (by have := hg.1; omega)).1, Nat.add_zero] at x0
  obtain ⟨p1, d1, x1, _, _, u1⟩ := HC _ hr
  have e := (hg.2.2.2.2 _ hr).1
  rw [e] at x1 u1
  obtain ⟨b2, o2, rfl, _, h3⟩ := u1 (by omega)
  have x3 := h3 _ hc
  subst hv
  have hr7' : k / colsOf g ≤ 7 := by omega
  obtain ⟨C, hC⟩ : ∃ n, n = colsOf g := ⟨_, rfl⟩
  obtain ⟨N, hN⟩ : ∃ n, n = g.length := ⟨_, rfl⟩
  obtain ⟨r, hr'⟩ : ∃ r, r = k / colsOf g := ⟨_, rfl⟩
  obtain ⟨c, hc'⟩ : ∃ r, r = k % colsOf g := ⟨_, rfl⟩
  obtain ⟨z, hz⟩ : ∃ z, z = cellOf g k := ⟨_, rfl⟩
  have hz2 : (g[k / colsOf g]?.getD [])[k % colsOf g]?.getD 0 = z := hz.symm
  rw [hz2] at x3
  rw [← hr'] at x1 hr
  have hr7 : r ≤ 7 := by rw [hr']; exact hr7'
  rw [← hc'] at hc x3
  have q2 : (k : Int) / (C : Int) = (r : Int) := by rw [hr', hC]; exact (Int.natCast_ediv _ _).symm
  have q3 : (k : Int) % (C : Int) = (c : Int) := by rw [hc', hC]; exact (Int.natCast_emod _ _).symm
  have q5 : (k : Int).tmod (C : Int) = (c : Int) := by rw [Int.tmod_eq_emod_of_nonneg (by omega)]; exact q3
  have q6 : (k : Int).tdiv (C : Int) = (r : Int) := by rw [Int.tdiv_eq_ediv_of_nonneg (by omega)]; exact q2
  rw [← hC] at x0 x1 hc h1
  rw [← hN] at hr ⊢
  have n2 : 0 < N := by omega
  have n1 : (0 : Int) < (N : Int) := by omega
  have hcz : ¬ C = 0 := by omega
  have hcz2 : ¬ (C : Int) = -1 := by omega
  have hcz3 : ¬ (C : Int) = 0 := by omega
  have q7 := (nat7 hr7).1
  have q8 := (nat7 hr7).2
  have q9 : (r : Int) < (N : Int) := Int.ofNat_lt.2 hr
  have q10 : (c : Int) < (C : Int) := Int.ofNat_lt.2 hc
  have ZH := Lib.hid hz
  clear HC h hg hk hr' hc' h3 e hC hN hz hz2 hsm q2 q3
  go_enter Try.func75, Try.ntmps75
  go_wp2
  go_quiet (fail)
  go_wp2
  go_ret
  exact ⟨ret_int ZH.out, below_n (Below.refl _ _) _⟩

set_option maxHeartbeats 1000000 in
set_option maxRecDepth 100000 in
theorem totalOf_any (v : Value) (g : Rows) (w : World) (h : Grid w v g) (hg : GridOk g) :
    Calls Try.prog 43 #[v] w fun e w' => e = .returned (.int .i64 (totOf g)) ∧ Below w.heap.size w w' := by
  have HG := Lib.hid (show GridB w.heap.size w v g from h)
  have HK := Lib.hid hg
  have hsm := small_cells hg
  obtain ⟨N, hN⟩ : ∃ n, n = g.length * colsOf g := ⟨_, rfl⟩
  have HN := Lib.hid hN
  rw [← hN] at hsm
  have s0 := Nat.le_refl w.heap.size
  clear hN h hg
  go_enter Try.func43, Try.ntmps43
  go_wp2_with fail
  go_loopw [3, 4] (fun n i wr => ∃ k : Nat, k ≤ N ∧ i = .int .i64 k ∧ n = .int .i64 (totUp g k) ∧ Below w.heap.size w wr) (fun _ i _ => N - (intOf i).toNat)
  case atStart => exact ⟨0, Nat.zero_le _, rfl, rfl, Below.refl _ _⟩
  case round =>
    obtain ⟨k, hk, rfl, rfl, hbel⟩ := hrel
    have HB := Lib.hid hbel
    have hs := hbel.size
    clear hbel
    go_wp2_with fail
    refine (cellsOf_any v g _ ((HG.out.below HB.out (Nat.le_refl _)).grid (by omega)) HK.out).mono ?_
    rintro e w1 ⟨rfl, hb1⟩
    have HB1 := Lib.hid (HB.out.trans (hb1.mono (by omega)))
    have hs1 := hb1.size
    rw [← HN.out]
    clear hb1
    have tu := tot_up HK.out k (by rw [← HN.out]; exact hk)
    by_cases hlt : k < N
    · have hlt' : (k : Int) < (N : Int) := by omega
      have cb := cell_bound HK.out (show k < _ by rw [← HN.out]; exact hlt)
      have TS := Lib.hid (show totUp g (k + 1) = totUp g k + cellOf g k from rfl)
      obtain ⟨t, ht⟩ : ∃ t, t = totUp g k := ⟨_, rfl⟩
      obtain ⟨z, hz⟩ : ∃ t, t = cellOf g k := ⟨_, rfl⟩
      rw [← ht] at tu TS ⊢
      rw [← hz] at cb TS
      have HZ := Lib.hid hz
      have wz := wrap_small (x := t + z) (by omega) (by omega)
      clear ht hz
      go_wp2_with fail
      refine (heightOf_any v g k _ ((HG.out.below HB1.out (Nat.le_refl _)).grid (by omega)) HK.out (by rw [← HN.out]; exact hlt)).mono ?_
      rintro e w2 ⟨rfl, hb2⟩
      rw [← HZ.out]
      have HB2 := Lib.hid (HB1.out.trans (hb2.mono (by omega)))
      clear hb2
      go_wp2_with fail
      go_roundw
      case rel => exact ⟨k + 1, by omega, by go_num, by rw [TS.out], HB2.out⟩
      case measure => simp [intOf]; omega
    · have hlt' : ¬ (k : Int) < (N : Int) := by omega
      obtain rfl : k = N := by omega
      have TT := Lib.hid (show totOf g = totUp g k by rw [HN.out]; rfl)
      obtain ⟨t, ht⟩ : ∃ t, t = totUp g k := ⟨_, rfl⟩
      rw [← ht] at TT ⊢
      clear ht
      go_wp2_with fail
      go_ret
      exact ⟨ret_int TT.out.symm, HB1.out⟩
end Go.Proofs.Ytdelcebkpdnnjaa
