/-
  FnFixesAre: for all arguments the law returns true and leaves what was there as it was. No condition.
-/
import Derived.Test.YtdelcebkpdnnjaaBothD
import Derived.Test.YtdelcebkpdnnjaaClash
import Derived.Test.YtdelcebkpdnnjaaSame
import Derived.Test.YtdelcebkpdnnjaaCellsAll
import Derived.Test.YtdelcebkpdnnjaaFacts
import Derived.ProofKit
import Derived.OpenShut
import Derived.ShutString
import Derived.ChangeOld
import Derived.Below
import Derived.Test.YtdelcebkpdnnjaaFacts
import Derived.ProofKit
import Derived.OpenShut
import Derived.ShutString
import Derived.ChangeOld
import Derived.Below
namespace Go.Proofs.Ytdelcebkpdnnjaa
open Go.RowKit Go.Deep

set_option maxHeartbeats 2000000 in
theorem sameFixes_any (va vb : Value) (la lb : List Quad) (w : World) (ha : Quads w va la) (hb : Quads w vb lb) :
    Calls Try.prog 19 #[va, vb] w fun e w' => e = .returned (.bool (decide (la = lb))) ∧ Below w.heap.size w w' := by
  obtain ⟨a, ca, rfl, ha1, ha2, ha3⟩ := ha
  obtain ⟨b, cb, rfl, hb1, hb2, hb3⟩ := hb
  by_cases hlen : la.length = lb.length
  · have hlt' : ((la.length : Int) != (lb.length : Int)) = false := by simp [hlen]
    have HL := Lib.hid hlen
    clear hlen
    go_enter Try.func19, Try.ntmps19
    go_wp2_with fail
    go_loopw [5] (fun i wr => ∃ k n : Nat, k ≤ la.length ∧ i = .int .i64 k ∧ wr = w.drewN n ∧ ∀ j, j < k → la[j]?.getD q0 = lb[j]?.getD q0) (fun i _ => la.length - (intOf i).toNat)
    case atStart => exact ⟨0, 0, Nat.zero_le _, rfl, rfl, fun j hj => by omega⟩
    case round =>
      obtain ⟨k, n, hk, rfl, rfl, hsame⟩ := hrel
      have HS := Lib.hid hsame
      clear hsame
      by_cases hlt : k < la.length
      · obtain ⟨b1, off1, rfl, hb1', hcell1⟩ := ha3 (by omega)
        obtain ⟨b2, off2, rfl, hb2', hcell2⟩ := hb3 (by have := HL.out; omega)
        have hl2 : k < lb.length := by have := HL.out; omega
        obtain ⟨c0, c1, c2, c3⟩ := hcell1 k hlt
        obtain ⟨d0, d1, d2, d3⟩ := hcell2 k hl2
        clear hcell1 hcell2 ha3 hb3
        obtain ⟨p, hp⟩ : ∃ p, p = la[k]?.getD q0 := ⟨_, rfl⟩
        obtain ⟨q, hq⟩ : ∃ q, q = lb[k]?.getD q0 := ⟨_, rfl⟩
        rw [← hp] at c0 c1 c2 c3
        rw [← hq] at d0 d1 d2 d3
        have HP := Lib.hid hp
        have HQ := Lib.hid hq
        clear hp hq
        by_cases he : p = q
        · have heq : ∀ W, (Op.equalIn 10000 41 (qv p) (qv q)).run Try.prog W = .ok true W := by rw [he]; exact eq_fix_yes q
          have HE := Lib.hid he
          clear he
          go_wp2_with fail
          go_quiet (fail)
          go_wp2_with fail
          go_roundw
          case rel =>
            refine ⟨k + 1, n + nq, by omega, by go_num, rfl, fun j hj => ?_⟩
            by_cases e : j = k
            · subst e; rw [← HP.out, ← HQ.out]; exact HE.out
            · exact HS.out j (by omega)
          case measure => simp [intOf]; omega
        · have heq := eq_fix_no p q he
          have HE := Lib.hid he
          clear he
          go_wp2_with fail
          go_quiet (fail)
          go_wp2_with fail
          go_ret
          exact ⟨ret_bool (decide_eq_false fun h => HE.out (by rw [HP.out, HQ.out, h])).symm, by rw [World.drewN_drewN]; exact below_n (Below.refl _ _) _⟩
      · go_wp2_with fail
        go_ret
        exact ⟨ret_bool (decide_eq_true (listQ_eq HL.out (fun j hj => HS.out j (by omega)))).symm, below_n (Below.refl _ _) _⟩
  · have hlt' : ((la.length : Int) != (lb.length : Int)) = true := by simp; omega
    have HL := Lib.hid hlen
    clear hlen
    go_enter Try.func19, Try.ntmps19
    go_wp2_with fail
    go_ret
    exact ⟨ret_bool (decide_eq_false fun h => HL.out (by rw [h])).symm, Below.refl _ _⟩
theorem asc_lt {l : List Quad} (h : AscUp l l.length) {i : Nat} : ∀ j, i < j → j < l.length → CellLt (l[i]?.getD q0) (l[j]?.getD q0) := by
  intro j
  induction j with
  | zero => intro h0; omega
  | succ j ih =>
    intro h1 h2
    have s := h j h2
    by_cases e : i = j
    · subst e; exact s
    · have := ih (by omega) (by omega)
      unfold CellLt at this s ⊢
      omega
theorem at_step {g : Rows} {l : List Quad} (hg : GridOk g) {k : Nat} (hk : k < l.length) (hc : CanUp g l (k + 1)) {r c : Nat} (hr : r < g.length) (hcc : c < colsOf g) :
    at2 (doneUp g l (k + 1)) r c = if (l[k]?.getD q0).1 = (r : Int) ∧ (l[k]?.getD q0).2.1 = (c : Int) then (l[k]?.getD q0).2.2.2 else at2 (doneUp g l k) r c := by
  have d := doneUp_grid hg k (by omega) (hc.less (by omega))
  have cn := hc k (by omega)
  rw [doneUp_succ hk, put_at d.1 cn (by rw [d.2.1]; exact hr) (by rw [d.2.2]; exact hcc)]
  have n1 := cn.1
  have n2 := cn.2.2.1
  by_cases e : (l[k]?.getD q0).1 = (r : Int) ∧ (l[k]?.getD q0).2.1 = (c : Int)
  · rw [if_pos e, if_pos (by omega)]
  · rw [if_neg e, if_neg (by omega)]
theorem at_same {g : Rows} {l : List Quad} (hg : GridOk g) {r c : Nat} (hr : r < g.length) (hcc : c < colsOf g) : ∀ k, k ≤ l.length → CanUp g l k → (∀ j, j < k → ¬ ((l[j]?.getD q0).1 = (r : Int) ∧ (l[j]?.getD q0).2.1 = (c : Int))) → at2 (doneUp g l k) r c = at2 g r c := by
  intro k
  induction k with
  | zero => intro _ _ _; rw [doneUp_zero]
  | succ k ih =>
    intro hk hc hn
    rw [at_step hg (by omega) hc hr hcc, if_neg (hn k (by omega))]
    exact ih (by omega) (hc.less (by omega)) fun j hj => hn j (by omega)
theorem at_new {g : Rows} {l : List Quad} (hg : GridOk g) {r c m : Nat} (hr : r < g.length) (hcc : c < colsOf g) (hm : (l[m]?.getD q0).1 = (r : Int) ∧ (l[m]?.getD q0).2.1 = (c : Int)) : ∀ k, m < k → k ≤ l.length → CanUp g l k → (∀ j, m < j → j < k → ¬ ((l[j]?.getD q0).1 = (r : Int) ∧ (l[j]?.getD q0).2.1 = (c : Int))) → at2 (doneUp g l k) r c = (l[m]?.getD q0).2.2.2 := by
  intro k
  induction k with
  | zero => intro h; omega
  | succ k ih =>
    intro h1 hk hc hn
    rw [at_step hg (by omega) hc hr hcc]
    by_cases e : m = k
    · subst e; rw [if_pos hm]
    · rw [if_neg (hn k (by omega) (by omega))]
      exact ih (by omega) (by omega) (hc.less (by omega)) fun j h2 h3 => hn j h2 (by omega)
/-- a short correction's heights are those of its cell -/
theorem are_at {g : Rows} {l : List Quad} (h : AreOk g l) {m : Nat} (hm : m < l.length) : ∃ r c : Nat, r < g.length ∧ c < colsOf g ∧ (l[m]?.getD q0).1 = (r : Int) ∧ (l[m]?.getD q0).2.1 = (c : Int) ∧ (l[m]?.getD q0).2.2.1 = at2 g r c ∧ at2 (edition g l) r c = (l[m]?.getD q0).2.2.2 := by
  have cn := h.1.2.2 m hm
  have d := doneUp_grid h.1.1 m (by omega) (h.1.2.2.less (by omega))
  have a1 := cn.1
  have a2 := cn.2.1
  have a3 := cn.2.2.1
  have a4 := cn.2.2.2.1
  rw [d.2.1] at a2
  rw [d.2.2] at a4
  have e1 : (l[m]?.getD q0).1 = (((l[m]?.getD q0).1.toNat : Nat) : Int) := by omega
  have e2 : (l[m]?.getD q0).2.1 = (((l[m]?.getD q0).2.1.toNat : Nat) : Int) := by omega
  refine ⟨(l[m]?.getD q0).1.toNat, (l[m]?.getD q0).2.1.toNat, by omega, by omega, e1, e2, ?_, ?_⟩
  · rw [← cn.2.2.2.2.1]
    refine at_same h.1.1 (by omega) (by omega) m (by omega) (h.1.2.2.less (by omega)) fun j hj hc => ?_
    have := asc_lt h.2 m hj hm
    unfold CellLt at this
    omega
  · refine at_new h.1.1 (by omega) (by omega) ⟨e1, e2⟩ _ hm (Nat.le_refl _) h.1.2.2 fun j hj hj2 hc => ?_
    have := asc_lt h.2 j hj hj2
    unfold CellLt at this
    omega
theorem clash_sym {g : Rows} {a b : List Quad} (h : ClashOk g a b) : ClashOk g b a := by
  obtain ⟨i, hi, j, hj, hc⟩ := h.2.2
  exact ⟨h.2.1, h.1, j, hj, i, hi, ⟨hc.1.1.symm, hc.1.2.symm⟩, fun e => hc.2 e.symm⟩
theorem clash_self {g : Rows} {a : List Quad} (h : AreOk g a) : ¬ ClashOk g a a := by
  rintro ⟨_, _, i, hi, j, hj, hc⟩
  by_cases e : i = j
  · subst e; exact hc.2 rfl
  · by_cases l : i < j
    · have := asc_lt h.2 j l hj
      unfold CellLt at this
      have := hc.1
      omega
    · have := asc_lt h.2 i (show j < i by omega) hi
      unfold CellLt at this
      have := hc.1
      omega
theorem clash_far {g : Rows} {a b : List Quad} (h : ClashOk g a b) : 1 ≤ farOf (edition g a) (edition g b) := by
  obtain ⟨i, hi, j, hj, hc⟩ := h.2.2
  obtain ⟨r, c, hr, hcc, e1, e2, e3, e4⟩ := are_at h.1 hi
  obtain ⟨r', c', hr', hcc', f1, f2, f3, f4⟩ := are_at h.2.1 hj
  have p1 := hc.1.1
  have p2 := hc.1.2
  obtain rfl : r = r' := by omega
  obtain rfl : c = c' := by omega
  have la := h.1.1.like
  have lb := h.2.1.1.like
  have lk : Like (edition g a) (edition g b) := ⟨⟨la.1.2.1, lb.1.2.1, la.1.2.2.symm.trans lb.1.2.2⟩, la.2.symm.trans lb.2⟩
  have hne : farOf (edition g a) (edition g b) ≠ 0 := by
    intro h0
    have e := (far_zero lk).1 h0
    rw [e, f4] at e4
    refine hc.2 ?_
    have : ∀ p q : Quad, p.1 = q.1 → p.2.1 = q.2.1 → p.2.2.1 = q.2.2.1 → p.2.2.2 = q.2.2.2 → p = q := by
      rintro ⟨_, _, _, _⟩ ⟨_, _, _, _⟩ h1 h2 h3 h4
      simp only at h1 h2 h3 h4
      rw [h1, h2, h3, h4]
    exact this _ _ p1 p2 (by rw [e3, f3]) e4.symm
  have := far_small lk
  omega

theorem lt_ext : ∀ a b : List Quad, a.Pairwise CellLt → b.Pairwise CellLt → (∀ x, x ∈ a ↔ x ∈ b) → a = b
  | [], [], _, _, _ => rfl
  | [], y :: b, _, _, h => absurd ((h y).2 (List.mem_cons_self ..)) (by simp)
  | x :: a, [], _, _, h => absurd ((h x).1 (List.mem_cons_self ..)) (by simp)
  | x :: a, y :: b, ha, hb, h => by
    rw [List.pairwise_cons] at ha hb
    have irr : ∀ p q : Quad, CellLt p q → CellLt q p → False := by intro p q h1 h2; unfold CellLt at h1 h2; omega
    have e : x = y := by
      have h1 := (h x).1 (List.mem_cons_self ..)
      have h2 := (h y).2 (List.mem_cons_self ..)
      rw [List.mem_cons] at h1 h2
      rcases h1 with h1 | h1
      · exact h1
      · rcases h2 with h2 | h2
        · exact h2.symm
        · exact (irr _ _ (ha.1 y h2) (hb.1 x h1)).elim
    subst e
    rw [lt_ext a b ha.2 hb.2 fun z => ?_]
    constructor
    · intro hz
      have := (h z).1 (List.mem_cons_of_mem _ hz)
      rw [List.mem_cons] at this
      rcases this with rfl | this
      · exact (irr _ _ (ha.1 z hz) (ha.1 z hz)).elim
      · exact this
    · intro hz
      have := (h z).2 (List.mem_cons_of_mem _ hz)
      rw [List.mem_cons] at this
      rcases this with rfl | this
      · exact (irr _ _ (hb.1 z hz) (hb.1 z hz)).elim
      · exact this
theorem mem_diffs {ga gb : Rows} {q : Quad} : q ∈ diffsOf ga gb ↔ ∃ i j : Nat, i < ga.length ∧ j < colsOf ga ∧ at2 ga i j ≠ at2 gb i j ∧ q = ((i : Int), (j : Int), at2 ga i j, at2 gb i j) := by
  unfold diffsOf diffs rowDiff
  simp only [List.mem_flatMap, List.mem_range, List.mem_filterMap]
  constructor
  · rintro ⟨i, hi, j, hj, h⟩
    by_cases e : (ga[i]?.getD [])[j]?.getD 0 = (gb[i]?.getD [])[j]?.getD 0
    · rw [if_pos e] at h; cases h
    · rw [if_neg e] at h
      exact ⟨i, j, hi, hj, e, (Option.some.inj h).symm⟩
  · rintro ⟨i, j, hi, hj, e, rfl⟩
    exact ⟨i, hi, j, hj, if_neg e⟩
theorem are_pair {l : List Quad} (h : AscUp l l.length) : l.Pairwise CellLt := by
  rw [List.pairwise_iff_getElem]
  intro i j hi hj hij
  have := asc_lt h j hij hj
  rw [getQ_eq hi, getQ_eq hj] at this
  exact this
theorem are_diffs {g : Rows} {l : List Quad} (h : AreOk g l) : diffsOf g (edition g l) = l := by
  refine lt_ext _ _ (diffs_asc g (edition g l) _).1 (are_pair h.2) fun q => ?_
  rw [mem_diffs]
  have key : ∀ m, m < l.length → ∀ r c : Nat, (l[m]?.getD q0).1 = (r : Int) → (l[m]?.getD q0).2.1 = (c : Int) → r < g.length ∧ c < colsOf g ∧ at2 g r c ≠ at2 (edition g l) r c ∧ l[m]?.getD q0 = ((r : Int), (c : Int), at2 g r c, at2 (edition g l) r c) := by
    intro m hm r c e1 e2
    obtain ⟨r', c', hr, hc, f1, f2, f3, f4⟩ := are_at h hm
    obtain rfl : r = r' := by omega
    obtain rfl : c = c' := by omega
    have ne := (h.1.2.2 m hm).2.2.2.2.2.2.2
    refine ⟨hr, hc, fun e => ne (by rw [f3, ← f4]; exact e.symm), ?_⟩
    rw [f4, ← f3, ← e1, ← e2]
  constructor
  · rintro ⟨i, j, hi, hj, hne, rfl⟩
    have : ¬ ∀ m, m < l.length → ¬ ((l[m]?.getD q0).1 = (i : Int) ∧ (l[m]?.getD q0).2.1 = (j : Int)) := fun hn => hne (at_same h.1.1 hi hj _ (Nat.le_refl _) h.1.2.2 hn).symm
    obtain ⟨m, hm⟩ := Classical.not_forall.1 this
    obtain ⟨hm1, hm2⟩ := Classical.not_imp.1 hm
    have hm2 := Classical.not_not.1 hm2
    have k := key m hm1 i j hm2.1 hm2.2
    rw [← k.2.2.2, getQ_eq hm1]
    exact List.getElem_mem hm1
  · intro hq
    obtain ⟨m, hm, rfl⟩ := List.mem_iff_getElem.1 hq
    obtain ⟨r, c, hr, hc, f1, f2, _, _⟩ := are_at h hm
    have k := key m hm r c f1 f2
    exact ⟨r, c, k.1, k.2.1, k.2.2.1, by rw [← getQ_eq hm]; exact k.2.2.2⟩
theorem cells_are {g : Rows} {l : List Quad} (h : AreOk g l) : (cellsOut g l).length = l.length := by
  have e : cellsOut g l = l.map (idxQ (colsOf g)) := by
    rw [cellsOut_yes h.1]
    refine asc_ext _ _ (cellsL_asc _).1 ?_ (cellsL_asc _).2
    rw [List.pairwise_map, List.pairwise_iff_getElem]
    intro i j hi hj hij
    have := List.pairwise_iff_getElem.1 (are_pair h.2) i j hi hj hij
    obtain ⟨a, b, e1, e2, ha, hb⟩ := fix_in h.1 hi
    obtain ⟨a', b', f1, f2, ha', hb'⟩ := fix_in h.1 hj
    rw [getQ_eq hi] at e1 e2
    rw [getQ_eq hj] at f1 f2
    unfold CellLt at this
    unfold idxQ
    rw [e1, e2, f1, f2]
    rw [e1, e2, f1, f2] at this
    rcases this with h1 | ⟨h1, h2⟩
    · have := Nat.mul_le_mul_right (colsOf g) (show a + 1 ≤ a' by omega)
      rw [Nat.succ_mul] at this
      have e3 : (a : Int) * (colsOf g : Int) = ((a * colsOf g : Nat) : Int) := by simp
      have e4 : (a' : Int) * (colsOf g : Int) = ((a' * colsOf g : Nat) : Int) := by simp
      rw [e3, e4]
      omega
    · rw [h1]; omega
  rw [e, List.length_map]
set_option maxHeartbeats 4000000 in
set_option maxRecDepth 100000 in
theorem FnFixesAre_walk (v : Value) (n : Nat) (w : World) (h : Bytes w v n) :
    Calls Try.prog 7 #[v] w fun e w' => e = .returned (.bool true) ∧ Below w.heap.size w w' := by
  have CD := Lib.hid (DrawFixesAre_any v n w h)
  obtain ⟨a, cap, rfl, h1, h2, h3⟩ := h
  clear h3
  by_cases hbig : 1048576 < n
  · have hb' : (1048576 : Int) < (n : Int) := by omega
    go_enter Try.func7, Try.ntmps7
    go_wp2
    go_ret
    exact ⟨rfl, Below.refl _ _⟩
  have hb' : ¬ (1048576 : Int) < (n : Int) := by omega
  clear hbig
  go_enter Try.func7, Try.ntmps7
  go_wp2_with fail
  refine CD.out.mono ?_
  rintro e w1 ⟨va, vb, ga, l, rfl, hA, hB, dA, hl6, hb1⟩
  have B := Lib.hid hb1
  have s1 := hb1.size
  obtain ⟨bp, cp, rfl, c1, c2, c3⟩ := id hB
  clear c3
  have A := Lib.hid (show GridB w1.heap.size w1 va ga from hA)
  have L := Lib.hid (show QuadsB w1.heap.size w1 (.slice bp l.length cp) l from hB)
  clear hA hB hb1 CD
  go_wp2_with fail
  with_reducible refine (FixesAre_any va _ ga l w1 (A.out.grid (by omega)) (L.out.quads (by omega))).mono ?_
  rintro e w2 ⟨rfl, hb2⟩
  have s2 := hb2.size
  replace A := Lib.hid (A.out.below hb2 (by omega))
  replace L := Lib.hid (L.out.below hb2 (by omega))
  replace B := Lib.hid (B.out.trans (hb2.mono (by omega)))
  clear hb2
  go_wp2_with fail
  with_reducible refine (specFixesAre_any va _ ga l w2 (A.out.grid (by omega)) (L.out.quads (by omega))).mono ?_
  rintro e w3 ⟨rfl, hb3⟩
  have s3 := hb3.size
  replace A := Lib.hid (A.out.below hb3 (by omega))
  replace L := Lib.hid (L.out.below hb3 (by omega))
  replace B := Lib.hid (B.out.trans (hb3.mono (by omega)))
  clear hb3
  by_cases hs : AreOk ga l
  · rw [decide_eq_true hs]
    have HS := Lib.hid hs
    clear hs
    have CD : Hid (∀ w, Grid w va ga → Quads w (.slice bp l.length cp) l → Calls Try.prog 20 #[va, .slice bp l.length cp] w fun e w' => ∃ v, e = .returned (.tuple #[v, .bool true]) ∧ OwnG w.heap.size w'.heap.size w' v (edition ga l) ∧ Below w.heap.size w w') := by
      intro w hg hl
      have h := FixesDo_any va (.slice bp l.length cp) ga l w hg hl
      rw [decide_eq_true HS.out.1, edAll_yes HS.out.1] at h
      exact h
    have CM : Hid (∀ w vx, Grid w va ga → Grid w vx (edition ga l) → Calls Try.prog 21 #[va, vx] w fun e w' => ∃ v, e = .returned (.tuple #[v, .bool true]) ∧ OwnQ w.heap.size w'.heap.size w' v (l) ∧ Below w.heap.size w w') := by
      intro w vx hg hl
      have h := FixesMake_any va vx ga _ w hg hl
      rw [decide_eq_true HS.out.1.like, makeOf_yes HS.out.1.like, are_diffs HS.out] at h
      exact h
    go_wp2_with fail
    with_reducible refine (CD.out w3 (A.out.grid (by omega)) (L.out.quads (by omega))).mono ?_
    rintro e w4 ⟨x, rfl, hO, hb4⟩
    have s4 := hb4.size
    replace A := Lib.hid (A.out.below hb4 (by omega))
    replace L := Lib.hid (L.out.below hb4 (by omega))
    replace B := Lib.hid (B.out.trans (hb4.mono (by omega)))
    clear hb4
    have XG := Lib.hid (show GridB w4.heap.size w4 x (edition ga l) from hO.grid (Nat.le_refl _))
    clear hO
    go_wp2_with fail
    with_reducible refine (CM.out w4 x (A.out.grid (by omega)) (XG.out.grid (by omega))).mono ?_
    rintro e w5 ⟨mk, rfl, hO, hb5⟩
    have s5 := hb5.size
    replace A := Lib.hid (A.out.below hb5 (by omega))
    replace L := Lib.hid (L.out.below hb5 (by omega))
    replace XG := Lib.hid (XG.out.below hb5 (by omega))
    replace B := Lib.hid (B.out.trans (hb5.mono (by omega)))
    clear hb5
    have MQ := Lib.hid (show QuadsB w5.heap.size w5 mk (l) from hO.quadsB)
    clear hO
    clear CD CM
    clear XG
    go_wp2_with fail
    with_reducible refine (sameFixes_any mk _ l l w5 (MQ.out.quads (by omega)) (L.out.quads (by omega))).mono ?_
    rintro e w6 ⟨rfl, hb6⟩
    rw [decide_eq_true (rfl : l = l)]
    have s6 := hb6.size
    replace A := Lib.hid (A.out.below hb6 (by omega))
    replace L := Lib.hid (L.out.below hb6 (by omega))
    replace MQ := Lib.hid (MQ.out.below hb6 (by omega))
    replace B := Lib.hid (B.out.trans (hb6.mono (by omega)))
    clear hb6
    go_wp2_with fail
    with_reducible refine (FixesCells_any va _ ga l w6 (A.out.grid (by omega)) (L.out.quads (by omega))).mono ?_
    rintro e w7 ⟨vc, rfl, hO, hb7⟩
    have s7 := hb7.size
    replace A := Lib.hid (A.out.below hb7 (by omega))
    replace L := Lib.hid (L.out.below hb7 (by omega))
    replace MQ := Lib.hid (MQ.out.below hb7 (by omega))
    replace B := Lib.hid (B.out.trans (hb7.mono (by omega)))
    clear hb7
    obtain ⟨ca, cc, rfl, _, _, _⟩ := hO.ints
    rw [cells_are HS.out]
    clear hO
    go_wp2
    go_ret
    exact ⟨ret_bool (by simp), B.out⟩
  · rw [decide_eq_false hs]
    clear hs
    go_wp2
    go_ret
    exact ⟨rfl, B.out⟩
end Go.Proofs.Ytdelcebkpdnnjaa
namespace Go.Proofs.Ytdelcebkpdnnjaa.fnFixesAre
open Go.ChangeShapes Go.WideShapes Go.ChangeAt Go.RowKit
set_option linter.unusedVariables false

theorem own : ownKnob Try.prog.godebug = none := by kernel_rfl
theorem laidOut : laidOutB Try.prog = true := fact_laid
set_option maxRecDepth 100000 in
theorem lifted (os : Os) (started : os.Started) (H : Type) (enc : TypeId × Value → H) :
    ReturnsInHanded {} Try.checked os 7 .any (Rows.fnFixesAreSpec.pre6 enc Try.prog Try.f7 Rows.fnFixesAreRow.domain false) (Rows.fnFixesAreSpec.post enc Try.prog Try.f7 false true false false) := by
  refine returnsInHanded_of_change (C := Try.checked) own started (by kernel_rfl) Try.func7
    (ChangeSpec.witness6 (enc := enc) (C := Try.checked) false ⟨#[], #[.slice none 0 0], []⟩ 8 (by kernel_rfl) (by kernel_rfl) (by kernel_rfl) (by kernel_rfl)) ?_
  intro W base args ds gs before hval0 hW hcnd _
  have hval : ∀ (j : Nat) t v, Try.f7.params[j]? = some t → args[j]? = some v → Value.okWide Try.prog W .any base t v := hval0
  have hW' := hW
  obtain ⟨p, q, hA0, hV, rfl, hfz, hnd⟩ := hW
  have hA : DataW.TrodAll enc Try.prog W 0 (fun _ => true) true Try.f7.params.toList args.toList ds p := hA0
  rw [Try.params7] at hA hval
  obtain ⟨v0, vs0, d0, ds0, p0, q0, hargs, rfl, rfl, h0, r0⟩ := trodAll_cons hA
  obtain ⟨rfl, rfl, rfl⟩ := trodAll_nil r0
  obtain rfl : args = #[v0] := by cases args; simp_all
  obtain ⟨rfl, rfl⟩ := trodVars_none hV
  obtain ⟨a0, len0, cap0, rfl⟩ := okWide_slice Try.underlying22 (hval 0 22 v0 rfl rfl)
  have k0 := h0
  have lt0 : ∀ x ∈ p0, x.block < W.heap.size := by obtain ⟨m, hm⟩ := k0; exact DataW.trod_lt m _ _ _ hm
  obtain ⟨z0, w0⟩ : ∃ zs, Bytes W (.slice a0 len0 cap0) zs := bytes_opened h0
  clear hA0 hval0
  refine (FnFixesAre_walk _ z0 W w0).mono fun e W' ⟨he, bel⟩ => ?_
  subst he
  exact ⟨_, rfl, _, _, _, [], _, [], hW', trodAll_mk1 (shut_bool Try.underlying4 _), (trodAll_cons_mk (Below.trod laidOut (by kernel_rfl) (of_decide_eq_true (by kernel_rfl)) k0 bel lt0) trodAll_mk0), rfl, bel.frame _, fun h => by cases h⟩
theorem fact_inPlace : (Rows.fnFixesAreRow.inPlace == Try.prog.inPlace 7) = true := by kernel_rfl
theorem fact_unfollowed : (Rows.fnFixesAreRow.unfollowed == Try.prog.unfollowed 7) = true := by kernel_rfl
theorem fact_recurses : (Rows.fnFixesAreRow.recurses == Try.prog.recurses 7) = true := by kernel_rfl
theorem fact_named : (Rows.fnFixesAreRow.named == Try.prog.varsNamed 7) = true := by kernel_rfl
theorem fact_plain : (Rows.fnFixesAreRow.plainKeys == Try.prog.plainKeys) = true := by kernel_rfl
theorem joined : joinedFacts Try.pinned.checked.prog 7 Try.f7 Rows.fnFixesAreSpec Rows.fnFixesAreRow = true :=
  joined_of (f := 7) (fn := Try.f7) (s := Rows.fnFixesAreSpec) (c := Rows.fnFixesAreRow) (by kernel_rfl) (by kernel_rfl) (by kernel_rfl) (by kernel_rfl) (by kernel_rfl) fact_inPlace fact_unfollowed fact_recurses fact_named (by kernel_rfl) (by kernel_rfl) (by kernel_rfl) (by kernel_rfl) (by kernel_rfl) (by kernel_rfl) (by kernel_rfl) (by kernel_rfl) (by kernel_rfl) fact_plain (by kernel_rfl) rfl rfl (by kernel_rfl) (by kernel_rfl) (by kernel_rfl) (by kernel_rfl)

/-- the statement -/
theorem proved : Rows.FnFixesAreSaid :=
  OpenClaim.holds_of_wide 7 Try.f7 rfl rfl rfl rfl rfl rfl rfl ⟨rfl, rfl, rfl, rfl, rfl⟩ rfl rfl rfl rfl rfl (by kernel_rfl) Try.func7 joined
    (of_decide_eq_true (by kernel_rfl)) (by unfold Func.isWrapper; first | (rw [if_pos (by decide +kernel)]; kernel_rfl) | (rw [if_neg (by decide +kernel)]; exact ⟨rfl, rfl⟩))
    (fun os started H enc _ => lifted os started H enc)
#print axioms proved
end Go.Proofs.Ytdelcebkpdnnjaa.fnFixesAre
