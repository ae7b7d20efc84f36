/-
  Each correction is one step of one cell's history; the draw of FnFixesCells; the laws' cellsOf, hasInt, sameInts. No condition but that slices read as their lists.
-/
import Derived.Test.YtdelcebkpdnnjaaCellsAll
import Derived.Test.YtdelcebkpdnnjaaAt
import Derived.Test.YtdelcebkpdnnjaaFixD
import Derived.Test.YtdelcebkpdnnjaaSame
namespace Go.Proofs.Ytdelcebkpdnnjaa
open Go.RowKit Go.Deep Go.Sort

theorem idx_inj {c i j : Nat} {q : Quad} (hq : ∃ a b : Nat, q.1 = (a : Int) ∧ q.2.1 = (b : Int) ∧ b < c) (hj : j < c) : idxQ c q = ((i * c + j : Nat) : Int) ↔ q.1 = (i : Int) ∧ q.2.1 = (j : Int) := by
  obtain ⟨a, b, h1, h2, hb⟩ := hq
  unfold idxQ
  rw [h1, h2]
  have e : (a : Int) * (c : Int) + (b : Int) = ((a * c + b : Nat) : Int) := by simp
  rw [e]
  constructor
  · intro h
    have h : a * c + b = i * c + j := by omega
    have e1 : a = i := by
      have := congrArg (· / c) h
      simp only [Nat.mul_comm _ c] at this
      rwa [Nat.mul_add_div (by omega), Nat.mul_add_div (by omega), Nat.div_eq_of_lt hb, Nat.div_eq_of_lt hj] at this
    subst e1
    exact ⟨rfl, by omega⟩
  · rintro ⟨ha, hb⟩
    have ha : a = i := by omega
    have hb : b = j := by omega
    rw [ha, hb]
def sumUp (f : Nat → Nat) : Nat → Nat
  | 0 => 0
  | n + 1 => sumUp f n + f n
theorem sumUp_add (f g : Nat → Nat) (n : Nat) : sumUp (fun i => f i + g i) n = sumUp f n + sumUp g n := by
  induction n with
  | zero => rfl
  | succ n ih => simp only [sumUp, ih]; omega
theorem sumUp_congr {f g : Nat → Nat} {n : Nat} (h : ∀ i, i < n → f i = g i) : sumUp f n = sumUp g n := by
  induction n with
  | zero => rfl
  | succ n ih => rw [sumUp, sumUp, ih (fun i hi => h i (by omega)), h n (by omega)]
theorem sumUp_one (m n : Nat) : sumUp (fun i => if i = m then 1 else 0) n = if m < n then 1 else 0 := by
  induction n with
  | zero => rfl
  | succ n ih =>
    rw [sumUp, ih]
    by_cases h1 : m < n
    · rw [if_pos h1, if_neg (by omega), if_pos (by omega)]
    · rw [if_neg h1]
      by_cases h2 : n = m
      · rw [if_pos h2, if_pos (by omega)]
      · rw [if_neg h2, if_neg (by omega)]
theorem sumUp_le {f : Nat → Nat} {b : Nat} (h : ∀ i, f i ≤ b) (n : Nat) : sumUp f n ≤ n * b := by
  induction n with
  | zero => simp [sumUp]
  | succ n ih => rw [sumUp, Nat.succ_mul]; have := h n; omega
/-- each correction is one step of one cell -/
theorem hist_sum {g : Rows} {l : List Quad} (h : EdOk g l) : ∀ k, k ≤ l.length → sumUp (fun i => (hist l ((i / colsOf g : Nat) : Int) ((i % colsOf g : Nat) : Int) k).length) (g.length * colsOf g) = k := by
  intro k
  induction k with
  | zero =>
    intro _
    have : ∀ n, sumUp (fun i => (hist l ((i / colsOf g : Nat) : Int) ((i % colsOf g : Nat) : Int) 0).length) n = 0 := by
      intro n; induction n with
      | zero => rfl
      | succ n ih => rw [sumUp, ih]; rfl
    exact this _
  | succ k ih =>
    intro hk
    have e : ∀ i, (hist l ((i / colsOf g : Nat) : Int) ((i % colsOf g : Nat) : Int) (k + 1)).length = (hist l ((i / colsOf g : Nat) : Int) ((i % colsOf g : Nat) : Int) k).length + (stepAt (l[k]?.getD q0) ((i / colsOf g : Nat) : Int) ((i % colsOf g : Nat) : Int)).length := by
      intro i; rw [hist, List.length_append]
    rw [sumUp_congr (fun i _ => e i), sumUp_add, ih (by omega)]
    obtain ⟨a, b, h1, h2, ha, hb⟩ := fix_in h (show k < l.length by omega)
    have hs : ∀ i, i < g.length * colsOf g → (stepAt (l[k]?.getD q0) ((i / colsOf g : Nat) : Int) ((i % colsOf g : Nat) : Int)).length = if i = a * colsOf g + b then 1 else 0 := by
      intro i _
      unfold stepAt
      rw [h1, h2]
      by_cases hi : i = a * colsOf g + b
      · have e1 : i / colsOf g = a := by rw [hi, Nat.mul_comm, Nat.mul_add_div (by omega), Nat.div_eq_of_lt hb]; rfl
        have e2 : i % colsOf g = b := by rw [hi, Nat.mul_comm, Nat.mul_add_mod, Nat.mod_eq_of_lt hb]
        rw [if_pos hi, if_pos ⟨by rw [e1], by rw [e2]⟩]; rfl
      · rw [if_neg hi, if_neg]
        · rfl
        · rintro ⟨e1, e2⟩
          have := Nat.div_add_mod i (colsOf g)
          rw [← (show a = i / colsOf g by omega), ← (show b = i % colsOf g by omega), Nat.mul_comm] at this
          exact hi this.symm
    rw [sumUp_congr hs, sumUp_one, if_pos]
    have := Nat.mul_le_mul_right (colsOf g) (show a + 1 ≤ g.length by omega)
    rw [Nat.succ_mul] at this
    omega
theorem hist_hit {l : List Quad} {R C : Int} : ∀ k, 0 < (hist l R C k).length ↔ ∃ j, j < k ∧ (l[j]?.getD q0).1 = R ∧ (l[j]?.getD q0).2.1 = C := by
  intro k
  induction k with
  | zero => exact ⟨fun h => by simp [hist] at h, fun ⟨j, hj, _⟩ => by omega⟩
  | succ k ih =>
    rw [hist, List.length_append]
    constructor
    · intro h
      by_cases h0 : 0 < (hist l R C k).length
      · obtain ⟨j, hj, e⟩ := ih.1 h0; exact ⟨j, by omega, e⟩
      · refine ⟨k, by omega, ?_⟩
        unfold stepAt at h
        split at h
        · assumption
        · simp at h; omega
    · rintro ⟨j, hj, e⟩
      by_cases hjk : j = k
      · subst hjk
        unfold stepAt; rw [if_pos e]; simp
      · have := ih.2 ⟨j, by omega, e⟩; omega
/-- a cell was corrected if its history has a step -/
theorem hist_cell {g : Rows} {l : List Quad} (h : EdOk g l) {i : Nat} (hi : i < g.length * colsOf g) : 0 < (hist l ((i / colsOf g : Nat) : Int) ((i % colsOf g : Nat) : Int) l.length).length ↔ (i : Int) ∈ cellsOut g l := by
  rw [cellsOut_yes h, (cellsL_asc _).2, hist_hit, List.mem_map]
  have hc : 0 < colsOf g := by
    rcases Nat.eq_zero_or_pos (colsOf g) with e | e
    · rw [e] at hi; omega
    · exact e
  have hmod := Nat.mod_lt i hc
  have hdm := Nat.div_add_mod i (colsOf g)
  rw [Nat.mul_comm] at hdm
  constructor
  · rintro ⟨j, hj, h1, h2⟩
    refine ⟨l[j], List.getElem_mem hj, ?_⟩
    rw [getQ_eq hj] at h1 h2
    unfold idxQ
    rw [h1, h2]
    have e : ((i / colsOf g : Nat) : Int) * (colsOf g : Int) + ((i % colsOf g : Nat) : Int) = ((i / colsOf g * colsOf g + i % colsOf g : Nat) : Int) := by simp
    rw [e, hdm]
  · rintro ⟨q, hq, he⟩
    obtain ⟨j, hj, rfl⟩ := List.mem_iff_getElem.1 hq
    obtain ⟨a, b, h1, h2, ha, hb⟩ := fix_in h hj
    rw [getQ_eq hj] at h1 h2
    refine ⟨j, hj, ?_⟩
    rw [getQ_eq hj]
    exact (idx_inj ⟨a, b, h1, h2, hb⟩ hmod).1 (by rw [he, hdm])
set_option maxHeartbeats 400000 in
theorem DrawFixesCells_any (v : Value) (n : Nat) (w : World) (h : Bytes w v n) :
    Calls Try.prog 9 #[v] w fun e w' => ∃ va vb g l, e = .returned (.tuple #[va, vb]) ∧ Grid w' va g ∧ Quads w' vb l ∧ Drawn g ∧ l.length ≤ 6 ∧ Below w.heap.size w w' := by
  have C := Lib.hid (l6Open_any v n w h)
  clear h
  go_enter Try.func9, Try.ntmps9
  go_wp2_with fail
  refine C.out.mono ?_
  rintro e w1 ⟨rfl, hrd, hb1⟩
  have B1 := Lib.hid hb1
  have z1 := hb1.size
  clear hb1
  go_wp2_with fail
  refine (l92Fixes_any w.heap.size 0 w1 hrd (by omega)).mono ?_
  rintro e w2 ⟨va, vb, g, l, P2, rfl, ha, hb, da, hl, _, _, ht⟩
  have HA := Lib.hid (ha.grid (Nat.le_refl _))
  have HB := Lib.hid hb.quads
  have HT := Lib.hid (B1.out.trans (ht.below (Nat.le_refl _) z1))
  clear ha hb ht
  go_wp2
  go_ret2
  exact ⟨va, vb, g, l, rfl, HA.out, HB.out, da, hl, HT.out⟩

set_option maxHeartbeats 1000000 in
set_option maxRecDepth 100000 in
theorem hasInt_any (v : Value) (la : List Int) (x : Int) (w : World) (h : Ints w v la) :
    Calls Try.prog 15 #[v, .int .i64 x] w fun e w' => e = .returned (.bool (decide (x ∈ la))) ∧ w = w' := by
  obtain ⟨a, cap, rfl, h1, h2, h3⟩ := h
  have H3 := Lib.hid h3
  clear h3
  go_enter Try.func15, Try.ntmps15
  go_wp2_with fail
  go_loop [5] (fun i => ∃ k : Nat, k ≤ la.length ∧ i = .int .i64 k ∧ ∀ j, j < k → la[j]?.getD 0 ≠ x) (fun i => la.length - (intOf i).toNat)
  case atStart => exact ⟨0, Nat.zero_le _, rfl, fun j hj => by omega⟩
  case round =>
    obtain ⟨k, hk, rfl, hno⟩ := hrel
    have HN := Lib.hid hno
    clear hno
    by_cases hlt : k < la.length
    · obtain ⟨b, off, rfl, hb, hcell⟩ := H3.out (by omega)
      have c := hcell k hlt
      have GE := Lib.hid (getD_eq hlt)
      obtain ⟨z, hz⟩ : ∃ z, z = la[k]?.getD 0 := ⟨_, rfl⟩
      rw [← hz] at c GE
      have HZ := Lib.hid hz
      have x1 : (k : Int) < (la.length : Int) := by omega
      have x3 : (0 : Int) ≤ (k : Int) := by omega
      clear hcell hz
      by_cases he : z = x
      · have t1 : (z == x) = true := by simpa using he
        have MM : Hid (x ∈ la) := by show _ ∈ _; rw [← he, GE.out]; exact List.getElem_mem _
        clear he
        go_wp2_with fail
        go_ret
        exact ⟨ret_bool (decide_eq_true MM.out).symm, rfl⟩
      · have t1 : (z == x) = false := by simpa using he
        have HE := Lib.hid he
        clear he
        go_wp2_with fail
        go_round
        case rel =>
          refine ⟨k + 1, by omega, by go_num, fun j hj => ?_⟩
          by_cases e : j = k
          · subst e; rw [← HZ.out]; exact HE.out
          · exact HN.out j (by omega)
        case measure => simp [intOf]; omega
    · obtain rfl : k = la.length := by omega
      have NM : Hid (¬ x ∈ la) := by
        intro hm
        obtain ⟨j, hj, e⟩ := List.mem_iff_getElem.1 hm
        exact HN.out j hj (by rw [getD_eq hj]; exact e)
      go_wp2_with fail
      go_ret
      exact ⟨ret_bool (decide_eq_false NM.out).symm, rfl⟩

theorem GridB.open {B : Nat} {w : World} {v : Value} {g : Rows} (h : GridB B w v g) (hp : 0 < g.length) : ∃ b off cap, v = .slice (some ⟨b, off, none⟩) g.length cap ∧ g.length ≤ cap ∧ cap ≤ 9223372036854775807 ∧ b < B ∧
    ∀ k, k < g.length → ∃ a c, w.cell? ⟨b, off + k, none⟩ = some (.slice a (g[k]?.getD []).length c) ∧ (g[k]?.getD []).length ≤ c ∧ c ≤ 9223372036854775807 ∧ (0 < (g[k]?.getD []).length → ∃ b2 o2, a = some ⟨b2, o2, none⟩ ∧ b2 < B ∧ ∀ j, j < (g[k]?.getD []).length → w.cell? ⟨b2, o2 + j, none⟩ = some (.int .i64 ((g[k]?.getD [])[j]?.getD 0))) := by
  obtain ⟨a, cap, rfl, h1, h2, h3⟩ := h
  obtain ⟨b, off, rfl, hb, hc⟩ := h3 hp
  refine ⟨b, off, cap, rfl, h1, h2, hb, fun k hk => ?_⟩
  obtain ⟨r, hr, a2, c2, rfl, q1, q2, q3⟩ := hc k hk
  exact ⟨a2, c2, hr, q1, q2, q3⟩

set_option maxHeartbeats 1000000 in
theorem cellsOf_any (v : Value) (g : Rows) (w : World) (h : Grid w v g) (hg : GridOk g) :
    Calls Try.prog 13 #[v] w fun e w' => e = .returned (.int .i64 ((g.length * colsOf g : Nat) : Int)) ∧ Below w.heap.size w w' := by
  obtain ⟨b1, o1, c1, hv1, _, _, k1, HC1⟩ := GridB.open h (by have := hg.1; omega)
  obtain ⟨p1, d1, x1, u1, u1', _⟩ := HC1 0 (by have := hg.1; omega)
  rw [(hg.2.2.2.2 0 (by have := hg.1; omega)).1] at x1 u1
  rw [Nat.add_zero] at x1
  subst hv1
  have hgl := hg.1
  have hgl2 := hg.2.1
  have hca := hg.2.2.1
  have hca2 := hg.2.2.2.1
  have hsm := small_cells hg
  have e0 : ((g.length * colsOf g : Nat) : Int) = (g.length : Int) * (colsOf g : Int) := by simp
  have e1 : 0 ≤ (g.length : Int) * (colsOf g : Int) ∧ (g.length : Int) * (colsOf g : Int) ≤ 49 := by rw [← e0]; omega
  have w1 := wrap_small (x := (g.length : Int) * (colsOf g : Int)) (by omega) (by omega)
  obtain ⟨n, hn⟩ : ∃ n, n = g.length := ⟨_, rfl⟩
  obtain ⟨c, hc⟩ : ∃ n, n = colsOf g := ⟨_, rfl⟩
  rw [← hn, ← hc] at w1
  rw [← hn] at hgl hgl2 ⊢
  rw [← hc] at hca x1 ⊢
  have n1 : (0 : Int) < (n : Int) := by omega
  have n2 : 0 < n := by omega
  clear HC1 h hg e0 e1 hsm hn hc
  go_enter Try.func13, Try.ntmps13
  go_wp2
  go_ret
  exact ⟨ret_int (by simp), below_n (Below.refl _ _) 0⟩

theorem sameInts_b (va vb : Value) (la lb : List Int) (w : World) (ha : Ints w va la) (hb : Ints w vb lb) :
    Calls Try.prog 12 #[va, vb] w fun e w' => e = .returned (.bool (decide (la = lb))) ∧ Below w.heap.size w w' :=
  (sameInts_any va vb la lb w ha hb).mono fun e w' ⟨he, n, hw⟩ => ⟨he, by subst hw; exact below_n (Below.refl _ _) n⟩
end Go.Proofs.Ytdelcebkpdnnjaa
