/-
  The reference's GridValid, l7Rows, l7Size, GridsGap, GridsAgree. No condition but that the slices read as the lists.
-/
import Derived.Test.YtdelcebkpdnnjaaGap
namespace Go.Proofs.Ytdelcebkpdnnjaa
open Go.RowKit Go.Deep Go.Sort

set_option maxHeartbeats 400000 in
theorem l6In_yes (n low high : Int) (w : World) (h1 : low ≤ n) (h2 : n ≤ high) :
    Calls Try.prog 91 #[.int .i64 n, .int .i64 low, .int .i64 high] w fun e w' => e = .returned (.bool true) ∧ w = w' := by
  have t1 : decide (low ≤ n) = true := decide_eq_true h1
  have t2 : decide (n ≤ high) = true := decide_eq_true h2
  go_enter Try.func91, Try.ntmps91
  go_wp2
  go_ret
  exact ⟨rfl, rfl⟩
set_option maxHeartbeats 400000 in
theorem l6In_no (n low high : Int) (w : World) (h : n < low ∨ high < n) :
    Calls Try.prog 91 #[.int .i64 n, .int .i64 low, .int .i64 high] w fun e w' => e = .returned (.bool false) ∧ w = w' := by
  by_cases h1 : n < low
  · have t1 : decide (low ≤ n) = false := decide_eq_false (by omega)
    clear h
    go_enter Try.func91, Try.ntmps91
    go_wp2
    go_ret
    exact ⟨rfl, rfl⟩
  · have t1 : decide (low ≤ n) = true := decide_eq_true (by omega)
    have t2 : decide (n ≤ high) = false := decide_eq_false (by omega)
    clear h
    go_enter Try.func91, Try.ntmps91
    go_wp2
    go_ret
    exact ⟨rfl, rfl⟩

set_option maxHeartbeats 2000000 in
set_option maxRecDepth 100000 in
theorem specGridValid_any (v : Value) (g : Rows) (w : World) (h : Grid w v g) :
    Calls Try.prog 73 #[v] w fun e w' => e = .returned (.bool (decide (GridOk g))) ∧ Below w.heap.size w w' := by
  obtain ⟨a, cap, rfl, h1, h2, h3⟩ := h
  by_cases g1 : 1 ≤ g.length ∧ g.length ≤ 7
  · obtain ⟨b, off, rfl, hb, hcell⟩ := h3 (by omega)
    obtain ⟨r0, c0, i0⟩ := hcell 0 (by omega)
    obtain ⟨x0, cap0, rfl, e0, _⟩ := i0
    have ec : (g[0]?.getD []).length = colsOf g := rfl
    rw [ec] at c0 e0
    rw [Nat.add_zero] at c0
    have HC := Lib.hid hcell
    clear hcell h3 ec
    have hgl := g1.1
    by_cases g3 : 1 ≤ colsOf g ∧ colsOf g ≤ 7
    · have ho : ∀ p : Prop, p → p := fun _ h => h
      clear ho
      have HO : Hid ((∀ i, i < g.length → RowOk (colsOf g) (g[i]?.getD [])) ↔ GridOk g) := ⟨fun h => ⟨g1.1, g1.2, g3.1, g3.2, h⟩, fun h => h.2.2.2.2⟩
      obtain ⟨c, hc⟩ : ∃ c, c = colsOf g := ⟨_, rfl⟩
      rw [← hc] at c0 e0 g3 HO
      clear hc
      go_enter Try.func73, Try.ntmps73
      go_wp2_with fail
      refine (l6In_yes _ _ _ _ (by omega) (by omega)).mono ?_
      rintro e w' ⟨rfl, rfl⟩
      go_wp2_with fail
      refine (l6In_yes _ _ _ _ (by omega) (by omega)).mono ?_
      rintro e w' ⟨rfl, rfl⟩
      go_wp2
      go_loopw [3, 4] (fun i _ wr => ∃ k : Nat, k ≤ g.length ∧ i = .int .i64 k ∧ (∀ i, i < k → RowOk c (g[i]?.getD [])) ∧ Below w.heap.size w wr) (fun i _ _ => g.length - (intOf i).toNat)
      case atStart => exact ⟨0, Nat.zero_le _, rfl, fun i hi => absurd hi (Nat.not_lt_zero _), Below.refl _ _⟩
      case round =>
        obtain ⟨k, hk, rfl, hdone, hbel⟩ := hrel
        by_cases hlt : k < g.length
        · obtain ⟨r, c1, i1⟩ := HC.out k hlt
          have c2 : wr.cell? ⟨b, off + k, none⟩ = some r := (hbel.cell (p := ⟨b, off + k, none⟩) hb).trans c1
          have c3 := (hbel.cell (p := ⟨b, off, none⟩) hb).trans c0
          obtain ⟨lk, hlk⟩ : ∃ l, l = g[k]?.getD [] := ⟨_, rfl⟩
          rw [← hlk] at i1
          obtain ⟨xk, capk, rfl, q1, q2, q3⟩ := i1
          have HQ := Lib.hid q3
          have HD := Lib.hid hdone
          have HLK := Lib.hid hlk
          have HB := Lib.hid hbel
          have c2' := Lib.hid c1
          clear q3 hdone hlk hbel c1
          by_cases hl : lk.length = c
          · have HL := Lib.hid hl
            have c2'' := c2'.out
            rw [hl] at c2 c2'' q1
            replace c2' := Lib.hid c2''
            clear c2'' hl
            go_wp2
            go_quiet (fail)
            go_wp2
            have HB0 := Lib.hid (below_n HB.out nq)
            obtain ⟨wo, hwo⟩ : ∃ wo, wo = wr.drewN nq := ⟨_, rfl⟩
            rw [← hwo] at HB0 ⊢
            clear hwo c2 c3
            go_loopw [4] (fun i wi => ∃ j : Nat, j ≤ c ∧ i = .int .i64 j ∧ (∀ i, i < j → 0 ≤ lk[i]?.getD 0 ∧ lk[i]?.getD 0 ≤ 99) ∧ Below w.heap.size w wi) (fun i _ => c - (intOf i).toNat)
            case atStart => exact ⟨0, Nat.zero_le _, rfl, fun i hi => absurd hi (Nat.not_lt_zero _), HB0.out⟩
            case round =>
              obtain ⟨j, hj, rfl, hgood, hbel⟩ := hrel
              have c4 := (hbel.cell (p := ⟨b, off + k, none⟩) hb).trans c2'.out
              by_cases hjl : j < c
              · obtain ⟨b2, off2, rfl, hb2, hcell2⟩ := HQ.out (by rw [HL.out]; omega)
                have c5 := (hbel.cell (p := ⟨b2, off2 + j, none⟩) hb2).trans (hcell2 j (by rw [HL.out]; omega))
                obtain ⟨y, hy⟩ : ∃ y, y = lk[j]?.getD 0 := ⟨_, rfl⟩
                rw [← hy] at c5
                have HGD := Lib.hid hgood
                have HBI := Lib.hid hbel
                have HY := Lib.hid hy
                clear hcell2 hgood hbel hy
                by_cases hyy : 0 ≤ y ∧ y ≤ 99
                · go_wp2_with fail
                  refine (l6In_yes _ _ _ _ hyy.1 hyy.2).mono ?_
                  rintro e w' ⟨rfl, rfl⟩
                  go_wp2
                  go_roundw
                  case rel =>
                    refine ⟨j + 1, by omega, by go_num, fun i hi => ?_, HBI.out⟩
                    by_cases e : i = j
                    · rw [e, ← HY.out]; exact hyy
                    · exact HGD.out i (by omega)
                  case measure => simp [intOf]; omega
                · go_wp2_with fail
                  refine (l6In_no _ _ _ _ (by omega)).mono ?_
                  rintro e w' ⟨rfl, rfl⟩
                  go_wp2
                  go_ret
                  exact ⟨ret_bool (decide_eq_false fun h => hyy (by
                    have := (HO.out.2 h k hlt).2 j (by rw [← HLK.out, HL.out]; omega)
                    rw [← HLK.out, ← HY.out] at this
                    exact this)).symm, HBI.out⟩
              · have HGD := Lib.hid hgood
                have HBI := Lib.hid hbel
                clear hgood hbel
                go_wp2
                go_roundw
                case rel =>
                  refine ⟨k + 1, by omega, by go_num, fun i hi => ?_, HBI.out⟩
                  by_cases e : i = k
                  · rw [e, ← HLK.out]
                    exact ⟨HL.out, fun i hi => HGD.out i (by have := HL.out; omega)⟩
                  · exact HD.out i (by omega)
                case measure => simp [intOf]; omega
          · have hl2 : ((lk.length : Int) != (c : Int)) = true := by simp; omega
            go_wp2
            go_quiet (fail)
            go_wp2
            go_ret
            exact ⟨ret_bool (decide_eq_false fun h => hl (by have := (HO.out.2 h k hlt).1; rwa [← HLK.out] at this)).symm, below_n HB.out nq⟩
        · have hok : GridOk g := HO.out.1 (fun i hi => hdone i (by omega))
          have HOK := Lib.hid hok
          have HB := Lib.hid hbel
          clear hdone hok hbel
          go_wp2
          go_ret
          exact ⟨ret_bool (decide_eq_true HOK.out).symm, HB.out⟩
    · have hno : Hid (¬ GridOk g) := fun h => g3 ⟨h.2.2.1, h.2.2.2.1⟩
      go_enter Try.func73, Try.ntmps73
      go_wp2_with fail
      refine (l6In_yes _ _ _ _ (by omega) (by omega)).mono ?_
      rintro e w' ⟨rfl, rfl⟩
      go_wp2_with fail
      refine (l6In_no _ _ _ _ (by omega)).mono ?_
      rintro e w' ⟨rfl, rfl⟩
      go_wp2
      go_ret
      exact ⟨ret_bool (decide_eq_false hno.out).symm, Below.refl _ _⟩
  · have hno : Hid (¬ GridOk g) := fun h => g1 ⟨h.1, h.2.1⟩
    clear h3
    go_enter Try.func73, Try.ntmps73
    go_wp2_with fail
    refine (l6In_no _ _ _ _ (by omega)).mono ?_
    rintro e w' ⟨rfl, rfl⟩
    go_wp2
    go_ret
    exact ⟨ret_bool (decide_eq_false hno.out).symm, Below.refl _ _⟩

theorem aparts_eq (x y : Int) : max (x - y) (-(x - y)) = aparts x y := by unfold aparts; omega

theorem eqIntSS_b (va vb : Value) (ga gb : Rows) (w : World) (ha : Grid w va ga) (hb : Grid w vb gb) :
    Calls Try.prog 27 #[va, vb] w fun e w' => e = .returned (.bool (decide (ga = gb))) ∧ Below w.heap.size w w' :=
  (eqIntSS_any va vb ga gb w ha hb).mono fun _ _ ⟨he, n, hw⟩ => ⟨he, by rw [hw]; exact below_n (Below.refl _ _) n⟩
end Go.Proofs.Ytdelcebkpdnnjaa
