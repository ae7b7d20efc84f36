/-
  l92Short, l92Both, DrawFixesClash, DrawFixesAre, DrawFixesBoth. No condition.
-/
import Derived.Test.YtdelcebkpdnnjaaFixD
import Derived.Test.YtdelcebkpdnnjaaBackOk
namespace Go.Proofs.Ytdelcebkpdnnjaa
open Go.RowKit Go.Deep Go.Sort

theorem shortOf_49 (g : Rows) (l : List Quad) : (shortOf g l).length ≤ 49 := by
  by_cases h : EdOk g l
  · rw [shortOf_yes h]; exact make_len h.like
  · rw [shortOf_no h]; exact Nat.zero_le _

set_option maxHeartbeats 1000000 in
set_option maxRecDepth 100000 in
theorem l92Short_any (R P lo hi : Nat) (vg : Value) (g : Rows) (w : World) (h : Rd w R P) (hP : P ≤ 5000) (hO : OwnG lo hi w vg g) (hR : R < lo) (hhi : hi ≤ w.heap.size) :
    Calls Try.prog 71 #[.pointer (some ⟨R, 0, none⟩), vg] w fun e w' => ∃ u l P', e = .returned u ∧ OwnQ w.heap.size w'.heap.size w' u l ∧ l.length ≤ 60 ∧ Rd w' R P' ∧ P' ≤ P + 60 ∧ Touch R (R + 1) w w' := by
  have HR := Lib.hid h
  have hRw := h.lt
  have HG := Lib.hid hO
  clear h hO
  go_enter Try.func71, Try.ntmps71
  go_wp2_with fail
  refine (pick_i R P _ _ HR.out (by omega) (by omega) (by omega)).mono ?_
  rintro e w1 ⟨x, rfl, hx0, hx1, hrd1, ht1⟩
  obtain ⟨n, rfl⟩ : ∃ n : Nat, x = (n : Int) := ⟨x.toNat, by omega⟩
  have HR1 := Lib.hid hrd1
  have HT1 := Lib.hid ht1
  have HG1 := Lib.hid (HG.out.touch ht1 (.inr (by omega)))
  have z1 := ht1.size
  clear hrd1 ht1
  go_wp2_with fail
  refine (l92Some_any R (P + 1) n lo hi vg g w1 HR1.out (by omega) (by omega) HG1.out hR (by omega)).mono ?_
  rintro e w2 ⟨u, l, P2, rfl, hQ, hl, hrd2, hP2, ht2⟩
  have HR2 := Lib.hid hrd2
  have HT2 := Lib.hid (HT1.out.trans ht2)
  have HG2 := Lib.hid (HG1.out.touch ht2 (.inr (by omega)))
  have HQ2 := Lib.hid hQ
  have z2 := ht2.size
  clear hrd2 ht2 hQ
  go_wp2_with fail
  refine (specFixesShort_any vg u g l w2 (HG2.out.grid (by omega)) HQ2.out.quads).mono ?_
  rintro e w3 ⟨s, rfl, hS, hb3⟩
  have z3 := hb3.size
  have HR3 := Lib.hid (HR2.out.below hb3 (by omega))
  have HT3 := Lib.hid (HT2.out.then (hb3.mono (by omega)))
  have HQ3 := Lib.hid (HQ2.out.below hb3 (Nat.le_refl _))
  have HS3 := Lib.hid hS
  have h49 := shortOf_49 g l
  clear hb3 hS
  by_cases hs : EdOk g l
  · rw [decide_eq_true hs]
    clear hs
    go_wp2_with fail
    refine (pick_i R P2 _ _ HR3.out (by omega) (by omega) (by omega)).mono ?_
    rintro e w4 ⟨c, rfl, hc0, hc1, hrd4, ht4⟩
    have HR4 := Lib.hid hrd4
    have HT4 := Lib.hid (HT3.out.trans ht4)
    have HQ4 := Lib.hid (HQ3.out.touch ht4 (.inr (by omega)))
    have HS4 := Lib.hid (HS3.out.touch ht4 (.inr (by omega)))
    have z4 := ht4.size
    clear hrd4 ht4
    by_cases c0 : 0 < c
    · go_wp2_with fail
      go_ret
      exact ⟨s, _, P2 + 1, rfl, HS4.out.mono (by omega) (by omega), by omega, HR4.out, by omega, HT4.out⟩
    · go_wp2_with fail
      go_ret
      exact ⟨u, l, P2 + 1, rfl, HQ4.out.mono (by omega) (by omega), by omega, HR4.out, by omega, HT4.out⟩
  · rw [decide_eq_false hs]
    clear hs
    go_wp2_with fail
    go_ret
    exact ⟨u, l, P2, rfl, HQ3.out.mono (by omega) (by omega), by omega, HR3.out, by omega, HT3.out⟩

set_option maxHeartbeats 2000000 in
set_option maxRecDepth 100000 in
theorem l92Both_any (R P : Nat) (w : World) (h : Rd w R P) (hP : P ≤ 2000) :
    Calls Try.prog 54 #[.pointer (some ⟨R, 0, none⟩)] w fun e w' => ∃ v u1 u2 g l1 l2, e = .returned (.tuple #[v, u1, u2]) ∧ Grid w' v g ∧ Quads w' u1 l1 ∧ Quads w' u2 l2 ∧ Drawn g ∧ l1.length ≤ 60 ∧ l2.length ≤ 60 ∧ Touch R (R + 1) w w' := by
  have HR := Lib.hid h
  have hRw := h.lt
  clear h
  go_enter Try.func54, Try.ntmps54
  go_wp2_with fail
  refine (l91Grid_any R P w HR.out (by omega)).mono ?_
  rintro e w1 ⟨v, g, P1, rfl, hO, hD, hrd1, hP1, ht1⟩
  have HR1 := Lib.hid hrd1
  have HT1 := Lib.hid ht1
  have HG1 := Lib.hid hO
  have DG := Lib.hid hD
  have z1 := ht1.size
  clear hrd1 ht1 hO hD
  go_wp2_with fail
  refine (l92Short_any R P1 w.heap.size w1.heap.size v g w1 HR1.out (by omega) HG1.out hRw (Nat.le_refl _)).mono ?_
  rintro e w2 ⟨u, l, P2, rfl, hQ, hl, hrd2, hP2, ht2⟩
  have HR2 := Lib.hid hrd2
  have HT2 := Lib.hid (HT1.out.trans ht2)
  have HG2 := Lib.hid (HG1.out.touch ht2 (.inr (by omega)))
  have HQ2 := Lib.hid hQ
  have z2 := ht2.size
  obtain ⟨ua, uc, rfl, c1, c2, c3⟩ := id hQ.quadsB
  clear hrd2 ht2 hQ c3
  have FIN : Hid (∀ W PP, Rd W R PP → PP ≤ P2 + 2 → w1.heap.size ≤ W.heap.size → OwnG w.heap.size w1.heap.size W v g → Calls Try.prog 71 #[.pointer (some ⟨R, 0, none⟩), v] W fun e w' => ∃ u l P', e = .returned u ∧ OwnQ W.heap.size w'.heap.size w' u l ∧ l.length ≤ 60 ∧ Rd w' R P' ∧ P' ≤ PP + 60 ∧ Touch R (R + 1) W w') := fun W PP h1 h2 h3 h4 => l92Short_any R PP w.heap.size w1.heap.size v g W h1 (by omega) h4 hRw h3
  by_cases h1 : 1 < l.length
  · have h1' : (1 : Int) < (l.length : Int) := by omega
    go_wp2_with fail
    refine (pick_i R P2 _ _ HR2.out (by omega) (by omega) (by omega)).mono ?_
    rintro e w3 ⟨x, rfl, hx0, hx1, hrd3, ht3⟩
    have HR3 := Lib.hid hrd3
    have HT3 := Lib.hid (HT2.out.trans ht3)
    have HG3 := Lib.hid (HG2.out.touch ht3 (.inr (by omega)))
    have HQ3 := Lib.hid (HQ2.out.touch ht3 (.inr (by omega)))
    have z3 := ht3.size
    clear hrd3 ht3
    by_cases x0 : x = 0
    · subst x0
      have e1 : IntKind.i64.wrap ((l.length : Int) - 1) = (l.length : Int) - 1 := IntWalk.i64_in _ (by omega)
      go_wp2_with fail
      refine (pick_i R (P2 + 1) _ _ HR3.out (by omega) (by omega) (by omega)).mono ?_
      rintro e w4 ⟨y, rfl, hy0, hy1, hrd4, ht4⟩
      obtain ⟨yn, rfl⟩ : ∃ n : Nat, y = (n : Int) := ⟨y.toNat, by omega⟩
      have HR4 := Lib.hid hrd4
      have HT4 := Lib.hid (HT3.out.trans ht4)
      have HG4 := Lib.hid (HG3.out.touch ht4 (.inr (by omega)))
      have HQ4 := Lib.hid (HQ3.out.touch ht4 (.inr (by omega)))
      have z4 := ht4.size
      clear hrd4 ht4
      obtain ⟨k, hk⟩ : ∃ n, n = 1 + yn := ⟨_, rfl⟩
      have e2 : 1 + (yn : Int) = (k : Int) := by omega
      have e2' : IntKind.i64.wrap (1 + (yn : Int)) = (k : Int) := by rw [e2]; exact IntWalk.i64_in _ (by omega)
      have e2n : IntKind.i64.wrap (k : Int) = (k : Int) := IntWalk.i64_in _ (by omega)
      have hk4 : 1 ≤ k ∧ k < l.length := by omega
      clear hk
      have k1 : k ≤ uc := by omega
      have CP : Hid (Calls Try.prog 77 #[.pointer (some ⟨R, 0, none⟩), .int .i64 2] w4.drew fun e w' => ∃ m c : Nat, e = .returned (.int .i64 (c : Int)) ∧ c ≤ 1 ∧ (k : Int) - (c : Int) = (m : Int) ∧ IntKind.i64.wrap ((k : Int) - (c : Int)) = (m : Int) ∧ m < l.length ∧ Touch R (R + 1) w4.drew w') := by
        refine (pick_i R (P2 + 1 + 1) 2 w4.drew (HR4.out.below (below_n (Below.refl _ _) 1) HR4.out.lt) (by omega) (by omega) (by omega)).mono ?_
        rintro e w' ⟨c, rfl, q0, q1, q2, q3⟩
        obtain ⟨cn, rfl⟩ : ∃ n : Nat, c = (n : Int) := ⟨c.toNat, by omega⟩
        obtain ⟨m, hm⟩ : ∃ m : Nat, (k : Int) - (cn : Int) = (m : Int) := ⟨k - cn, by omega⟩
        exact ⟨m, cn, rfl, by omega, hm, by rw [hm]; exact IntWalk.i64_in _ (by omega), by omega, q3⟩
      go_wp2_with fail
      go_region_held3 (fun _ => True)
        (first | trivial | go_keep)
        (first | (go_at_call 77; (with_reducible refine CP.out.mono ?_); rintro e w5 ⟨m, c, rfl, hc1, hm1, hm2, hm3, ht5⟩; have hm4 : m < uc := (by omega); have hm5 : IntKind.i64.wrap (m : Int) = (m : Int) := IntWalk.i64_in _ (by omega); have hm6 : m ≤ l.length := (by omega); have hm7 : m ≤ uc := (by omega); have hm8 : (m : Int) ≤ (uc : Int) := (by omega); have hm9 : ¬ m = uc := (by omega); have hm10 : ¬ uc ≤ m := (by omega)) | fail)
      have HD5 := Lib.hid (show Below w4.heap.size w4 w4.drew from below_n (Below.refl _ _) 1)
      have z5 : w4.heap.size ≤ w5.heap.size := ht5.size
      have HT5 := Lib.hid ((HT4.out.then (HD5.out.mono (by omega))).trans ht5)
      have HG5 := Lib.hid (((HG4.out.below HD5.out (by omega)).touch ht5 (.inr (by omega))).grid (by omega))
      have HQ5 := Lib.hid ((HQ4.out.below HD5.out (by omega)).touch ht5 (.inr (by omega))).quadsB
      have E : (if uc = m then ua else Option.map (fun x => x.add (m * 4)) ua) = Option.map (fun x => x.add (m * 4)) ua := if_neg (by omega)
      rw [E]
      have QA := Lib.hid ((HQ5.out.take (show k ≤ l.length by omega)).quads (by omega))
      have QB := Lib.hid ((HQ5.out.drop (show m ≤ l.length by omega)).quads (by omega))
      clear E ht5
      go_wp2_with fail
      exact bodyPost_ret (v := .tuple #[_, _, _]) (by simp [results, Try.results54, go_sem]) rfl ⟨v, _, _, g, _, _, rfl, HG5.out, QA.out, QB.out, DG.out, by rw [List.length_take]; omega, by rw [List.length_drop]; omega, HT5.out⟩
    · have q0 : (x == 0) = false := by simp [x0]
      clear x0
      go_wp2_with fail
      refine (FIN.out w3 (P2 + 1) HR3.out (by omega) (by omega) HG3.out).mono ?_
      rintro e w5 ⟨u5, l5, P5, rfl, hQ5, hl5, hrd5, hP5, ht5⟩
      have HT5 := Lib.hid (HT3.out.trans ht5)
      have HG5 := Lib.hid (HG3.out.touch ht5 (.inr (by omega)))
      have HQ5 := Lib.hid (HQ3.out.touch ht5 (.inr (by omega)))
      have z5 := ht5.size
      go_wp2
      exact bodyPost_ret (v := .tuple #[_, _, _]) (by simp [results, Try.results54, go_sem]) rfl ⟨v, _, u5, g, l, l5, rfl, HG5.out.grid (by omega), HQ5.out.quads, hQ5.quads, DG.out, hl, hl5, HT5.out⟩
  · have h1' : ¬ (1 : Int) < (l.length : Int) := by omega
    go_wp2_with fail
    refine (FIN.out w2 P2 HR2.out (by omega) (by omega) HG2.out).mono ?_
    rintro e w5 ⟨u5, l5, P5, rfl, hQ5, hl5, hrd5, hP5, ht5⟩
    have HT5 := Lib.hid (HT2.out.trans ht5)
    have HG5 := Lib.hid (HG2.out.touch ht5 (.inr (by omega)))
    have HQ5 := Lib.hid (HQ2.out.touch ht5 (.inr (by omega)))
    have z5 := ht5.size
    go_wp2
    exact bodyPost_ret (v := .tuple #[_, _, _]) (by simp [results, Try.results54, go_sem]) rfl ⟨v, _, u5, g, l, l5, rfl, HG5.out.grid (by omega), HQ5.out.quads, hQ5.quads, DG.out, hl, hl5, HT5.out⟩

set_option maxHeartbeats 1000000 in
set_option maxRecDepth 100000 in
theorem DrawFixesAre_any (v : Value) (n : Nat) (w : World) (h : Bytes w v n) :
    Calls Try.prog 34 #[v] w fun e w' => ∃ va vb g l, e = .returned (.tuple #[va, vb]) ∧ Grid w' va g ∧ Quads w' vb l ∧ Drawn g ∧ l.length ≤ 60 ∧ Below w.heap.size w w' := by
  have C := Lib.hid (l6Open_any v n w h)
  clear h
  go_enter Try.func34, Try.ntmps34
  go_wp2_with fail
  refine C.out.mono ?_
  rintro e w1 ⟨rfl, hrd, hb1⟩
  have B1 := Lib.hid hb1
  have z1 := hb1.size
  have hRw := hrd.lt
  clear hb1
  go_wp2_with fail
  refine (l91Grid_any w.heap.size 0 w1 hrd (by omega)).mono ?_
  rintro e w2 ⟨va, g, P2, rfl, hO, hD, hrd2, hP2, ht2⟩
  have z2 := ht2.size
  have HT2 := Lib.hid ht2
  have HG2 := Lib.hid hO
  clear ht2 hO
  go_wp2_with fail
  refine (l92Short_any w.heap.size P2 _ _ va g w2 hrd2 (by omega) HG2.out hRw (Nat.le_refl _)).mono ?_
  rintro e w3 ⟨vb, l, P3, rfl, hQ, hl, hrd3, hP3, ht3⟩
  have z3 := ht3.size
  have HA := Lib.hid ((HG2.out.touch ht3 (.inr (by omega))).grid (by omega))
  have HB := Lib.hid hQ.quads
  have HT := Lib.hid (B1.out.trans ((HT2.out.trans ht3).below (Nat.le_refl _) z1))
  clear hQ ht3
  go_wp2
  go_ret2
  exact ⟨va, vb, g, l, rfl, HA.out, HB.out, hD, hl, HT.out⟩

set_option maxHeartbeats 400000 in
theorem DrawFixesBoth_any (v : Value) (n : Nat) (w : World) (h : Bytes w v n) :
    Calls Try.prog 16 #[v] w fun e w' => ∃ v u1 u2 g l1 l2, e = .returned (.tuple #[v, u1, u2]) ∧ Grid w' v g ∧ Quads w' u1 l1 ∧ Quads w' u2 l2 ∧ Drawn g ∧ l1.length ≤ 60 ∧ l2.length ≤ 60 ∧ Below w.heap.size w w' := by
  have C := Lib.hid (l6Open_any v n w h)
  clear h
  go_enter Try.func16, Try.ntmps16
  go_wp2_with fail
  refine C.out.mono ?_
  rintro e w1 ⟨rfl, hrd, hb1⟩
  have B1 := Lib.hid hb1
  have z1 := hb1.size
  clear hb1
  go_wp2_with fail
  refine (l92Both_any w.heap.size 0 w1 hrd (by omega)).mono ?_
  rintro e w2 ⟨v, u1, u2, g, l1, l2, rfl, ha, hb, hc, da, n1, n2, ht⟩
  have HT := Lib.hid (B1.out.trans (ht.below (Nat.le_refl _) z1))
  have HA := Lib.hid ha
  have HB := Lib.hid hb
  have HC := Lib.hid hc
  clear ha hb hc ht
  go_wp2
  exact bodyPost_ret (v := .tuple #[_, _, _]) (by simp [results, Try.results16, go_sem]) rfl ⟨v, u1, u2, g, l1, l2, rfl, HA.out, HB.out, HC.out, da, n1, n2, HT.out⟩
end Go.Proofs.Ytdelcebkpdnnjaa
