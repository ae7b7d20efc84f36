/-
  FnFixesBoth: for all arguments the law returns true and leaves what was there as it was. No condition.
-/
import Derived.Test.YtdelcebkpdnnjaaBothLaw
import Derived.Test.YtdelcebkpdnnjaaFacts
import Derived.ProofKit
import Derived.OpenShut
import Derived.ShutString
import Derived.ChangeOld
import Derived.Below
import Derived.Test.YtdelcebkpdnnjaaFacts
import Derived.ProofKit
import Derived.OpenShut
import Derived.ShutString
import Derived.ChangeOld
import Derived.Below
namespace Go.Proofs.Ytdelcebkpdnnjaa
open Go.RowKit Go.Deep

theorem grow_one {l : List Quad} {q : Quad} {m : Nat} (h : ∃ j, j < m ∧ l[j]?.getD q0 = q) : ∃ j, j < m + 1 ∧ l[j]?.getD q0 = q := by
  obtain ⟨j, hj, e⟩ := h
  exact ⟨j, by omega, e⟩
theorem hit_one {l : List Quad} {q : Quad} {m : Nat} (h : l[m]?.getD q0 = q) : ∃ j, j < m + 1 ∧ l[j]?.getD q0 = q := ⟨m, by omega, h⟩
theorem miss_one {l : List Quad} {q : Quad} {m : Nat} (h : ¬ ∃ j, j < m ∧ l[j]?.getD q0 = q) (hne : ¬ l[m]?.getD q0 = q) : ¬ ∃ j, j < m + 1 ∧ l[j]?.getD q0 = q := by
  rintro ⟨j, hj, e⟩
  by_cases hjm : j = m
  · subst hjm; exact hne e
  · exact h ⟨j, by omega, e⟩
theorem grow_two {p : Prop} {l : List Quad} {q : Quad} {m : Nat} (h : p ∨ ∃ j, j < m ∧ l[j]?.getD q0 = q) : p ∨ ∃ j, j < m + 1 ∧ l[j]?.getD q0 = q := h.imp id grow_one
theorem miss_two {p : Prop} {l : List Quad} {q : Quad} {m : Nat} (h : ¬ (p ∨ ∃ j, j < m ∧ l[j]?.getD q0 = q)) (hne : ¬ l[m]?.getD q0 = q) : ¬ (p ∨ ∃ j, j < m + 1 ∧ l[j]?.getD q0 = q) := fun h2 =>
  h2.elim (fun hp => h (.inl hp)) (miss_one (fun hj => h (.inr hj)) hne)
set_option maxHeartbeats 4000000 in
set_option maxRecDepth 100000 in
theorem FnFixesBoth_walk (v : Value) (n : Nat) (w : World) (h : Bytes w v n) :
    Calls Try.prog 4 #[v] w fun e w' => e = .returned (.bool true) ∧ Below w.heap.size w w' := by
  have CD := Lib.hid (DrawFixesBoth_any v n w h)
  obtain ⟨a, cap, rfl, h1, h2, h3⟩ := h
  clear h3
  by_cases hbig : 1048576 < n
  · have hb' : (1048576 : Int) < (n : Int) := by omega
    go_enter Try.func4, Try.ntmps4
    go_wp2
    go_ret
    exact ⟨rfl, Below.refl _ _⟩
  have hb' : ¬ (1048576 : Int) < (n : Int) := by omega
  clear hbig
  go_enter Try.func4, Try.ntmps4
  go_wp2_with fail
  refine CD.out.mono ?_
  rintro e w1 ⟨va, vb, vc, ga, la, lb, rfl, hA, hB, hC, dA, hl1, hl2, hb1⟩
  have B := Lib.hid hb1
  have s1 := hb1.size
  obtain ⟨bp, cp, rfl, c1, c2, c3⟩ := id hB
  obtain ⟨bq, cq, rfl, c4, c5, c6⟩ := id hC
  clear c3 c6
  have A := Lib.hid (show GridB w1.heap.size w1 va ga from hA)
  have L := Lib.hid (show QuadsB w1.heap.size w1 (.slice bp la.length cp) la from hB)
  have M := Lib.hid (show QuadsB w1.heap.size w1 (.slice bq lb.length cq) lb from hC)
  clear hA hB hC hb1 CD
  go_wp2_with fail
  with_reducible refine (FixesBoth_any va _ _ ga la lb w1 (A.out.grid (by omega)) (L.out.quads (by omega)) (M.out.quads (by omega))).mono ?_
  rintro e w2 ⟨vo, rfl, hO, hb2⟩
  have s2 := hb2.size
  replace A := Lib.hid (A.out.below hb2 (by omega))
  replace L := Lib.hid (L.out.below hb2 (by omega))
  replace M := Lib.hid (M.out.below hb2 (by omega))
  replace B := Lib.hid (B.out.trans (hb2.mono (by omega)))
  clear hb2
  have OQ := Lib.hid (show QuadsB w2.heap.size w2 vo (bothOf ga la lb) from hO.quadsB)
  clear hO
  go_wp2_with fail
  with_reducible refine (specFixesBoth_any va _ _ ga la lb w2 (A.out.grid (by omega)) (L.out.quads (by omega)) (M.out.quads (by omega))).mono ?_
  rintro e w3 ⟨vu, rfl, hO, hb3⟩
  have s3 := hb3.size
  replace A := Lib.hid (A.out.below hb3 (by omega))
  replace L := Lib.hid (L.out.below hb3 (by omega))
  replace M := Lib.hid (M.out.below hb3 (by omega))
  replace OQ := Lib.hid (OQ.out.below hb3 (by omega))
  replace B := Lib.hid (B.out.trans (hb3.mono (by omega)))
  clear hb3
  have UQ := Lib.hid (show QuadsB w3.heap.size w3 vu (bothOf ga la lb) from hO.quadsB)
  clear hO
  obtain ⟨sl, hsl⟩ : ∃ x, x = bothOf ga la lb := ⟨_, rfl⟩
  rw [← hsl] at OQ UQ
  obtain ⟨oa, oc, rfl, o1, o2, o3⟩ := id OQ.out
  clear o3
  by_cases hs : BothOk ga la lb
  · rw [decide_eq_true hs]
    have HS := Lib.hid hs
    have SW : Hid (bothOf ga lb la = sl) := (both_swap hs).trans hsl.symm
    have AD : Hid (EdOk ga sl ∧ edition ga sl = bothG ga la lb) := by show _ ∧ _; rw [hsl, bothOf_yes hs]; exact make_ok (both_like hs)
    have FD : Hid (∀ k, k < sl.length → (∃ j, j < la.length ∧ la[j]?.getD q0 = sl[k]?.getD q0) ∨ ∃ j, j < lb.length ∧ lb[j]?.getD q0 = sl[k]?.getD q0) := fun k hk => by rw [hsl] at hk ⊢; exact both_found hs hk
    obtain ⟨rl, hrl⟩ : ∃ x, x = diffsOf (edition ga la) (bothG ga la lb) := ⟨_, rfl⟩
    obtain ⟨n1, n2, n3⟩ : sl.length ≤ la.length + rl.length ∧ la.length + rl.length ≤ sl.length ∧ rl.length ≤ lb.length := by have h := both_lens hs; rw [← hsl, ← hrl] at h; omega
    have RL := Lib.hid hrl
    clear hs hsl hrl
    have CX : Hid (∀ w, Grid w va ga → Quads w (.slice bq lb.length cq) lb → Quads w (.slice bp la.length cp) la → Calls Try.prog 17 #[va, .slice bq lb.length cq, .slice bp la.length cp] w fun e w' => ∃ v, e = .returned (.tuple #[v, .bool true]) ∧ OwnQ w.heap.size w'.heap.size w' v (sl) ∧ Below w.heap.size w w') := by
      intro w hg hm hl
      have h := FixesBoth_any va (.slice bq lb.length cq) (.slice bp la.length cp) ga lb la w hg hm hl
      rw [decide_eq_true (both_sym HS.out), SW.out] at h
      exact h
    have CD : Hid (∀ w, Grid w va ga → Quads w (.slice bp la.length cp) la → Calls Try.prog 20 #[va, .slice bp la.length cp] w fun e w' => ∃ v, e = .returned (.tuple #[v, .bool true]) ∧ OwnG w.heap.size w'.heap.size w' v (edition ga la) ∧ Below w.heap.size w w') := by
      intro w hg hl
      have h := FixesDo_any va (.slice bp la.length cp) ga la w hg hl
      rw [decide_eq_true HS.out.1.1, edAll_yes HS.out.1.1] at h
      exact h
    have CO : Hid (∀ w, Grid w va ga → Quads w (.slice oa sl.length oc) sl → Calls Try.prog 20 #[va, .slice oa sl.length oc] w fun e w' => ∃ v, e = .returned (.tuple #[v, .bool true]) ∧ OwnG w.heap.size w'.heap.size w' v (bothG ga la lb) ∧ Below w.heap.size w w') := by
      intro w hg hl
      have h := FixesDo_any va (.slice oa sl.length oc) ga sl w hg hl
      rw [decide_eq_true AD.out.1, edAll_yes AD.out.1, AD.out.2] at h
      exact h
    have CM : Hid (∀ w vx vy, Grid w vx (edition ga la) → Grid w vy (bothG ga la lb) → Calls Try.prog 21 #[vx, vy] w fun e w' => ∃ v, e = .returned (.tuple #[v, .bool true]) ∧ OwnQ w.heap.size w'.heap.size w' v (rl) ∧ Below w.heap.size w w') := by
      intro w vx vy hx hy
      have h := FixesMake_any vx vy _ _ w hx hy
      rw [decide_eq_true (both_like2 HS.out), makeOf_yes (both_like2 HS.out), ← RL.out] at h
      exact h
    go_wp2_with fail
    with_reducible refine (sameFixes_any _ vu sl sl w3 (OQ.out.quads (by omega)) (UQ.out.quads (by omega))).mono ?_
    rintro e w4 ⟨rfl, hb4⟩
    rw [decide_eq_true (rfl : sl = sl)]
    have s4 := hb4.size
    replace A := Lib.hid (A.out.below hb4 (by omega))
    replace L := Lib.hid (L.out.below hb4 (by omega))
    replace M := Lib.hid (M.out.below hb4 (by omega))
    replace OQ := Lib.hid (OQ.out.below hb4 (by omega))
    replace UQ := Lib.hid (UQ.out.below hb4 (by omega))
    replace B := Lib.hid (B.out.trans (hb4.mono (by omega)))
    clear hb4
    clear UQ
    go_wp2_with fail
    with_reducible refine (CX.out w4 (A.out.grid (by omega)) (M.out.quads (by omega)) (L.out.quads (by omega))).mono ?_
    rintro e w5 ⟨vx, rfl, hO, hb5⟩
    have s5 := hb5.size
    replace A := Lib.hid (A.out.below hb5 (by omega))
    replace L := Lib.hid (L.out.below hb5 (by omega))
    replace M := Lib.hid (M.out.below hb5 (by omega))
    replace OQ := Lib.hid (OQ.out.below hb5 (by omega))
    replace B := Lib.hid (B.out.trans (hb5.mono (by omega)))
    clear hb5
    have XQ := Lib.hid (show QuadsB w5.heap.size w5 vx (sl) from hO.quadsB)
    clear hO
    clear CX SW AD HS RL
    obtain ⟨xa, xc, rfl, x1, x2, x3⟩ := id XQ.out
    clear x3
    obtain ⟨pa, pc, e1, e2, e3, e4⟩ := id L.out
    obtain ⟨rfl, rfl⟩ : _ = pa ∧ _ = pc := by simpa using e1
    have HCA := Lib.hid e4
    clear e1 e2 e3 e4
    obtain ⟨pa, pc, e1, e2, e3, e4⟩ := id M.out
    obtain ⟨rfl, rfl⟩ : _ = pa ∧ _ = pc := by simpa using e1
    have HCB := Lib.hid e4
    clear e1 e2 e3 e4
    obtain ⟨pa, pc, e1, e2, e3, e4⟩ := id OQ.out
    obtain ⟨rfl, rfl⟩ : _ = pa ∧ _ = pc := by simpa using e1
    have HCO := Lib.hid e4
    clear e1 e2 e3 e4
    go_wp2_with fail
    go_loopw [12] (fun i wr => ∃ k n : Nat, k ≤ sl.length ∧ i = .int .i64 k ∧ wr = w5.drewN n) (fun i _ => sl.length - (intOf i).toNat)
    case atStart => exact ⟨0, 0, Nat.zero_le _, rfl, rfl⟩
    case round =>
      obtain ⟨k, n0, hk, rfl, rfl⟩ := hrel
      have k1 : (0 : Int) ≤ (k : Int) := by omega
      by_cases hlt : k < sl.length
      · have k2 : (k : Int) < (sl.length : Int) := by omega
        obtain ⟨b1, off1, rfl, hb1', hcell1⟩ := HCO.out (by omega)
        obtain ⟨c0, c1', c2', c3⟩ := hcell1 k hlt
        clear hcell1
        obtain ⟨q, hq⟩ : ∃ q, q = sl[k]?.getD q0 := ⟨_, rfl⟩
        rw [← hq] at c0 c1' c2' c3
        have HQ := Lib.hid hq
        clear hq
        go_wp2_with fail
        go_loopw [13, 14] (fun s i wr => ∃ (m n : Nat) (f : Bool), m ≤ la.length ∧ i = .int .i64 m ∧ s = .bool f ∧ wr = w5.drewN n ∧ (f = true ↔ (∃ j, j < m ∧ la[j]?.getD q0 = q))) (fun _ i _ => la.length - (intOf i).toNat)
        case atStart => exact ⟨0, n0, _, Nat.zero_le _, rfl, rfl, rfl, ⟨fun h => absurd h Bool.false_ne_true, by rintro ⟨j, hj, -⟩; omega⟩⟩
        case round =>
          obtain ⟨m1, n1, f1, hm, rfl, rfl, rfl, hf⟩ := hrel
          have HFf1 := Lib.hid hf
          clear hf
          have k1m1 : (0 : Int) ≤ (m1 : Int) := by omega
          by_cases hlm : m1 < la.length
          · have k2m1 : (m1 : Int) < (la.length : Int) := by omega
            obtain ⟨b2, off2, rfl, hb2', hcell2⟩ := HCA.out (by omega)
            obtain ⟨d0, d1, d2, d3⟩ := hcell2 m1 hlm
            clear hcell2
            obtain ⟨r, hr⟩ : ∃ r, r = la[m1]?.getD q0 := ⟨_, rfl⟩
            rw [← hr] at d0 d1 d2 d3
            have HR := Lib.hid hr
            clear hr
            cases f1 with
            | true =>
              have HT := Lib.hid (HFf1.out.1 rfl)
              go_wp2_with fail
              go_quiet (fail)
              go_wp2_with fail
              go_roundw
              case rel => exact ⟨m1 + 1, n1 + nq, true, by omega, by go_num, rfl, by first | rfl | rw [World.drewN_drewN], ⟨fun _ => grow_one HT.out, fun _ => rfl⟩⟩
              case measure => simp [intOf]; omega
            | false =>
              have HNF : Hid (¬ (∃ j, j < m1 ∧ la[j]?.getD q0 = q)) := fun h => Bool.false_ne_true (HFf1.out.2 h)
              by_cases he : r = q
              · have heq : ∀ W, (Op.equalIn 10000 41 (qv r) (qv q)).run Try.prog W = .ok true W := by rw [he]; exact eq_fix_yes q
                have HE := Lib.hid he
                clear he
                go_wp2_with fail
                go_quiet (fail)
                go_wp2_with fail
                go_roundw
                case rel => exact ⟨m1 + 1, n1 + nq, true, by omega, by go_num, rfl, by first | rfl | rw [World.drewN_drewN], ⟨fun _ => hit_one (HR.out.symm.trans HE.out), fun _ => rfl⟩⟩
                case measure => simp [intOf]; omega
              · have heq := eq_fix_no r q he
                have HE := Lib.hid he
                clear he
                go_wp2_with fail
                go_quiet (fail)
                go_wp2_with fail
                go_roundw
                case rel => exact ⟨m1 + 1, n1 + nq, false, by omega, by go_num, rfl, by first | rfl | rw [World.drewN_drewN], ⟨fun h => absurd h Bool.false_ne_true, fun h => absurd h (miss_one HNF.out fun e => HE.out (HR.out.trans e))⟩⟩
                case measure => simp [intOf]; omega
          · have HMm1 := Lib.hid (show m1 = la.length by omega)
            have k3m1 : ¬ (m1 : Int) < (la.length : Int) := by omega
            clear hlm
            go_wp2_with fail
            go_loopw [13, 15] (fun s i wr => ∃ (m n : Nat) (f : Bool), m ≤ lb.length ∧ i = .int .i64 m ∧ s = .bool f ∧ wr = w5.drewN n ∧ (f = true ↔ (f1 = true ∨ ∃ j, j < m ∧ lb[j]?.getD q0 = q))) (fun _ i _ => lb.length - (intOf i).toNat)
            case atStart => exact ⟨0, n1, _, Nat.zero_le _, rfl, rfl, rfl, ⟨fun h => .inl h, fun h => h.elim id (by rintro ⟨j, hj, -⟩; omega)⟩⟩
            case round =>
              obtain ⟨m2, n2, f2, hm, rfl, rfl, rfl, hf⟩ := hrel
              have HFf2 := Lib.hid hf
              clear hf
              have k1m2 : (0 : Int) ≤ (m2 : Int) := by omega
              by_cases hlm : m2 < lb.length
              · have k2m2 : (m2 : Int) < (lb.length : Int) := by omega
                obtain ⟨b2, off2, rfl, hb2', hcell2⟩ := HCB.out (by omega)
                obtain ⟨d0, d1, d2, d3⟩ := hcell2 m2 hlm
                clear hcell2
                obtain ⟨r, hr⟩ : ∃ r, r = lb[m2]?.getD q0 := ⟨_, rfl⟩
                rw [← hr] at d0 d1 d2 d3
                have HR := Lib.hid hr
                clear hr
                cases f2 with
                | true =>
                  have HT := Lib.hid (HFf2.out.1 rfl)
                  go_wp2_with fail
                  go_quiet (fail)
                  go_wp2_with fail
                  go_roundw
                  case rel => exact ⟨m2 + 1, n2 + nq, true, by omega, by go_num, rfl, by first | rfl | rw [World.drewN_drewN], ⟨fun _ => grow_two HT.out, fun _ => rfl⟩⟩
                  case measure => simp [intOf]; omega
                | false =>
                  have HNF : Hid (¬ (f1 = true ∨ ∃ j, j < m2 ∧ lb[j]?.getD q0 = q)) := fun h => Bool.false_ne_true (HFf2.out.2 h)
                  by_cases he : r = q
                  · have heq : ∀ W, (Op.equalIn 10000 41 (qv r) (qv q)).run Try.prog W = .ok true W := by rw [he]; exact eq_fix_yes q
                    have HE := Lib.hid he
                    clear he
                    go_wp2_with fail
                    go_quiet (fail)
                    go_wp2_with fail
                    go_roundw
                    case rel => exact ⟨m2 + 1, n2 + nq, true, by omega, by go_num, rfl, by first | rfl | rw [World.drewN_drewN], ⟨fun _ => .inr (hit_one (HR.out.symm.trans HE.out)), fun _ => rfl⟩⟩
                    case measure => simp [intOf]; omega
                  · have heq := eq_fix_no r q he
                    have HE := Lib.hid he
                    clear he
                    go_wp2_with fail
                    go_quiet (fail)
                    go_wp2_with fail
                    go_roundw
                    case rel => exact ⟨m2 + 1, n2 + nq, false, by omega, by go_num, rfl, by first | rfl | rw [World.drewN_drewN], ⟨fun h => absurd h Bool.false_ne_true, fun h => absurd h (miss_two HNF.out fun e => HE.out (HR.out.trans e))⟩⟩
                    case measure => simp [intOf]; omega
              · have HMm2 := Lib.hid (show m2 = lb.length by omega)
                have k3m2 : ¬ (m2 : Int) < (lb.length : Int) := by omega
                clear hlm
                have HF3 : Hid (f2 = true) := HFf2.out.2 (by
                  have h := FD.out k hlt
                  rw [← HQ.out, ← HMm1.out, ← HMm2.out] at h
                  exact h.imp HFf1.out.2 id)
                obtain rfl : f2 = true := HF3.out
                go_wp2_with fail
                go_roundw
                case rel => exact ⟨k + 1, n2, by omega, by go_num, rfl⟩
                case measure => simp [intOf]; omega
      · have k3 : ¬ (k : Int) < (sl.length : Int) := by omega
        clear hlt
        obtain ⟨w6, hw6⟩ : ∃ x, x = w5.drewN n0 := ⟨_, rfl⟩
        rw [← hw6]
        have hb6 : Below w5.heap.size w5 w6 := by rw [hw6]; exact below_n (Below.refl _ _) n0
        clear hw6
        have s6 := hb6.size
        replace A := Lib.hid (A.out.below hb6 (by omega))
        replace L := Lib.hid (L.out.below hb6 (by omega))
        replace M := Lib.hid (M.out.below hb6 (by omega))
        replace OQ := Lib.hid (OQ.out.below hb6 (by omega))
        replace XQ := Lib.hid (XQ.out.below hb6 (by omega))
        replace B := Lib.hid (B.out.trans (hb6.mono (by omega)))
        clear hb6 HCA HCB HCO FD
        go_wp2_with fail
        with_reducible refine (CD.out w6 (A.out.grid (by omega)) (L.out.quads (by omega))).mono ?_
        rintro e w7 ⟨x, rfl, hO, hb7⟩
        have s7 := hb7.size
        replace A := Lib.hid (A.out.below hb7 (by omega))
        replace L := Lib.hid (L.out.below hb7 (by omega))
        replace M := Lib.hid (M.out.below hb7 (by omega))
        replace OQ := Lib.hid (OQ.out.below hb7 (by omega))
        replace XQ := Lib.hid (XQ.out.below hb7 (by omega))
        replace B := Lib.hid (B.out.trans (hb7.mono (by omega)))
        clear hb7
        have XG := Lib.hid (show GridB w7.heap.size w7 x (edition ga la) from hO.grid (Nat.le_refl _))
        clear hO
        go_wp2_with fail
        with_reducible refine (CO.out w7 (A.out.grid (by omega)) (OQ.out.quads (by omega))).mono ?_
        rintro e w8 ⟨y, rfl, hO, hb8⟩
        have s8 := hb8.size
        replace A := Lib.hid (A.out.below hb8 (by omega))
        replace L := Lib.hid (L.out.below hb8 (by omega))
        replace M := Lib.hid (M.out.below hb8 (by omega))
        replace OQ := Lib.hid (OQ.out.below hb8 (by omega))
        replace XQ := Lib.hid (XQ.out.below hb8 (by omega))
        replace XG := Lib.hid (XG.out.below hb8 (by omega))
        replace B := Lib.hid (B.out.trans (hb8.mono (by omega)))
        clear hb8
        have YG := Lib.hid (show GridB w8.heap.size w8 y (bothG ga la lb) from hO.grid (Nat.le_refl _))
        clear hO
        go_wp2_with fail
        with_reducible refine (CM.out w8 x y (XG.out.grid (by omega)) (YG.out.grid (by omega))).mono ?_
        rintro e w9 ⟨vr, rfl, hO, hb9⟩
        have s9 := hb9.size
        replace A := Lib.hid (A.out.below hb9 (by omega))
        replace L := Lib.hid (L.out.below hb9 (by omega))
        replace M := Lib.hid (M.out.below hb9 (by omega))
        replace OQ := Lib.hid (OQ.out.below hb9 (by omega))
        replace XQ := Lib.hid (XQ.out.below hb9 (by omega))
        replace XG := Lib.hid (XG.out.below hb9 (by omega))
        replace YG := Lib.hid (YG.out.below hb9 (by omega))
        replace B := Lib.hid (B.out.trans (hb9.mono (by omega)))
        clear hb9
        have RQ := Lib.hid (show QuadsB w9.heap.size w9 vr (rl) from hO.quadsB)
        clear hO
        clear CD CO CM
        obtain ⟨ra, rc, rfl, r1, r2, r3⟩ := id RQ.out
        clear r3
        have wf := wrap_small (x := (sl.length : Int) - (la.length : Int)) (by omega) (by omega)
        have wf2 := wrap_small (x := (la.length : Int) + (lb.length : Int)) (by omega) (by omega)
        have t1 : ((rl.length : Int) == (sl.length : Int) - (la.length : Int)) = true := by simp <;> omega
        have t2 : decide ((sl.length : Int) ≤ (la.length : Int) + (lb.length : Int)) = true := by simp <;> omega
        go_wp2_with fail
        with_reducible refine (sameFixes_any _ _ sl sl w9 (XQ.out.quads (by omega)) (OQ.out.quads (by omega))).mono ?_
        rintro e w10 ⟨rfl, hb10⟩
        rw [decide_eq_true (rfl : sl = sl)]
        have s10 := hb10.size
        replace A := Lib.hid (A.out.below hb10 (by omega))
        replace L := Lib.hid (L.out.below hb10 (by omega))
        replace M := Lib.hid (M.out.below hb10 (by omega))
        replace OQ := Lib.hid (OQ.out.below hb10 (by omega))
        replace XQ := Lib.hid (XQ.out.below hb10 (by omega))
        replace XG := Lib.hid (XG.out.below hb10 (by omega))
        replace YG := Lib.hid (YG.out.below hb10 (by omega))
        replace RQ := Lib.hid (RQ.out.below hb10 (by omega))
        replace B := Lib.hid (B.out.trans (hb10.mono (by omega)))
        clear hb10
        go_wp2
        go_ret
        exact ⟨ret_bool (by simp <;> omega), B.out⟩
  · rw [decide_eq_false hs]
    clear hs hsl
    go_wp2_with fail
    with_reducible refine (sameFixes_any _ vu sl sl w3 (OQ.out.quads (by omega)) (UQ.out.quads (by omega))).mono ?_
    rintro e w4 ⟨rfl, hb4⟩
    rw [decide_eq_true (rfl : sl = sl)]
    have s4 := hb4.size
    replace A := Lib.hid (A.out.below hb4 (by omega))
    replace L := Lib.hid (L.out.below hb4 (by omega))
    replace M := Lib.hid (M.out.below hb4 (by omega))
    replace OQ := Lib.hid (OQ.out.below hb4 (by omega))
    replace UQ := Lib.hid (UQ.out.below hb4 (by omega))
    replace B := Lib.hid (B.out.trans (hb4.mono (by omega)))
    clear hb4
    go_wp2_with fail
    with_reducible refine (sameFixes_any _ vu sl sl w4 (OQ.out.quads (by omega)) (UQ.out.quads (by omega))).mono ?_
    rintro e w5 ⟨rfl, hb5⟩
    rw [decide_eq_true (rfl : sl = sl)]
    have s5 := hb5.size
    replace A := Lib.hid (A.out.below hb5 (by omega))
    replace L := Lib.hid (L.out.below hb5 (by omega))
    replace M := Lib.hid (M.out.below hb5 (by omega))
    replace OQ := Lib.hid (OQ.out.below hb5 (by omega))
    replace UQ := Lib.hid (UQ.out.below hb5 (by omega))
    replace B := Lib.hid (B.out.trans (hb5.mono (by omega)))
    clear hb5
    go_wp2
    go_ret
    exact ⟨rfl, B.out⟩
end Go.Proofs.Ytdelcebkpdnnjaa
namespace Go.Proofs.Ytdelcebkpdnnjaa.fnFixesBoth
open Go.ChangeShapes Go.WideShapes Go.ChangeAt Go.RowKit
set_option linter.unusedVariables false

theorem own : ownKnob Try.prog.godebug = none := by kernel_rfl
theorem laidOut : laidOutB Try.prog = true := fact_laid
set_option maxRecDepth 100000 in
theorem lifted (os : Os) (started : os.Started) (H : Type) (enc : TypeId × Value → H) :
    ReturnsInHanded {} Try.checked os 4 .any (Rows.fnFixesBothSpec.pre6 enc Try.prog Try.f4 Rows.fnFixesBothRow.domain false) (Rows.fnFixesBothSpec.post enc Try.prog Try.f4 false true false false) := by
  refine returnsInHanded_of_change (C := Try.checked) own started (by kernel_rfl) Try.func4
    (ChangeSpec.witness6 (enc := enc) (C := Try.checked) false ⟨#[], #[.slice none 0 0], []⟩ 8 (by kernel_rfl) (by kernel_rfl) (by kernel_rfl) (by kernel_rfl)) ?_
  intro W base args ds gs before hval0 hW hcnd _
  have hval : ∀ (j : Nat) t v, Try.f4.params[j]? = some t → args[j]? = some v → Value.okWide Try.prog W .any base t v := hval0
  have hW' := hW
  obtain ⟨p, q, hA0, hV, rfl, hfz, hnd⟩ := hW
  have hA : DataW.TrodAll enc Try.prog W 0 (fun _ => true) true Try.f4.params.toList args.toList ds p := hA0
  rw [Try.params4] at hA hval
  obtain ⟨v0, vs0, d0, ds0, p0, q0, hargs, rfl, rfl, h0, r0⟩ := trodAll_cons hA
  obtain ⟨rfl, rfl, rfl⟩ := trodAll_nil r0
  obtain rfl : args = #[v0] := by cases args; simp_all
  obtain ⟨rfl, rfl⟩ := trodVars_none hV
  obtain ⟨a0, len0, cap0, rfl⟩ := okWide_slice Try.underlying22 (hval 0 22 v0 rfl rfl)
  have k0 := h0
  have lt0 : ∀ x ∈ p0, x.block < W.heap.size := by obtain ⟨m, hm⟩ := k0; exact DataW.trod_lt m _ _ _ hm
  obtain ⟨z0, w0⟩ : ∃ zs, Bytes W (.slice a0 len0 cap0) zs := bytes_opened h0
  clear hA0 hval0
  refine (FnFixesBoth_walk _ z0 W w0).mono fun e W' ⟨he, bel⟩ => ?_
  subst he
  exact ⟨_, rfl, _, _, _, [], _, [], hW', trodAll_mk1 (shut_bool Try.underlying4 _), (trodAll_cons_mk (Below.trod laidOut (by kernel_rfl) (of_decide_eq_true (by kernel_rfl)) k0 bel lt0) trodAll_mk0), rfl, bel.frame _, fun h => by cases h⟩
theorem fact_inPlace : (Rows.fnFixesBothRow.inPlace == Try.prog.inPlace 4) = true := by kernel_rfl
theorem fact_unfollowed : (Rows.fnFixesBothRow.unfollowed == Try.prog.unfollowed 4) = true := by kernel_rfl
theorem fact_recurses : (Rows.fnFixesBothRow.recurses == Try.prog.recurses 4) = true := by kernel_rfl
theorem fact_named : (Rows.fnFixesBothRow.named == Try.prog.varsNamed 4) = true := by kernel_rfl
theorem fact_plain : (Rows.fnFixesBothRow.plainKeys == Try.prog.plainKeys) = true := by kernel_rfl
theorem joined : joinedFacts Try.pinned.checked.prog 4 Try.f4 Rows.fnFixesBothSpec Rows.fnFixesBothRow = true :=
  joined_of (f := 4) (fn := Try.f4) (s := Rows.fnFixesBothSpec) (c := Rows.fnFixesBothRow) (by kernel_rfl) (by kernel_rfl) (by kernel_rfl) (by kernel_rfl) (by kernel_rfl) fact_inPlace fact_unfollowed fact_recurses fact_named (by kernel_rfl) (by kernel_rfl) (by kernel_rfl) (by kernel_rfl) (by kernel_rfl) (by kernel_rfl) (by kernel_rfl) (by kernel_rfl) (by kernel_rfl) fact_plain (by kernel_rfl) rfl rfl (by kernel_rfl) (by kernel_rfl) (by kernel_rfl) (by kernel_rfl)

/-- the statement -/
theorem proved : Rows.FnFixesBothSaid :=
  OpenClaim.holds_of_wide 4 Try.f4 rfl rfl rfl rfl rfl rfl rfl ⟨rfl, rfl, rfl, rfl, rfl⟩ rfl rfl rfl rfl rfl (by kernel_rfl) Try.func4 joined
    (of_decide_eq_true (by kernel_rfl)) (by unfold Func.isWrapper; first | (rw [if_pos (by decide +kernel)]; kernel_rfl) | (rw [if_neg (by decide +kernel)]; exact ⟨rfl, rfl⟩))
    (fun os started H enc _ => lifted os started H enc)
#print axioms proved
end Go.Proofs.Ytdelcebkpdnnjaa.fnFixesBoth
