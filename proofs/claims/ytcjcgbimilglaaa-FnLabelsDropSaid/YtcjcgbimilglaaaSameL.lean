/-
  The laws' sameLabels. Condition: the slices read as lists of labels.
-/
import Derived.Test.YtcjcgbimilglaaaLabEq
import Derived.Deep.QuietTactic
namespace Go.Proofs.Ytcjcgbimilglaaa
open Go.RowKit Go.Deep

set_option maxHeartbeats 1000000 in
set_option maxRecDepth 100000 in
theorem sameLabels_any (va vb : Value) (la lb : List Quad) (w : World) (ha : Quads w va la) (hb : Quads w vb lb) :
    Calls Try.prog 63 #[va, vb] w fun e w' => e = .returned (.bool (decide (la = lb))) ∧ Below w.heap.size w w' := by
  obtain ⟨a, ca, rfl, ha1, ha2, ha3⟩ := ha
  obtain ⟨b, cb, rfl, hb1, hb2, hb3⟩ := hb
  by_cases hlen : la.length = lb.length
  · have hlt' : ((la.length : Int) != (lb.length : Int)) = false := by simp [hlen]
    have HL := Lib.hid hlen
    clear hlen
    go_enter Try.func63, Try.ntmps63
    go_wp2
    go_loopw [5] (fun i wr => ∃ k : Nat, k ≤ la.length ∧ i = .int .i64 k ∧ Below w.heap.size w wr ∧ ∀ j, j < k → la[j]?.getD q0 = lb[j]?.getD q0) (fun i _ => la.length - (intOf i).toNat)
    case atStart => exact ⟨0, Nat.zero_le _, rfl, Below.refl _ _, fun j hj => by omega⟩
    case round =>
      obtain ⟨k, hk, rfl, hbel, hsame⟩ := hrel
      have HS := Lib.hid hsame
      clear hsame
      by_cases hlt : k < la.length
      · obtain ⟨b1, off1, rfl, hb1', hcell1⟩ := ha3 (by omega)
        obtain ⟨b2, off2, rfl, hb2', hcell2⟩ := hb3 (by have := HL.out; omega)
        have hl2 : k < lb.length := by have := HL.out; omega
        obtain ⟨c0, c1, c2, c3⟩ := (hcell1 k hlt).below hbel hb1'
        obtain ⟨d0, d1, d2, d3⟩ := (hcell2 k hl2).below hbel hb2'
        rw [getQ_eq hlt] at c0 c1 c2 c3
        rw [getQ_eq hl2] at d0 d1 d2 d3
        have HB := Lib.hid hbel
        have hs := hbel.size
        have E1 := Lib.hid (getQ_eq hlt)
        have E2 := Lib.hid (getQ_eq hl2)
        obtain ⟨p, hp⟩ : ∃ p, p = la[k] := ⟨_, rfl⟩
        obtain ⟨q, hq⟩ : ∃ q, q = lb[k] := ⟨_, rfl⟩
        rw [← hp] at c0 c1 c2 c3 E1
        rw [← hq] at d0 d1 d2 d3 E2
        clear hcell1 hcell2 ha3 hb3 hbel hp hq
        go_wp2
        go_still_tail 8, (by kernel_rfl)
        change wpList _ _ _ _ _ wr.drew
        go_wp2_with fail
        · refine ⟨⟨k + 1, by omega, by go_num, HB.out.drew, fun j hj => ?_⟩, by simp [intOf]; omega⟩
          by_cases e : j = k
          · subst e
            rw [E1.out, E2.out]
            exact Prod.ext (by assumption) (Prod.ext (by assumption) (Prod.ext (by assumption) (by assumption)))
          · exact HS.out j (by omega)
        all_goals
          have hn : ¬ la = lb := by
            intro h
            have e : p = q := by rw [← E1.out, ← E2.out, h]
            subst e
            contradiction
          go_ret
          exact ⟨ret_bool (decide_eq_false hn).symm, HB.out.drew⟩
      · go_wp2
        go_ret
        exact ⟨ret_bool (decide_eq_true (listQ_eq HL.out (fun j hj => HS.out j (by omega)))).symm, hbel⟩
  · have hlt' : ((la.length : Int) != (lb.length : Int)) = true := by simp; omega
    have HL := Lib.hid hlen
    clear hlen
    go_enter Try.func63, Try.ntmps63
    go_wp2
    go_ret
    exact ⟨ret_bool (decide_eq_false fun h => HL.out (by rw [h])).symm, Below.refl _ _⟩
end Go.Proofs.Ytcjcgbimilglaaa
