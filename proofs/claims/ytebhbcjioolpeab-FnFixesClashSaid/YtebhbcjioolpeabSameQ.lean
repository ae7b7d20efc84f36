/-
  The laws' sameFixes. No condition.
-/
import Derived.Test.YtebhbcjioolpeabClash
import Derived.Test.YtebhbcjioolpeabSame
namespace Go.Proofs.Ytebhbcjioolpeab
open Go.RowKit Go.Deep

set_option maxHeartbeats 2000000 in
theorem sameFixes_any (va vb : Value) (la lb : List Quad) (w : World) (ha : Quads w va la) (hb : Quads w vb lb) :
    Calls Try.prog 27 #[va, vb] w fun e w' => e = .returned (.bool (decide (la = lb))) ∧ Below w.heap.size w w' := by
  obtain ⟨a, ca, rfl, ha1, ha2, ha3⟩ := ha
  obtain ⟨b, cb, rfl, hb1, hb2, hb3⟩ := hb
  by_cases hlen : la.length = lb.length
  · have hlt' : ((la.length : Int) != (lb.length : Int)) = false := by simp [hlen]
    have HL := Lib.hid hlen
    clear hlen
    go_enter Try.func27, Try.ntmps27
    go_wp2_with fail
    go_loopw [5] (fun i wr => ∃ k n : Nat, k ≤ la.length ∧ i = .int .i64 k ∧ wr = w.drewN n ∧ ∀ j, j < k → la[j]?.getD q0 = lb[j]?.getD q0) (fun i _ => la.length - (intOf i).toNat)
    case atStart => exact ⟨0, 0, Nat.zero_le _, rfl, rfl, fun j hj => by omega⟩
    case round =>
      obtain ⟨k, n, hk, rfl, rfl, hsame⟩ := hrel
      have HS := Lib.hid hsame
      clear hsame
      by_cases hlt : k < la.length
      · obtain ⟨b1, off1, rfl, hb1', hcell1⟩ := ha3 (by omega)
        obtain ⟨b2, off2, rfl, hb2', hcell2⟩ := hb3 (by have := HL.out; omega)
        have hl2 : k < lb.length := by have := HL.out; omega
        obtain ⟨c0, c1, c2, c3⟩ := hcell1 k hlt
        obtain ⟨d0, d1, d2, d3⟩ := hcell2 k hl2
        clear hcell1 hcell2 ha3 hb3
        obtain ⟨p, hp⟩ : ∃ p, p = la[k]?.getD q0 := ⟨_, rfl⟩
        obtain ⟨q, hq⟩ : ∃ q, q = lb[k]?.getD q0 := ⟨_, rfl⟩
        rw [← hp] at c0 c1 c2 c3
        rw [← hq] at d0 d1 d2 d3
        have HP := Lib.hid hp
        have HQ := Lib.hid hq
        clear hp hq
        by_cases he : p = q
        · have heq : ∀ W, (Op.equalIn 10000 62 (qv p) (qv q)).run Try.prog W = .ok true W := by rw [he]; exact eq_fix_yes q
          have HE := Lib.hid he
          clear he
          go_wp2_with fail
          go_quiet (fail)
          go_wp2_with fail
          go_roundw
          case rel =>
            refine ⟨k + 1, n + nq, by omega, by go_num, rfl, fun j hj => ?_⟩
            by_cases e : j = k
            · subst e; rw [← HP.out, ← HQ.out]; exact HE.out
            · exact HS.out j (by omega)
          case measure => simp [intOf]; omega
        · have heq := eq_fix_no p q he
          have HE := Lib.hid he
          clear he
          go_wp2_with fail
          go_quiet (fail)
          go_wp2_with fail
          go_ret
          exact ⟨ret_bool (decide_eq_false fun h => HE.out (by rw [HP.out, HQ.out, h])).symm, by rw [World.drewN_drewN]; exact below_n (Below.refl _ _) _⟩
      · go_wp2_with fail
        go_ret
        exact ⟨ret_bool (decide_eq_true (listQ_eq HL.out (fun j hj => HS.out j (by omega)))).symm, below_n (Below.refl _ _) _⟩
  · have hlt' : ((la.length : Int) != (lb.length : Int)) = true := by simp; omega
    have HL := Lib.hid hlen
    clear hlen
    go_enter Try.func27, Try.ntmps27
    go_wp2_with fail
    go_ret
    exact ⟨ret_bool (decide_eq_false fun h => HL.out (by rw [h])).symm, Below.refl _ _⟩
end Go.Proofs.Ytebhbcjioolpeab
