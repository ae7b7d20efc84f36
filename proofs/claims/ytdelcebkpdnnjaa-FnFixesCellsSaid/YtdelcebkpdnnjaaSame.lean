/-
  The laws' sameInts and sameGrid; an argument of bytes opened. No condition.
-/
import Derived.Test.YtdelcebkpdnnjaaSides
import Derived.Test.YtdelcebkpdnnjaaGap2
import Derived.Deep.Slices
import Derived.OpenShut
namespace Go.Proofs.Ytdelcebkpdnnjaa
open Go.RowKit Go.Deep Go.ChangeShapes


set_option maxHeartbeats 400000 in
theorem sameInts_any (va vb : Value) (la lb : List Int) (w : World) (ha : Ints w va la) (hb : Ints w vb lb) :
    Calls Try.prog 12 #[va, vb] w fun e w' => e = .returned (.bool (decide (la = lb))) ∧ ∃ n, w' = w.drewN n := by
  obtain ⟨a, ca, rfl, ha1, ha2, ha3⟩ := ha
  obtain ⟨b, cb, rfl, hb1, hb2, hb3⟩ := hb
  by_cases hlen : la.length = lb.length
  · have hlt' : ((la.length : Int) != (lb.length : Int)) = false := by simp [hlen]
    have HL := Lib.hid hlen
    clear hlen
    go_enter Try.func12, Try.ntmps12
    go_wp2
    go_loopw [5] (fun i wr => ∃ k n : Nat, k ≤ la.length ∧ i = .int .i64 k ∧ wr = w.drewN n ∧ ∀ j, j < k → la[j]?.getD 0 = lb[j]?.getD 0) (fun i _ => la.length - (intOf i).toNat)
    case atStart => exact ⟨0, 0, Nat.zero_le _, rfl, rfl, fun j hj => by omega⟩
    case round =>
      obtain ⟨k, n, hk, rfl, rfl, hsame⟩ := hrel
      have HS := Lib.hid hsame
      clear hsame
      by_cases hlt : k < la.length
      · obtain ⟨b1, off1, rfl, hb1', hcell1⟩ := ha3 (by omega)
        obtain ⟨b2, off2, rfl, hb2', hcell2⟩ := hb3 (by have := HL.out; omega)
        have hl2 : k < lb.length := by have := HL.out; omega
        have c1 := hcell1 k hlt
        have c2 := hcell2 k hl2
        clear hcell1 hcell2 ha3 hb3
        rw [getD_eq hlt] at c1
        rw [getD_eq hl2] at c2
        by_cases he : la[k] = lb[k]
        · have he' : (la[k] != lb[k]) = false := by simp [he]
          have HE := Lib.hid he
          clear he
          go_wp2
          go_quiet (fail)
          go_wp2
          go_roundw
          case rel =>
            refine ⟨k + 1, n + nq, by omega, by go_num, rfl, fun j hj => ?_⟩
            by_cases e : j = k
            · subst e; rw [getD_eq hlt, getD_eq hl2]; exact HE.out
            · exact HS.out j (by omega)
          case measure => simp [intOf]; omega
        · have he' : (la[k] != lb[k]) = true := by simp [he]
          have HE := Lib.hid he
          clear he
          go_wp2
          go_quiet (fail)
          go_wp2
          go_ret
          exact ⟨ret_bool (decide_eq_false fun h => HE.out (by subst h; rfl)).symm, n + nq, World.drewN_drewN ..⟩
      · go_wp2
        go_ret
        exact ⟨ret_bool (decide_eq_true (list_eq HL.out (fun j hj => HS.out j (by omega)))).symm, n, rfl⟩
  · have hlt' : ((la.length : Int) != (lb.length : Int)) = true := by simp; omega
    have HL := Lib.hid hlen
    clear hlen
    go_enter Try.func12, Try.ntmps12
    go_wp2
    go_ret
    exact ⟨ret_bool (decide_eq_false fun h => HL.out (by rw [h])).symm, 0, rfl⟩

theorem sameInts_yes (va vb : Value) (la lb : List Int) (w : World) (ha : Ints w va la) (hb : Ints w vb lb) (he : la = lb) :
    Calls Try.prog 12 #[va, vb] w fun e w' => e = .returned (.bool true) ∧ ∃ n, w' = w.drewN n := by
  have h := sameInts_any va vb la lb w ha hb
  rwa [decide_eq_true he] at h
theorem sameInts_no (va vb : Value) (la lb : List Int) (w : World) (ha : Ints w va la) (hb : Ints w vb lb) (he : ¬ la = lb) :
    Calls Try.prog 12 #[va, vb] w fun e w' => e = .returned (.bool false) ∧ ∃ n, w' = w.drewN n := by
  have h := sameInts_any va vb la lb w ha hb
  rwa [decide_eq_false he] at h

set_option maxHeartbeats 1000000 in
set_option maxRecDepth 100000 in
theorem sameGrid_any (va vb : Value) (ga gb : Rows) (w : World) (ha : Grid w va ga) (hb : Grid w vb gb) :
    Calls Try.prog 39 #[va, vb] w fun e w' => e = .returned (.bool (decide (ga = gb))) ∧ ∃ n, w' = w.drewN n := by
  obtain ⟨a, ca, rfl, ha1, ha2, ha3⟩ := ha
  obtain ⟨b, cb, rfl, hb1, hb2, hb3⟩ := hb
  by_cases hlen : ga.length = gb.length
  · have hlt' : ((ga.length : Int) != (gb.length : Int)) = false := by simp [hlen]
    have HL := Lib.hid hlen
    have HA3 := Lib.hid ha3
    have HB3 := Lib.hid hb3
    clear hlen ha3 hb3
    go_enter Try.func39, Try.ntmps39
    go_wp2
    go_loopw [5] (fun i wr => ∃ k n : Nat, k ≤ ga.length ∧ i = .int .i64 k ∧ wr = w.drewN n ∧ ∀ j, j < k → ga[j]?.getD [] = gb[j]?.getD []) (fun i _ => ga.length - (intOf i).toNat)
    case atStart => exact ⟨0, 0, Nat.zero_le _, rfl, rfl, fun j hj => by omega⟩
    case round =>
      obtain ⟨k, n, hk, rfl, rfl, hsame⟩ := hrel
      have HS := Lib.hid hsame
      clear hsame
      by_cases hlt : k < ga.length
      · obtain ⟨b1, off1, rfl, hb1', hcell1⟩ := HA3.out (by omega)
        obtain ⟨b2, off2, rfl, hb2', hcell2⟩ := HB3.out (by have := HL.out; omega)
        have hl2 : k < gb.length := by have := HL.out; omega
        obtain ⟨r1, c1, i1⟩ := hcell1 k hlt
        obtain ⟨r2, c2, i2⟩ := hcell2 k hl2
        obtain ⟨x1, y1, z1, rfl⟩ := i1.slice
        obtain ⟨x2, y2, z2, rfl⟩ := i2.slice
        have I1 := Lib.hid i1
        have I2 := Lib.hid i2
        clear hcell1 hcell2 i1 i2
        by_cases he : ga[k]?.getD [] = gb[k]?.getD []
        · have HE := Lib.hid he
          clear he
          go_wp2
          go_quiet (exact quiet_of2 (sameInts_yes _ _ _ _ _ ((I1.out.ints (Nat.le_refl _)).drewN _) ((I2.out.ints (Nat.le_refl _)).drewN _) HE.out))
          go_wp2
          go_roundw
          case rel =>
            refine ⟨k + 1, n + nq, by omega, by go_num, rfl, fun j hj => ?_⟩
            by_cases e : j = k
            · subst e; exact HE.out
            · exact HS.out j (by omega)
          case measure => simp [intOf]; omega
        · have HE := Lib.hid he
          clear he
          go_wp2
          go_quiet (exact quiet_of2 (sameInts_no _ _ _ _ _ ((I1.out.ints (Nat.le_refl _)).drewN _) ((I2.out.ints (Nat.le_refl _)).drewN _) HE.out))
          go_wp2
          go_ret
          exact ⟨ret_bool (decide_eq_false fun h => HE.out (by rw [h])).symm, n + nq, World.drewN_drewN ..⟩
      · go_wp2
        go_ret
        exact ⟨ret_bool (decide_eq_true (rows_eq HL.out (fun j hj => HS.out j (by omega)))).symm, n, rfl⟩
  · have hlt' : ((ga.length : Int) != (gb.length : Int)) = true := by simp; omega
    have HL := Lib.hid hlen
    clear hlen ha3 hb3
    go_enter Try.func39, Try.ntmps39
    go_wp2
    go_ret
    exact ⟨ret_bool (decide_eq_false fun h => HL.out (by rw [h])).symm, 0, rfl⟩


theorem sameGrid_b (va vb : Value) (ga gb : Rows) (w : World) (ha : Grid w va ga) (hb : Grid w vb gb) :
    Calls Try.prog 39 #[va, vb] w fun e w' => e = .returned (.bool (decide (ga = gb))) ∧ Below w.heap.size w w' :=
  (sameGrid_any va vb ga gb w ha hb).mono fun _ _ ⟨he, n, hw⟩ => ⟨he, by rw [hw]; exact below_n (Below.refl _ _) n⟩

theorem u8_wf {n : Int} (h : (Lit.int .u8 n).wf = true) : 0 ≤ n ∧ n ≤ 255 := by
  have e1 : IntKind.u8.min = 0 := by decide
  have e2 : IntKind.u8.max = 255 := by decide
  simp [Lit.wf, e1, e2] at h
  exact ⟨by omega, by omega⟩
/-- an argument that is a slice of bytes -/
theorem bytes_opened {H : Type} {enc : TypeId × Value → H} {W : World} {base : Nat} {held : Bool} {a : Option Addr} {len cap : Nat} {d : DataW H} {p : List MemPlace}
    (h : DataW.Trod enc Try.prog W base (fun _ => true) held 22 (.slice a len cap) d p) : ∃ n : Nat, Bytes W (.slice a len cap) n := by
  obtain ⟨fuel, hf⟩ := h
  rcases open_ints Try.underlying22 Try.underlying5 (by kernel_rfl) hf with ⟨hcs, _⟩ | ⟨x, l, c, zs, hcs, _, hl, hm, hz, _, hcell, hwz⟩
  · simp [Value.cells] at hcs
    obtain ⟨rfl, rfl, rfl⟩ := hcs
    exact ⟨0, none, 0, rfl, Nat.le_refl _, by omega, fun h => absurd h (by omega)⟩
  · simp [Value.cells] at hcs
    obtain ⟨rfl, rfl, rfl⟩ := hcs
    unfold maxLen at hm
    have hz' : zs.length = cap := by simpa using hz
    refine ⟨len, some x, cap, rfl, hl, hm, fun hp => ?_⟩
    obtain ⟨b, off, spot⟩ := x
    have hc := hcell 0 (by omega)
    have hspot : spot = none := by simpa [Addr.add] using World.cell?_spot hc
    subst hspot
    refine ⟨b, off, rfl, World.block_lt_of_cell? W ⟨b, off, none⟩ (by simpa [Addr.add] using hc), fun j => (zs.getD j 0).toNat, fun j hj => ?_⟩
    have hc := hcell j (by omega)
    rw [show (⟨b, off, none⟩ : Addr).add j = ⟨b, off + j, none⟩ by unfold Addr.add; split <;> simp_all] at hc
    have hw : 0 ≤ zs.getD j 0 ∧ zs.getD j 0 ≤ 255 := by
      refine u8_wf (hwz _ ?_)
      rw [List.getD_eq_getElem?_getD, List.getElem?_eq_getElem (show j < zs.length by omega)]
      exact List.getElem_mem _
    have hw2 : (zs.getD j 0).toNat ≤ 255 := by omega
    refine ⟨?_, hw2⟩
    rw [hc, Int.toNat_of_nonneg hw.1]
end Go.Proofs.Ytdelcebkpdnnjaa
