/-
  DrawGridsGap, DrawGridsAgree, DrawGridsJoin; sizeOf; an opened grid. No condition.
-/
import Derived.Test.YtebhbcjioolpeaaDrawM
import Derived.Lib.MinMax
namespace Go.Proofs.Ytebhbcjioolpeaa
open Go.RowKit Go.Deep Go.Sort

/-- what a read matrix with a row holds -/
theorem GridB.open {B : Nat} {w : World} {v : Value} {g : Rows} (h : GridB B w v g) (hp : 0 < g.length) : ∃ b off cap, v = .slice (some ⟨b, off, none⟩) g.length cap ∧ g.length ≤ cap ∧ cap ≤ 9223372036854775807 ∧ b < B ∧
    ∀ k, k < g.length → ∃ a c, w.cell? ⟨b, off + k, none⟩ = some (.slice a (g[k]?.getD []).length c) ∧ (g[k]?.getD []).length ≤ c ∧ c ≤ 9223372036854775807 ∧ (0 < (g[k]?.getD []).length → ∃ b2 o2, a = some ⟨b2, o2, none⟩ ∧ b2 < B ∧ ∀ j, j < (g[k]?.getD []).length → w.cell? ⟨b2, o2 + j, none⟩ = some (.int .i64 ((g[k]?.getD [])[j]?.getD 0))) := by
  obtain ⟨a, cap, rfl, h1, h2, h3⟩ := h
  obtain ⟨b, off, rfl, hb, hc⟩ := h3 hp
  refine ⟨b, off, cap, rfl, h1, h2, hb, fun k hk => ?_⟩
  obtain ⟨r, hr, a2, c2, rfl, q1, q2, q3⟩ := hc k hk
  exact ⟨a2, c2, hr, q1, q2, q3⟩

set_option maxHeartbeats 400000 in
theorem DrawGridsGap_any (v : Value) (n : Nat) (w : World) (h : Bytes w v n) :
    Calls Try.prog 34 #[v] w fun e w' => ∃ va vb ga gb, e = .returned (.tuple #[va, vb]) ∧ Grid w' va ga ∧ Grid w' vb gb ∧ Drawn ga ∧ Drawn gb ∧ Below w.heap.size w w' := by
  have C := Lib.hid (l6Open_any v n w h)
  clear h
  go_enter Try.func34, Try.ntmps34
  go_wp2_with fail
  refine C.out.mono ?_
  rintro e w1 ⟨rfl, hrd, hb1⟩
  have B1 := Lib.hid hb1
  have z1 := hb1.size
  clear hb1
  go_wp2_with fail
  refine (l92Sides_any w.heap.size 0 w1 hrd (by omega)).mono ?_
  rintro e w2 ⟨va, vb, ga, gb, rfl, ha, hb, da, db, ht⟩
  have HA := Lib.hid ha
  have HB := Lib.hid hb
  have HT := Lib.hid (B1.out.trans (ht.below (Nat.le_refl _) z1))
  clear ha hb ht
  go_wp2
  go_ret2
  exact ⟨va, vb, ga, gb, rfl, HA.out, HB.out, da, db, HT.out⟩

set_option maxHeartbeats 400000 in
theorem DrawGridsAgree_any (v : Value) (n : Nat) (w : World) (h : Bytes w v n) :
    Calls Try.prog 42 #[v] w fun e w' => ∃ va vb ga gb, e = .returned (.tuple #[va, vb]) ∧ Grid w' va ga ∧ Grid w' vb gb ∧ Drawn ga ∧ Drawn gb ∧ Below w.heap.size w w' := by
  have C := Lib.hid (l6Open_any v n w h)
  clear h
  go_enter Try.func42, Try.ntmps42
  go_wp2_with fail
  refine C.out.mono ?_
  rintro e w1 ⟨rfl, hrd, hb1⟩
  have B1 := Lib.hid hb1
  have z1 := hb1.size
  clear hb1
  go_wp2_with fail
  refine (l92Sides_any w.heap.size 0 w1 hrd (by omega)).mono ?_
  rintro e w2 ⟨va, vb, ga, gb, rfl, ha, hb, da, db, ht⟩
  have HA := Lib.hid ha
  have HB := Lib.hid hb
  have HT := Lib.hid (B1.out.trans (ht.below (Nat.le_refl _) z1))
  clear ha hb ht
  go_wp2
  go_ret2
  exact ⟨va, vb, ga, gb, rfl, HA.out, HB.out, da, db, HT.out⟩

set_option maxHeartbeats 400000 in
theorem DrawGridsJoin_any (v : Value) (n : Nat) (w : World) (h : Bytes w v n) :
    Calls Try.prog 43 #[v] w fun e w' => ∃ va vb ga gb, e = .returned (.tuple #[va, vb]) ∧ Grid w' va ga ∧ Grid w' vb gb ∧ Drawn ga ∧ Drawn gb ∧ Below w.heap.size w w' := by
  have C := Lib.hid (l6Open_any v n w h)
  clear h
  go_enter Try.func43, Try.ntmps43
  go_wp2_with fail
  refine C.out.mono ?_
  rintro e w1 ⟨rfl, hrd, hb1⟩
  have B1 := Lib.hid hb1
  have z1 := hb1.size
  clear hb1
  go_wp2_with fail
  refine (l92Sides_any w.heap.size 0 w1 hrd (by omega)).mono ?_
  rintro e w2 ⟨va, vb, ga, gb, rfl, ha, hb, da, db, ht⟩
  have HA := Lib.hid ha
  have HB := Lib.hid hb
  have HT := Lib.hid (B1.out.trans (ht.below (Nat.le_refl _) z1))
  clear ha hb ht
  go_wp2
  go_ret2
  exact ⟨va, vb, ga, gb, rfl, HA.out, HB.out, da, db, HT.out⟩

theorem sizeOf_any (x : Int) (w : World) (h1 : -1000000 ≤ x) (h2 : x ≤ 1000000) :
    Calls Try.prog 36 #[.int .i64 x] w fun e w' => e = .returned (.int .i64 (max x (-x))) ∧ ∃ n, w' = w.drewN n := by
  have w1 := wrap_small (x := 0 - x) (by omega) (by omega)
  go_enter Try.func36, Try.ntmps36
  go_wp2
  go_ret
  refine ⟨ret_int (by omega), 0, ?_⟩
  rfl
end Go.Proofs.Ytebhbcjioolpeaa
