/-
  Contracts of the draws of labels. Condition: the code's slice reads as bytes.
-/
import Derived.Test.YtbpcjdhbbighgaaDrawL
namespace Go.Proofs.Ytbpcjdhbbighgaa
open Go.RowKit Go.Deep

set_option maxHeartbeats 1000000 in
theorem DrawLabelsValid_any (v : Value) (n : Nat) (w : World) (h : Bytes w v n) :
    Calls Try.prog 18 #[v] w fun e w' => ∃ v' l, e = .returned v' ∧ Quads w' v' l ∧ l.length ≤ 7 ∧ Below w.heap.size w w' := by
  have C := Lib.hid (l6Open_any v n w h)
  clear h
  go_enter Try.func18, Try.ntmps18
  go_wp2_with fail
  refine C.out.mono ?_
  rintro e w1 ⟨rfl, hrd, hb1⟩
  have B1 := Lib.hid hb1
  have z1 := hb1.size
  clear hb1
  go_wp2_with fail
  refine (l92Labels_any w.heap.size 0 6 w1 hrd (by omega) (by omega) (by omega)).mono ?_
  rintro e w2 ⟨v2, l, P', rfl, hO, hl, hrd2, _, ht⟩
  have HO := Lib.hid hO.quads
  have HT := Lib.hid (B1.out.trans (ht.below (Nat.le_refl _) z1))
  clear hO hrd hrd2 ht
  go_wp2_with fail
  go_ret
  exact ⟨_, l, rfl, HO.out, hl, HT.out⟩

set_option maxHeartbeats 1000000 in
theorem DrawSettingGreedy_any (v : Value) (n : Nat) (w : World) (h : Bytes w v n) :
    Calls Try.prog 42 #[v] w fun e w' => ∃ v' l, e = .returned v' ∧ Quads w' v' l ∧ l.length ≤ 7 ∧ Below w.heap.size w w' := by
  have C := Lib.hid (l6Open_any v n w h)
  clear h
  go_enter Try.func42, Try.ntmps42
  go_wp2_with fail
  refine C.out.mono ?_
  rintro e w1 ⟨rfl, hrd, hb1⟩
  have B1 := Lib.hid hb1
  have z1 := hb1.size
  clear hb1
  go_wp2_with fail
  refine (l92Labels_any w.heap.size 0 6 w1 hrd (by omega) (by omega) (by omega)).mono ?_
  rintro e w2 ⟨v2, l, P', rfl, hO, hl, hrd2, _, ht⟩
  have HO := Lib.hid hO.quads
  have HT := Lib.hid (B1.out.trans (ht.below (Nat.le_refl _) z1))
  clear hO hrd hrd2 ht
  go_wp2_with fail
  go_ret
  exact ⟨_, l, rfl, HO.out, hl, HT.out⟩

set_option maxHeartbeats 1000000 in
theorem DrawSettingBest_any (v : Value) (n : Nat) (w : World) (h : Bytes w v n) :
    Calls Try.prog 46 #[v] w fun e w' => ∃ v' l, e = .returned v' ∧ Quads w' v' l ∧ l.length ≤ 7 ∧ Below w.heap.size w w' := by
  have C := Lib.hid (l6Open_any v n w h)
  clear h
  go_enter Try.func46, Try.ntmps46
  go_wp2_with fail
  refine C.out.mono ?_
  rintro e w1 ⟨rfl, hrd, hb1⟩
  have B1 := Lib.hid hb1
  have z1 := hb1.size
  clear hb1
  go_wp2_with fail
  refine (l92Labels_any w.heap.size 0 4 w1 hrd (by omega) (by omega) (by omega)).mono ?_
  rintro e w2 ⟨v2, l, P', rfl, hO, hl, hrd2, _, ht⟩
  have HO := Lib.hid hO.quads
  have HT := Lib.hid (B1.out.trans (ht.below (Nat.le_refl _) z1))
  clear hO hrd hrd2 ht
  go_wp2_with fail
  go_ret
  exact ⟨_, l, rfl, HO.out, hl, HT.out⟩

set_option maxHeartbeats 1000000 in
theorem DrawSettingMost_any (v : Value) (n : Nat) (w : World) (h : Bytes w v n) :
    Calls Try.prog 43 #[v] w fun e w' => ∃ v' l, e = .returned v' ∧ Quads w' v' l ∧ l.length ≤ 7 ∧ Below w.heap.size w w' := by
  have C := Lib.hid (l6Open_any v n w h)
  clear h
  go_enter Try.func43, Try.ntmps43
  go_wp2_with fail
  refine C.out.mono ?_
  rintro e w1 ⟨rfl, hrd, hb1⟩
  have B1 := Lib.hid hb1
  have z1 := hb1.size
  clear hb1
  go_wp2_with fail
  refine (l92Labels_any w.heap.size 0 4 w1 hrd (by omega) (by omega) (by omega)).mono ?_
  rintro e w2 ⟨v2, l, P', rfl, hO, hl, hrd2, _, ht⟩
  have HO := Lib.hid hO.quads
  have HT := Lib.hid (B1.out.trans (ht.below (Nat.le_refl _) z1))
  clear hO hrd hrd2 ht
  go_wp2_with fail
  go_ret
  exact ⟨_, l, rfl, HO.out, hl, HT.out⟩

end Go.Proofs.Ytbpcjdhbbighgaa
