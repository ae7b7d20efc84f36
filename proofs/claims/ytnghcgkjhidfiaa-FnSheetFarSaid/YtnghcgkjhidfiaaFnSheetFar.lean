/-
  FnSheetFar: for every code the law returns true and leaves what was there as it was. No condition.
-/
import Derived.Test.YtnghcgkjhidfiaaSheetD
import Derived.Test.YtnghcgkjhidfiaaFacts
import Derived.ProofKit
import Derived.OpenShut
import Derived.ShutString
import Derived.ChangeOld
import Derived.Below
namespace Go.Proofs.Ytnghcgkjhidfiaa
open Go.RowKit Go.Deep

def fS (ax ay bx cy : Int) (i k j m : Nat) : Int := ((bx + (k : Int) - ax - (i : Int)).natAbs : Int) + ((cy + (m : Int) - ay - (j : Int)).natAbs : Int)
def InvS (ax ay bx cy : Int) (n : Nat) (z : Int) : Prop :=
  (∀ i k j m : Nat, i < 4 → k < 4 → j < 4 → m < 4 → 64 * i + 16 * k + 4 * j + m < n → z ≤ fS ax ay bx cy i k j m) ∧
  (z = 1000 ∨ ∃ i k j m : Nat, i < 4 ∧ k < 4 ∧ j < 4 ∧ m < 4 ∧ z = fS ax ay bx cy i k j m)
theorem inv_zero (ax ay bx cy : Int) : InvS ax ay bx cy 0 1000 := ⟨fun i k j m _ _ _ _ h => by omega, .inl rfl⟩
theorem inv_range {ax ay bx cy : Int} {n : Nat} {z : Int} (h : InvS ax ay bx cy n z) (a1 : 0 ≤ ax ∧ ax ≤ 100) (a2 : 0 ≤ ay ∧ ay ≤ 100) (a3 : 0 ≤ bx ∧ bx ≤ 100) (a4 : 0 ≤ cy ∧ cy ≤ 100) : 0 ≤ z ∧ z ≤ 1000 := by
  rcases h.2 with e | ⟨i, k, j, m, h1, h2, h3, h4, e⟩
  · omega
  · unfold fS at e; omega
theorem inv_step {ax ay bx cy : Int} {z z' : Int} {i k j m : Nat} (h : InvS ax ay bx cy (64 * i + 16 * k + 4 * j + m) z) (h1 : i < 4) (h2 : k < 4) (h3 : j < 4) (h4 : m < 4)
    (hz : z' = z ∧ z ≤ fS ax ay bx cy i k j m ∨ z' = fS ax ay bx cy i k j m ∧ fS ax ay bx cy i k j m ≤ z) : InvS ax ay bx cy (64 * i + 16 * k + 4 * j + (m + 1)) z' := by
  refine ⟨fun i' k' j' m' g1 g2 g3 g4 g => ?_, ?_⟩
  · by_cases e : 64 * i' + 16 * k' + 4 * j' + m' < 64 * i + 16 * k + 4 * j + m
    · have := h.1 i' k' j' m' g1 g2 g3 g4 e
      rcases hz with ⟨a, b⟩ | ⟨a, b⟩ <;> omega
    · obtain rfl : i' = i := by omega
      obtain rfl : k' = k := by omega
      obtain rfl : j' = j := by omega
      obtain rfl : m' = m := by omega
      rcases hz with ⟨a, b⟩ | ⟨a, b⟩ <;> omega
  · rcases hz with ⟨a, b⟩ | ⟨a, b⟩
    · rw [a]; exact h.2
    · exact .inr ⟨i, k, j, m, h1, h2, h3, h4, a⟩
theorem near1 (c c' : Nat) : ∃ i k : Nat, i < 4 ∧ k < 4 ∧ (((((4 * c' : Nat) : Int) + (k : Int) - ((4 * c : Nat) : Int) - (i : Int)).natAbs : Nat) : Int) = gapZ (dist c c') := by
  by_cases h1 : c < c'
  · exact ⟨3, 0, by omega, by omega, by unfold gapZ dist; rw [if_neg (by omega)]; omega⟩
  · by_cases h2 : c' < c
    · exact ⟨0, 3, by omega, by omega, by unfold gapZ dist; rw [if_neg (by omega)]; omega⟩
    · exact ⟨0, 0, by omega, by omega, by unfold gapZ dist; rw [if_pos (by omega)]; omega⟩
theorem near2 (c c' i k : Nat) (hi : i < 4) (hk : k < 4) : gapZ (dist c c') ≤ (((((4 * c' : Nat) : Int) + (k : Int) - ((4 * c : Nat) : Int) - (i : Int)).natAbs : Nat) : Int) := by
  unfold gapZ dist
  split <;> omega
theorem inv_end {c r c' r' : Nat} {z : Int} (h : InvS ((4 * c : Nat) : Int) ((4 * r : Nat) : Int) ((4 * c' : Nat) : Int) ((4 * r' : Nat) : Int) 256 z) (h1 : c < 26) (h2 : r < 26) (h3 : c' < 26) (h4 : r' < 26) : z = gapZ (dist c c') + gapZ (dist r r') := by
  obtain ⟨i, k, hi, hk, e1⟩ := near1 c c'
  obtain ⟨j, m, hj, hm, e2⟩ := near1 r r'
  have a := h.1 i k j m hi hk hj hm (by omega)
  unfold fS at a
  rw [e1, e2] at a
  rcases h.2 with e | ⟨i', k', j', m', g1, g2, g3, g4, e⟩
  · have := gapZ_le (dist_le h1 h3); have := gapZ_le (dist_le h2 h4); omega
  · have b1 := near2 c c' i' k' g1 g2
    have b2 := near2 r r' j' m' g3 g4
    unfold fS at e
    omega
theorem farS_sym {a b : List UInt8} {x : Int} {c r c' r' : Nat} (ha : IsName a c r) (hb : IsName b c' r') (h : FarS b a (.returned (.int .i64 x))) : x = gapZ (dist c c') + gapZ (dist r r') := by
  rcases h with ⟨p, q, p', q', k1, k2, k3⟩ | ⟨k1, k2⟩
  · obtain ⟨e1, e2⟩ := name_unique ha k2
    obtain ⟨e3, e4⟩ := name_unique hb k1
    injection k3 with k3
    injection k3 with _ k3
    rw [e1, e2, e3, e4, k3, dist_comm p p', dist_comm q q']
  · rcases k1 with k1 | k1
    · exact absurd hb (k1 _ _)
    · exact absurd ha (k1 _ _)
theorem farS_int {a b : List UInt8} {e : Ending} (h : FarS a b e) : ∃ x : Int, e = .returned (.int .i64 x) := by
  rcases h with ⟨p, q, p', q', k1, k2, k3⟩ | ⟨k1, k2⟩
  · exact ⟨_, k3⟩
  · exact ⟨_, k2⟩

set_option maxHeartbeats 4000000 in
set_option maxRecDepth 100000 in
theorem FnSheetFar_walk (v : Value) (n : Nat) (w : World) (h : Bytes w v n) :
    Calls Try.prog 3 #[v] w fun e w' => e = .returned (.bool true) ∧ Below w.heap.size w w' := by
  have CD := Lib.hid (DrawSheetFar_any v n w h)
  obtain ⟨a, cap, rfl, h1, h2, h3⟩ := h
  clear h3
  by_cases hbig : 1048576 < n
  · have hb' : (1048576 : Int) < (n : Int) := by omega
    go_enter Try.func3, Try.ntmps3
    go_wp2
    go_ret
    exact ⟨rfl, Below.refl _ _⟩
  have hb' : ¬ (1048576 : Int) < (n : Int) := by omega
  clear hbig
  go_enter Try.func3, Try.ntmps3
  go_wp2_with fail
  refine CD.out.mono ?_
  rintro e w1 ⟨s, t, rfl, hb1⟩
  have B1 := Lib.hid hb1
  clear hb1 CD
  go_wp2_with fail
  refine (SheetFar_any s t _).mono ?_
  rintro e w2 ⟨hF, hb2⟩
  have B2 := Lib.hid (B1.out.trans (hb2.mono B1.out.size))
  clear hb2 B1
  rcases hF with ⟨c, r, c', r', hA, hB, rfl⟩ | ⟨hno, rfl⟩
  · have HA := Lib.hid hA
    have HB := Lib.hid hB
    have c1 := hA.1
    have c2 := hA.2.1
    have c3 := hB.1
    have c4 := hB.2.1
    have g1 := gapZ_le (dist_le c1 c3)
    have g2 := gapZ_le (dist_le c2 c4)
    obtain ⟨G, hG⟩ : ∃ G, G = gapZ (dist c c') + gapZ (dist r r') := ⟨_, rfl⟩
    have CS := fun W => Lib.hid ((SheetFarS_any s t W).mono (fun e w' (h' : FarS s t e ∧ Below W.heap.size W w') => (show e = .returned (.int .i64 G) ∧ Below W.heap.size W w' from by
      refine ⟨?_, h'.2⟩
      obtain ⟨x, rfl⟩ := farS_int h'.1
      rw [farS_sym hB hA h'.1, hG, dist_comm c c', dist_comm r r'])))
    have CT := fun W => Lib.hid ((SheetFar_any t s W).mono (fun e w' (h' : FarS t s e ∧ Below W.heap.size W w') => (show e = .returned (.int .i64 G) ∧ Below W.heap.size W w' from by
      refine ⟨?_, h'.2⟩
      obtain ⟨x, rfl⟩ := farS_int h'.1
      rw [farS_sym hA hB h'.1, hG])))
    rw [← hG]
    have G0 : ¬ G < 0 := by omega
    have HG := Lib.hid hG
    have q1 : (G != G) = false := by simp
    clear hA hB hG g1 g2
    go_wp2_with fail
    refine (CS _).out.mono ?_
    rintro e w3 ⟨rfl, hb3⟩
    have B3 := Lib.hid (B2.out.trans (hb3.mono B2.out.size))
    clear hb3 B2 CS
    have CF1 := fun W => Lib.hid (SheetFrom_yes s c r W HA.out)
    have CF2 := fun W => Lib.hid (SheetFrom_yes t c' r' W HB.out)
    have END : Hid (∀ z, InvS ((4 * c : Nat) : Int) ((4 * r : Nat) : Int) ((4 * c' : Nat) : Int) ((4 * r' : Nat) : Int) 256 z → z = G) := fun z hz => by rw [inv_end hz c1 c2 c3 c4, HG.out]
    have x1 : (0 : Int) ≤ ((4 * c : Nat) : Int) ∧ ((4 * c : Nat) : Int) ≤ 100 := by omega
    have x2 : (0 : Int) ≤ ((4 * r : Nat) : Int) ∧ ((4 * r : Nat) : Int) ≤ 100 := by omega
    have x3 : (0 : Int) ≤ ((4 * c' : Nat) : Int) ∧ ((4 * c' : Nat) : Int) ≤ 100 := by omega
    have x4 : (0 : Int) ≤ ((4 * r' : Nat) : Int) ∧ ((4 * r' : Nat) : Int) ≤ 100 := by omega
    generalize ((4 * c : Nat) : Int) = ax at x1 END CF1
    generalize ((4 * r : Nat) : Int) = ay at x2 END CF1
    generalize ((4 * c' : Nat) : Int) = bx at x3 END CF2
    generalize ((4 * r' : Nat) : Int) = cy at x4 END CF2
    clear HG HA HB c1 c2 c3 c4
    go_wp2_with fail
    refine (CF1 _).out.mono ?_
    rintro e w4 ⟨rfl, hb4⟩
    have B4 := Lib.hid (B3.out.trans (hb4.mono B3.out.size))
    clear hb4 B3
    go_wp2_with fail
    refine (CF2 _).out.mono ?_
    rintro e w5 ⟨rfl, hb5⟩
    have B5 := Lib.hid (B4.out.trans (hb5.mono B4.out.size))
    clear hb5 B4
    clear CF1 CF2
    go_wp2_with fail
    go_loopw [13, 14] (fun z i wr => ∃ (I : Nat) (Z : Int), I ≤ 4 ∧ i = .int .i64 I ∧ z = .int .i64 Z ∧ InvS ax ay bx cy (64 * I) Z ∧ Below w.heap.size w wr) (fun _ i _ => 4 - (intOf i).toNat)
    case atStart => exact ⟨0, 1000, by omega, rfl, rfl, inv_zero _ _ _ _, B5.out⟩
    case round =>
      obtain ⟨I, Z, hI, rfl, rfl, hinv, hbel⟩ := hrel
      have V := Lib.hid hinv
      have B := Lib.hid hbel
      clear hinv hbel
      by_cases hi : I < 4
      · have i1 : (I : Int) < 4 := by omega
        go_wp2_with fail
        go_loopw [13, 15] (fun z i wr => ∃ (K : Nat) (Z : Int), K ≤ 4 ∧ i = .int .i64 K ∧ z = .int .i64 Z ∧ InvS ax ay bx cy (64 * I + 16 * K) Z ∧ Below w.heap.size w wr) (fun _ i _ => 4 - (intOf i).toNat)
        case atStart => exact ⟨0, Z, by omega, rfl, rfl, V.out, B.out⟩
        case round =>
          clear V B
          obtain ⟨K, Z, hK, rfl, rfl, hinv, hbel⟩ := hrel
          have V := Lib.hid hinv
          have B := Lib.hid hbel
          clear hinv hbel
          by_cases hk : K < 4
          · have k1 : (K : Int) < 4 := by omega
            have d1 : IntKind.i64.wrap (bx + (K : Int)) = bx + (K : Int) := IntWalk.i64_in _ (by omega)
            have d2 : IntKind.i64.wrap (bx + (K : Int) - ax) = bx + (K : Int) - ax := IntWalk.i64_in _ (by omega)
            obtain ⟨D, hD⟩ : ∃ D : Int, D = bx + (K : Int) - ax - (I : Int) := ⟨_, rfl⟩
            have d3 : IntKind.i64.wrap (bx + (K : Int) - ax - (I : Int)) = D := by rw [hD]; exact IntWalk.i64_in _ (by omega)
            have Db : -1000 ≤ D ∧ D ≤ 1000 := by omega
            have DD := Lib.hid hD
            clear hD
            go_wp2_with fail
            go_loopw [13, 17] (fun z i wr => ∃ (J : Nat) (Z : Int), J ≤ 4 ∧ i = .int .i64 J ∧ z = .int .i64 Z ∧ InvS ax ay bx cy (64 * I + 16 * K + 4 * J) Z ∧ Below w.heap.size w wr) (fun _ i _ => 4 - (intOf i).toNat)
            case atStart => exact ⟨0, Z, by omega, rfl, rfl, V.out, B.out⟩
            case round =>
              clear V B d1 d2 d3
              obtain ⟨J, Z, hJ, rfl, rfl, hinv, hbel⟩ := hrel
              have V := Lib.hid hinv
              have B := Lib.hid hbel
              clear hinv hbel
              by_cases hj : J < 4
              · have j1 : (J : Int) < 4 := by omega
                go_wp2_with fail
                go_loopw [13, 18] (fun z i wr => ∃ (M : Nat) (Z : Int), M ≤ 4 ∧ i = .int .i64 M ∧ z = .int .i64 Z ∧ InvS ax ay bx cy (64 * I + 16 * K + 4 * J + M) Z ∧ Below w.heap.size w wr) (fun _ i _ => 4 - (intOf i).toNat)
                case atStart => exact ⟨0, Z, by omega, rfl, rfl, V.out, B.out⟩
                case round =>
                  clear V B
                  obtain ⟨M, Z, hM, rfl, rfl, hinv, hbel⟩ := hrel
                  have zr := inv_range hinv x1 x2 x3 x4
                  have V := Lib.hid hinv
                  have B := Lib.hid hbel
                  clear hinv hbel
                  by_cases hm : M < 4
                  · have m1 : (M : Int) < 4 := by omega
                    have e1 : IntKind.i64.wrap (cy + (M : Int)) = cy + (M : Int) := IntWalk.i64_in _ (by omega)
                    have e2 : IntKind.i64.wrap (cy + (M : Int) - ay) = cy + (M : Int) - ay := IntWalk.i64_in _ (by omega)
                    obtain ⟨E, hE⟩ : ∃ E : Int, E = cy + (M : Int) - ay - (J : Int) := ⟨_, rfl⟩
                    have e3 : IntKind.i64.wrap (cy + (M : Int) - ay - (J : Int)) = E := by rw [hE]; exact IntWalk.i64_in _ (by omega)
                    have Eb : -1000 ≤ E ∧ E ≤ 1000 := by omega
                    have FV : Hid (fS ax ay bx cy I K J M = (D.natAbs : Int) + (E.natAbs : Int)) := by show _ = _; unfold fS; rw [← DD.out, ← hE]
                    have S1 := fun W => Lib.hid (sizeOf_any D W Db.1 Db.2)
                    have S2 := fun W => Lib.hid (sizeOf_any E W Eb.1 Eb.2)
                    obtain ⟨P, hP⟩ : ∃ P : Int, P = (D.natAbs : Int) + (E.natAbs : Int) := ⟨_, rfl⟩
                    have e4 : IntKind.i64.wrap ((D.natAbs : Int) + (E.natAbs : Int)) = P := by rw [hP]; exact IntWalk.i64_in _ (by omega)
                    have FP : Hid (fS ax ay bx cy I K J M = P) := FV.out.trans hP.symm
                    clear hE hP FV
                    generalize (D.natAbs : Int) = DA at S1 e4
                    generalize (E.natAbs : Int) = EA at S2 e4
                    by_cases hz : P < Z
                    · have ST : Hid (InvS ax ay bx cy (64 * I + 16 * K + 4 * J + (M + 1)) P) := inv_step V.out hi hk hj hm (.inr ⟨FP.out.symm, by rw [FP.out]; omega⟩)
                      clear V FP
                      go_wp2_with fail
                      refine (S1 _).out.mono ?_
                      rintro e w8 ⟨rfl, rfl⟩
                      go_wp2_with fail
                      refine (S2 _).out.mono ?_
                      rintro e w8 ⟨rfl, rfl⟩
                      go_wp2_with fail
                      go_roundw
                      case rel => exact ⟨M + 1, P, by omega, by go_num, rfl, ST.out, B.out⟩
                      case measure => simp [intOf]; omega
                    · have ST : Hid (InvS ax ay bx cy (64 * I + 16 * K + 4 * J + (M + 1)) Z) := inv_step V.out hi hk hj hm (.inl ⟨rfl, by rw [FP.out]; omega⟩)
                      clear V FP
                      go_wp2_with fail
                      refine (S1 _).out.mono ?_
                      rintro e w8 ⟨rfl, rfl⟩
                      go_wp2_with fail
                      refine (S2 _).out.mono ?_
                      rintro e w8 ⟨rfl, rfl⟩
                      go_wp2_with fail
                      go_roundw
                      case rel => exact ⟨M + 1, Z, by omega, by go_num, rfl, ST.out, B.out⟩
                      case measure => simp [intOf]; omega
                  · obtain rfl : M = 4 := by omega
                    clear hm
                    go_wp2_with fail
                    go_roundw
                    case rel => exact ⟨J + 1, Z, by omega, by go_num, rfl, (show 64 * I + 16 * K + 4 * (J + 1) = 64 * I + 16 * K + 4 * J + 4 by omega) ▸ V.out, B.out⟩
                    case measure => simp [intOf]; omega
              · obtain rfl : J = 4 := by omega
                clear hj
                go_wp2_with fail
                go_roundw
                case rel => exact ⟨K + 1, Z, by omega, by go_num, rfl, (show 64 * I + 16 * (K + 1) = 64 * I + 16 * K + 4 * 4 by omega) ▸ V.out, B.out⟩
                case measure => simp [intOf]; omega
          · obtain rfl : K = 4 := by omega
            clear hk
            go_wp2_with fail
            go_roundw
            case rel => exact ⟨I + 1, Z, by omega, by go_num, rfl, (show 64 * (I + 1) = 64 * I + 16 * 4 by omega) ▸ V.out, B.out⟩
            case measure => simp [intOf]; omega
      · obtain rfl : I = 4 := by omega
        clear hi
        obtain rfl := END.out Z V.out
        have q2 : (Z == Z) = true := by simp
        go_wp2_with fail
        refine (CT _).out.mono ?_
        rintro e w9 ⟨rfl, hb9⟩
        have B9 := Lib.hid (B.out.trans (hb9.mono B.out.size))
        clear hb9 CT
        go_wp2_with fail
        go_ret
        exact ⟨rfl, B9.out⟩
  · have CS := fun W => Lib.hid ((SheetFarS_any s t W).mono (fun e w' (h' : FarS s t e ∧ Below W.heap.size W w') => (show e = .returned (.int .i64 (-1)) ∧ Below W.heap.size W w' from by
      refine ⟨?_, h'.2⟩
      rcases h'.1 with ⟨p, q, p', q', k1, k2, k3⟩ | ⟨k1, k2⟩
      · rcases hno with k | k
        · exact absurd k1 (k _ _)
        · exact absurd k2 (k _ _)
      · exact k2)))
    clear hno
    go_wp2_with fail
    refine (CS _).out.mono ?_
    rintro e w3 ⟨rfl, hb3⟩
    have B3 := Lib.hid (B2.out.trans (hb3.mono B2.out.size))
    clear hb3 B2 CS
    go_wp2_with fail
    go_ret
    exact ⟨rfl, B3.out⟩
end Go.Proofs.Ytnghcgkjhidfiaa
namespace Go.Proofs.Ytnghcgkjhidfiaa.fnSheetFar
open Go.ChangeShapes Go.WideShapes Go.ChangeAt Go.RowKit
set_option linter.unusedVariables false

theorem own : ownKnob Try.prog.godebug = none := by kernel_rfl
theorem laidOut : laidOutB Try.prog = true := fact_laid
set_option maxRecDepth 100000 in
theorem lifted (os : Os) (started : os.Started) (H : Type) (enc : TypeId × Value → H) :
    ReturnsInHanded {} Try.checked os 3 .any (Rows.fnSheetFarSpec.pre6 enc Try.prog Try.f3 Rows.fnSheetFarRow.domain false) (Rows.fnSheetFarSpec.post enc Try.prog Try.f3 false true false false) := by
  refine returnsInHanded_of_change (C := Try.checked) own started (by kernel_rfl) Try.func3
    (ChangeSpec.witness6 (enc := enc) (C := Try.checked) false ⟨#[], #[.slice none 0 0], []⟩ 8 (by kernel_rfl) (by kernel_rfl) (by kernel_rfl) (by kernel_rfl)) ?_
  intro W base args ds gs before hval0 hW hcnd _
  have hval : ∀ (j : Nat) t v, Try.f3.params[j]? = some t → args[j]? = some v → Value.okWide Try.prog W .any base t v := hval0
  have hW' := hW
  obtain ⟨p, q, hA0, hV, rfl, hfz, hnd⟩ := hW
  have hA : DataW.TrodAll enc Try.prog W 0 (fun _ => true) true Try.f3.params.toList args.toList ds p := hA0
  rw [Try.params3] at hA hval
  obtain ⟨v0, vs0, d0, ds0, p0, q0, hargs, rfl, rfl, h0, r0⟩ := trodAll_cons hA
  obtain ⟨rfl, rfl, rfl⟩ := trodAll_nil r0
  obtain rfl : args = #[v0] := by cases args; simp_all
  obtain ⟨rfl, rfl⟩ := trodVars_none hV
  obtain ⟨a0, len0, cap0, rfl⟩ := okWide_slice Try.underlying22 (hval 0 22 v0 rfl rfl)
  have k0 := h0
  have lt0 : ∀ x ∈ p0, x.block < W.heap.size := by obtain ⟨m, hm⟩ := k0; exact DataW.trod_lt m _ _ _ hm
  obtain ⟨z0, w0⟩ : ∃ zs, Bytes W (.slice a0 len0 cap0) zs := bytes_opened h0
  clear hA0 hval0
  refine (FnSheetFar_walk _ z0 W w0).mono fun e W' ⟨he, bel⟩ => ?_
  subst he
  exact ⟨_, rfl, _, _, _, [], _, [], hW', trodAll_mk1 (shut_bool Try.underlying4 _), (trodAll_cons_mk (Below.trod laidOut (by kernel_rfl) (of_decide_eq_true (by kernel_rfl)) k0 bel lt0) trodAll_mk0), rfl, bel.frame _, fun h => by cases h⟩
theorem fact_inPlace : (Rows.fnSheetFarRow.inPlace == Try.prog.inPlace 3) = true := by kernel_rfl
theorem fact_unfollowed : (Rows.fnSheetFarRow.unfollowed == Try.prog.unfollowed 3) = true := by kernel_rfl
theorem fact_recurses : (Rows.fnSheetFarRow.recurses == Try.prog.recurses 3) = true := by kernel_rfl
theorem fact_named : (Rows.fnSheetFarRow.named == Try.prog.varsNamed 3) = true := by kernel_rfl
theorem fact_plain : (Rows.fnSheetFarRow.plainKeys == Try.prog.plainKeys) = true := by kernel_rfl
theorem joined : joinedFacts Try.pinned.checked.prog 3 Try.f3 Rows.fnSheetFarSpec Rows.fnSheetFarRow = true :=
  joined_of (f := 3) (fn := Try.f3) (s := Rows.fnSheetFarSpec) (c := Rows.fnSheetFarRow) (by kernel_rfl) (by kernel_rfl) (by kernel_rfl) (by kernel_rfl) (by kernel_rfl) fact_inPlace fact_unfollowed fact_recurses fact_named (by kernel_rfl) (by kernel_rfl) (by kernel_rfl) (by kernel_rfl) (by kernel_rfl) (by kernel_rfl) (by kernel_rfl) (by kernel_rfl) (by kernel_rfl) fact_plain (by kernel_rfl) rfl rfl (by kernel_rfl) (by kernel_rfl) (by kernel_rfl) (by kernel_rfl)

/-- the statement -/
theorem proved : Rows.FnSheetFarSaid :=
  OpenClaim.holds_of_wide 3 Try.f3 rfl rfl rfl rfl rfl rfl rfl ⟨rfl, rfl, rfl, rfl, rfl⟩ rfl rfl rfl rfl rfl (by kernel_rfl) Try.func3 joined
    (of_decide_eq_true (by kernel_rfl)) (by unfold Func.isWrapper; first | (rw [if_pos (by decide +kernel)]; kernel_rfl) | (rw [if_neg (by decide +kernel)]; exact ⟨rfl, rfl⟩))
    (fun os started H enc _ => lifted os started H enc)
#print axioms proved
end Go.Proofs.Ytnghcgkjhidfiaa.fnSheetFar
