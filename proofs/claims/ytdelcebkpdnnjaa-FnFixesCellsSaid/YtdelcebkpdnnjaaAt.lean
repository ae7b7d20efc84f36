/-
  FixesAt, the program's and the reference's. No condition but that the slices read as the lists.
-/
import Derived.Test.YtdelcebkpdnnjaaSpecDo
namespace Go.Proofs.Ytdelcebkpdnnjaa
open Go.RowKit Go.Deep Go.Sort BigFrame

def stepAt (q : Quad) (R C : Int) : List Int := if q.1 = R ∧ q.2.1 = C then [q.2.2.2] else []
def hist (l : List Quad) (R C : Int) : Nat → List Int
  | 0 => []
  | k + 1 => hist l R C k ++ stepAt (l[k]?.getD q0) R C
def AtOk (g : Rows) (l : List Quad) (R C : Int) : Prop := EdOk g l ∧ HasCell g.length (colsOf g) R C
instance (g : Rows) (l : List Quad) (R C : Int) : Decidable (AtOk g l R C) := by unfold AtOk; infer_instance
def atOf (g : Rows) (l : List Quad) (R C : Int) : List Int := if AtOk g l R C then at2 g R.toNat C.toNat :: hist l R C l.length else []
theorem atOf_yes {g : Rows} {l : List Quad} {R C : Int} (h : AtOk g l R C) : atOf g l R C = at2 g R.toNat C.toNat :: hist l R C l.length := if_pos h
theorem atOf_no {g : Rows} {l : List Quad} {R C : Int} (h : ¬ AtOk g l R C) : atOf g l R C = [] := if_neg h
theorem hist_len (l : List Quad) (R C : Int) : ∀ k, (hist l R C k).length ≤ k := by
  intro k
  induction k with
  | zero => simp [hist]
  | succ k ih => rw [hist, List.length_append]; unfold stepAt; split <;> simp <;> omega
theorem atOf_len (g : Rows) (l : List Quad) (R C : Int) : (atOf g l R C).length ≤ 1099511627776 := by
  by_cases h : AtOk g l R C
  · rw [atOf_yes h]; have := hist_len l R C l.length; have := h.1.2.1; simp; omega
  · rw [atOf_no h]; simp
theorem ints_single {w : World} {x : Int} {t : TypeId} {N : Nat} (hN : w.heap.size = N) : Ints (w.alloc (.cells #[.int .i64 x] t)) (.slice (some ⟨N, 0, none⟩) 1 1) [x] := by
  subst hN
  refine ⟨some ⟨w.heap.size, 0, none⟩, 1, rfl, by simp, by decide, fun _ => ⟨w.heap.size, 0, rfl, by simp, fun j hj => ?_⟩⟩
  obtain rfl : j = 0 := by simp at hj; omega
  simp
theorem ownsRow_single {w : World} {base : Nat} {x : Int} {t : TypeId} (h : base ≤ w.heap.size) : (w.alloc (.cells #[.int .i64 x] t)).ownsRow base t 1 (.slice (some ⟨w.heap.size, 0, none⟩) [x].length 1) [x].length ([x].map (Value.int .i64)) :=
  ⟨by simp, .inr ⟨w.heap.size, 1, #[.int .i64 x], rfl, h, heap_alloc_new w _, by simp, by unfold maxLen; omega, by simp, by simp⟩⟩

set_option maxHeartbeats 2000000 in
set_option maxRecDepth 100000 in
theorem FixesAt_any (vg vl : Value) (g : Rows) (l : List Quad) (R C : Int) (w : World) (hG : Grid w vg g) (hL : Quads w vl l) :
    Calls Try.prog 14 #[vg, vl, .int .i64 R, .int .i64 C] w fun e w' => ∃ v, e = .returned (.tuple #[v, .bool (decide (AtOk g l R C))]) ∧ Own w.heap.size w'.heap.size w' v (atOf g l R C) ∧ Below w.heap.size w w' := by
  by_cases h : EdOk g l
  · have CE := Lib.hid (editions_yes vg vl g l w hG hL h)
    have HL := Lib.hid hL.quadsB
    obtain ⟨la, lc, rfl, q1, q2, q3⟩ := hL
    have HQ := Lib.hid q3
    have hl60 := h.2.1
    have HGO := Lib.hid h.1
    have HE := Lib.hid h
    clear hG q3
    by_cases hc : HasCell g.length (colsOf g) R C
    · have HOK : Hid (AtOk g l R C) := ⟨h, hc⟩
      obtain ⟨i, rfl⟩ : ∃ i : Nat, R = (i : Int) := ⟨R.toNat, by have := hc.1; omega⟩
      obtain ⟨j, rfl⟩ : ∃ j : Nat, C = (j : Int) := ⟨C.toNat, by have := hc.2.2.1; omega⟩
      have hi : i < g.length := by have := hc.2.1; omega
      have hj : j < colsOf g := by have := hc.2.2.2; omega
      have HCD := Lib.hid (decide_eq_true hc)
      have HEnd : Hid (at2 g (i : Int).toNat (j : Int).toNat = (g[i]?.getD [])[j]?.getD 0) := by show at2 g _ _ = _; simp
      obtain ⟨x, hx⟩ : ∃ x, x = (g[i]?.getD [])[j]?.getD 0 := ⟨_, rfl⟩
      have HX := Lib.hid hx
      clear h hc hx
      rw [decide_eq_true HOK.out, atOf_yes HOK.out, HEnd.out, ← HX.out]
      go_enter Try.func14, Try.ntmps14
      go_wp2_with fail
      refine CE.out.mono ?_
      rintro e w1 ⟨a, b, cap, m, f, rfl, _, _, hra, hrow, hfo, hb⟩
      have hz := hb.size
      have HA := Lib.hid ((hra.alloc (.cells #[.int .i64 g.length, .int .i64 (colsOf g), .slice (some ⟨a, 0, none⟩) (g.length * colsOf g) (g.length * colsOf g)] 64)).alloc (.cells #[.int .i64 g.length, .int .i64 (colsOf g), .slice (some ⟨b, 0, none⟩) (g.length * colsOf g) cap] 64))
      have HB := Lib.hid ((hb.alloc hb.size (.cells #[.int .i64 g.length, .int .i64 (colsOf g), .slice (some ⟨a, 0, none⟩) (g.length * colsOf g) (g.length * colsOf g)] 64)).alloc (by simp; omega) (.cells #[.int .i64 g.length, .int .i64 (colsOf g), .slice (some ⟨b, 0, none⟩) (g.length * colsOf g) cap] 64))
      have BX := Lib.hid (Box3.block (Box3.row (field_row w1 (.int .i64 g.length) (.int .i64 (colsOf g)) (.slice (some ⟨a, 0, none⟩) (g.length * colsOf g) (g.length * colsOf g)))) (Below.heap_alloc (w1.alloc (.cells #[.int .i64 g.length, .int .i64 (colsOf g), .slice (some ⟨a, 0, none⟩) (g.length * colsOf g) (g.length * colsOf g)] 64)) (.cells #[.int .i64 g.length, .int .i64 (colsOf g), .slice (some ⟨b, 0, none⟩) (g.length * colsOf g) cap] 64) w1.heap.size (by simp)))
      clear hra hrow hfo hb CE
      go_wp2_with fail
      refine (has_any g.length (colsOf g) _ i j _).mono ?_
      rintro e w2 ⟨rfl, hb2⟩
      rw [HCD.out]
      have z2 := hb2.size
      simp only [World.size_alloc] at z2
      have HA2 := Lib.hid (HA.out.of_block (hb2.block _ HA.out.lt))
      have HB2 := Lib.hid (HB.out.trans (hb2.mono (by simp; omega)))
      obtain ⟨k0, k1, k2⟩ := BX.out.block (hb2.block w1.heap.size (by simp; omega))
      obtain ⟨F, hF⟩ : ∃ F, F = w1.heap.size := ⟨_, rfl⟩
      rw [← hF] at k0 k1 k2 z2 hz ⊢
      clear hb2 BX hF
      go_wp2_with fail
      refine (at_grid g g.length a i j _ HGO.out HA2.out hi hj).mono ?_
      rintro e w3 ⟨rfl, hb3⟩
      rw [← HX.out]
      have HB3 := Lib.hid (HB2.out.trans (hb3.mono (by omega)))
      have z3 := hb3.size
      clear hb3 k0 k1 k2
      go_wp2_with fail
      go_loopw [13, 15, 39] (fun v _ s wr => ∃ k : Nat, k ≤ l.length ∧ s = .int .i64 k ∧ wr.ownsRow w.heap.size 3 1 v (x :: hist l (i : Int) (j : Int) k).length ((x :: hist l (i : Int) (j : Int) k).map (Value.int .i64)) ∧ Below w.heap.size w wr) (fun _ _ s _ => l.length - (intOf s).toNat)
      case atStart => exact ⟨0, Nat.zero_le _, rfl, ownsRow_single HB3.out.size, HB3.out.alloc HB3.out.size _⟩
      case round =>
        obtain ⟨k, hk, rfl, hown, hbel⟩ := hrel
        have HO := Lib.hid hown
        have HBE := Lib.hid hbel
        have hzw := hbel.size
        by_cases hlt : k < l.length
        · obtain ⟨bb, off, hae, hbb, hq⟩ := HQ.out (by omega)
          subst hae
          obtain ⟨c0, c1, c2, c3⟩ := (hq k hlt).below hbel hbb
          obtain ⟨x0, x1, x2, x3, hx⟩ : ∃ x0 x1 x2 x3, (x0, x1, x2, x3) = l[k]?.getD q0 := ⟨_, _, _, _, rfl⟩
          rw [← hx] at c0 c1 c2 c3
          dsimp only at c0 c1 c2 c3
          have HX' := Lib.hid hx
          have HLN := Lib.hid (hist_len l (i : Int) (j : Int) k)
          clear hq hx hbel hown
          by_cases e0 : x0 = (i : Int)
          · by_cases e1 : x1 = (j : Int)
            · have t0 : (x0 == (i : Int)) = true := by simp [e0]
              have t1 : (x1 == (j : Int)) = true := by simp [e1]
              have HS : Hid (hist l (i : Int) (j : Int) (k + 1) = hist l (i : Int) (j : Int) k ++ [x3]) := by show _ = _; rw [hist, ← HX'.out, stepAt, if_pos ⟨e0, e1⟩]
              obtain ⟨L, hL⟩ : ∃ L, L = x :: hist l (i : Int) (j : Int) k := ⟨_, rfl⟩
              rw [← hL] at HO
              have hLn : L.length ≤ 1000 := by rw [hL]; have := HLN.out; simp; omega
              have HLE := Lib.hid hL
              clear e0 e1 hL
              have hzb : w.heap.size ≤ ((wr.alloc (.cells #[.int .i64 x0, .int .i64 x1, .int .i64 x2, .int .i64 x3] 41)).alloc (.cells #[.int .i64 x3] 3)).heap.size := by simp; omega
              have HOA := Lib.hid ((HO.out.alloc (.cells #[.int .i64 x0, .int .i64 x1, .int .i64 x2, .int .i64 x3] 41)).alloc (.cells #[.int .i64 x3] 3))
              have HBA := Lib.hid ((HBE.out.alloc hzw (.cells #[.int .i64 x0, .int .i64 x1, .int .i64 x2, .int .i64 x3] 41)).alloc (by simp; omega) (.cells #[.int .i64 x3] 3))
              go_wp2_with (at_builtin; refine app_ints _ rfl _ _ rfl w.heap.size _ L _ [x3] HOA.out (ints_single (by simp)) rfl rfl (by simp; omega) hzb ?_; intro v9 w9 hown9 hg9; have HO9 := Lib.hid hown9; have HB9 := Lib.hid (HBA.out.grown hg9 hzb (fun k e => (HOA.out.lt k e).1)); clear hown9 hg9)
              go_roundw
              case rel =>
                refine ⟨k + 1, by omega, by go_num, ?_, HB9.out⟩
                rw [HS.out, ← List.cons_append, ← HLE.out]
                exact HO9.out
              case measure => simp [intOf]; omega
            · have t0 : (x0 == (i : Int)) = true := by simp [e0]
              have t1 : (x1 == (j : Int)) = false := by simp [e1]
              have HS : Hid (hist l (i : Int) (j : Int) (k + 1) = hist l (i : Int) (j : Int) k) := by show _ = _; rw [hist, ← HX'.out, stepAt, if_neg (fun h => e1 h.2), List.append_nil]
              clear e0 e1
              go_wp2
              go_roundw
              case rel => exact ⟨k + 1, by omega, by go_num, by rw [HS.out]; exact HO.out.alloc _, HBE.out.alloc hzw _⟩
              case measure => simp [intOf]; omega
          · have t0 : (x0 == (i : Int)) = false := by simp [e0]
            have HS : Hid (hist l (i : Int) (j : Int) (k + 1) = hist l (i : Int) (j : Int) k) := by show _ = _; rw [hist, ← HX'.out, stepAt, if_neg (fun h => e0 h.1), List.append_nil]
            clear e0
            go_wp2
            go_roundw
            case rel => exact ⟨k + 1, by omega, by go_num, by rw [HS.out]; exact HO.out.alloc _, HBE.out.alloc hzw _⟩
            case measure => simp [intOf]; omega
        · obtain rfl : k = l.length := by omega
          obtain ⟨va', vc', rfl⟩ := ownsRow_sl hown
          clear hown hbel
          go_wp2
          go_ret2
          exact ⟨_, rfl, own_of_ownsRow HO.out (Nat.le_refl _), HBE.out⟩
    · have HNO : Hid (¬ AtOk g l R C) := fun h => hc h.2
      have HCD := Lib.hid (decide_eq_false hc)
      clear h hc
      rw [decide_eq_false HNO.out, atOf_no HNO.out]
      go_enter Try.func14, Try.ntmps14
      go_wp2_with fail
      refine CE.out.mono ?_
      rintro e w1 ⟨a, b, cap, m, f, rfl, _, _, _, _, _, hb⟩
      have hz := hb.size
      have HB := Lib.hid ((hb.alloc hb.size (.cells #[.int .i64 g.length, .int .i64 (colsOf g), .slice (some ⟨a, 0, none⟩) (g.length * colsOf g) (g.length * colsOf g)] 64)).alloc (by simp; omega) (.cells #[.int .i64 g.length, .int .i64 (colsOf g), .slice (some ⟨b, 0, none⟩) (g.length * colsOf g) cap] 64))
      clear hb CE
      go_wp2_with fail
      refine (has_any g.length (colsOf g) _ R C _).mono ?_
      rintro e w2 ⟨rfl, hb2⟩
      rw [HCD.out]
      have HB2 := Lib.hid (HB.out.trans (hb2.mono (by simp; omega)))
      clear hb2
      go_wp2
      go_ret2
      exact ⟨_, rfl, .inl ⟨rfl, none, 0, rfl, by omega⟩, HB2.out⟩
  · have CE := Lib.hid (editions_no vg vl g l w hG hL h)
    have HNO : Hid (¬ AtOk g l R C) := fun hh => h hh.1
    rw [decide_eq_false HNO.out, atOf_no HNO.out]
    clear hG hL h
    go_enter Try.func14, Try.ntmps14
    go_wp2_with fail
    refine CE.out.mono ?_
    rintro e w1 ⟨rfl, hb⟩
    go_wp2
    go_ret2
    exact ⟨_, rfl, .inl ⟨rfl, none, 0, rfl, by omega⟩, (hb.alloc hb.size _).alloc (by have := hb.size; simp; omega) _⟩

end Go.Proofs.Ytdelcebkpdnnjaa
