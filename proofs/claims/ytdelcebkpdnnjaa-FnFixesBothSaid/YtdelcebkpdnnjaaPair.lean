/-
  pairOf: the fields of two lists of rows, or none. No condition.
-/
import Derived.Test.YtdelcebkpdnnjaaField4
namespace Go.Proofs.Ytdelcebkpdnnjaa
open Go.RowKit Go.Deep Go.Sort

/-- two grids of as many rows -/
def Same (ga gb : Rows) : Prop := GridOk ga ∧ GridOk gb ∧ ga.length = gb.length
instance (ga gb : Rows) : Decidable (Same ga gb) := by unfold Same; infer_instance
/-- the row of a field's own block -/
abbrev f3 (x y z : Value) : Nat → Value := fun i => (#[x, y, z] : Array Value)[i]?.getD undef
theorem field_row (w : World) (x y z : Value) : (w.alloc (.cells #[x, y, z] 64)).rowIs w.heap.size 64 3 (f3 x y z) :=
  World.rowIs_alloc w #[x, y, z] 64 (f3 x y z) (fun i hi => by simp at hi; match i, hi with | 0, _ => rfl | 1, _ => rfl | 2, _ => rfl)

theorem results_cct {fn : Func} {p q u : Tmp} {ty tz : TypeId} (h : fn.results = #[.cell p ty, .cell q tz, .tmp u]) (tmps : Array Value) (P : Program) (w : World) :
    (results fn tmps).run P w =
      ((asAddr (tmps.getD p undef)).run P w).andThen fun a w₁ => ((loadVar ty a).run P w₁).andThen fun v w₂ => ((asAddr (tmps.getD q undef)).run P w₂).andThen fun a2 w₃ => ((loadVar tz a2).run P w₃).andThen fun v2 w₄ => .ok (.tuple #[v, v2, tmps.getD u undef]) w₄ := by
  simp only [results, h]
  simp [Sem.run_bind, Result.andThen]

theorem field_load {w : World} {b : Nat} {f : Nat → Value} {x y z : Value} (h : w.rowIs b 64 3 f) (h0 : f 0 = x) (h1 : f 1 = y) (h2 : f 2 = z) :
    (loadVar 64 ⟨b, 0, none⟩).run Try.prog w = Result.ok (.agg #[x, y, z]) w := by
  obtain ⟨c, hc, hs, hg⟩ := h
  have e : c = #[x, y, z] := by
    refine Array.ext_getElem? fun i => ?_
    by_cases hi : i < 3
    · rw [hg i hi]
      match i, hi with
      | 0, _ => simp [h0]
      | 1, _ => simp [h1]
      | 2, _ => simp [h2]
    · rw [Array.getElem?_eq_none (by omega), Array.getElem?_eq_none (by simp; omega)]
  subst e
  exact run_loadVar_row w b 64 64 _ (0, 0) _ hc Try.underlying64 rfl size_field

theorem field_result2 {w : World} {b b2 : Nat} {f f2 : Nat → Value} {x y z x2 y2 z2 : Value} (h : w.rowIs b 64 3 f) (h0 : f 0 = x) (h1 : f 1 = y) (h2 : f 2 = z)
    (k : w.rowIs b2 64 3 f2) (k0 : f2 0 = x2) (k1 : f2 1 = y2) (k2 : f2 2 = z2) (u : Value) :
    ((asAddr (.pointer (some ⟨b, 0, none⟩))).run Try.prog w).andThen (fun a w₁ => ((loadVar 64 a).run Try.prog w₁).andThen fun v w₂ => ((asAddr (.pointer (some ⟨b2, 0, none⟩))).run Try.prog w₂).andThen fun a2 w₃ => ((loadVar 64 a2).run Try.prog w₃).andThen fun v2 w₄ => Result.ok (Value.tuple #[v, v2, u]) w₄) =
      Result.ok (Value.tuple #[.agg #[x, y, z], .agg #[x2, y2, z2], u]) w := by
  simp [asAddr, field_load h h0 h1 h2, field_load k k0 k1 k2]

abbrev noPair : Ending := .returned (.tuple #[fv 0 0 (.slice none 0 0), fv 0 0 (.slice none 0 0), .bool false])

set_option maxHeartbeats 2000000 in
set_option maxRecDepth 100000 in
theorem pairOf_yes (va vb : Value) (ga gb : Rows) (w : World) (ha : Grid w va ga) (hb : Grid w vb gb) (hs : Same ga gb) :
    Calls Try.prog 88 #[va, vb] w fun e w' => ∃ a b, e = .returned (.tuple #[fv ga.length (colsOf ga) (.slice (some ⟨a, 0, none⟩) (ga.length * colsOf ga) (ga.length * colsOf ga)), fv gb.length (colsOf gb) (.slice (some ⟨b, 0, none⟩) (gb.length * colsOf gb) (gb.length * colsOf gb)), .bool true]) ∧
      w.heap.size ≤ a ∧ a < b ∧ w'.rowIs a 3 (ga.length * colsOf ga) (fun i => .int .i64 (cellOf ga i)) ∧ w'.rowIs b 3 (gb.length * colsOf gb) (fun i => .int .i64 (cellOf gb i)) ∧ Below w.heap.size w w' := by
  obtain ⟨s1, s2, s3⟩ := hs
  have HA := Lib.hid (show GridB w.heap.size w _ ga from ha)
  have HB := Lib.hid (show GridB w.heap.size w _ gb from hb)
  obtain ⟨a, ca, rfl, ha1, ha2, ha3⟩ := ha
  obtain ⟨b, cb, rfl, hb1, hb2, hb3⟩ := hb
  have HS1 := Lib.hid s1
  have HS2 := Lib.hid s2
  clear s1 s2 ha3 hb3
  obtain ⟨na, hna⟩ : ∃ n, n = ga.length * colsOf ga := ⟨_, rfl⟩
  obtain ⟨nb, hnb⟩ : ∃ n, n = gb.length * colsOf gb := ⟨_, rfl⟩
  have C1 : Hid (∀ W, GridB w.heap.size W (.slice a ga.length ca) ga → w.heap.size ≤ W.heap.size → Calls Try.prog 78 #[.slice a ga.length ca] W fun e w' => ∃ b, e = .returned (.tuple #[fv ga.length (colsOf ga) (.slice (some ⟨b, 0, none⟩) na na), .bool true]) ∧
      W.heap.size ≤ b ∧ w'.rowIs b 3 na (fun i => .int .i64 (cellOf ga i)) ∧ Below W.heap.size W w') := fun W hW hsz => by rw [hna]; exact fieldOf_yes _ ga W (hW.grid hsz) HS1.out
  have C2 : Hid (∀ W, GridB w.heap.size W (.slice b gb.length cb) gb → w.heap.size ≤ W.heap.size → Calls Try.prog 78 #[.slice b gb.length cb] W fun e w' => ∃ b, e = .returned (.tuple #[fv gb.length (colsOf gb) (.slice (some ⟨b, 0, none⟩) nb nb), .bool true]) ∧
      W.heap.size ≤ b ∧ w'.rowIs b 3 nb (fun i => .int .i64 (cellOf gb i)) ∧ Below W.heap.size W w') := fun W hW hsz => by rw [hnb]; exact fieldOf_yes _ gb W (hW.grid hsz) HS2.out
  have hne : ((ga.length : Int) != (gb.length : Int)) = false := by simp [s3]
  rw [← hna, ← hnb]
  clear hna hnb HS1 HS2 s3
  have B0 := Lib.hid (((Below.refl w.heap.size w).alloc (Nat.le_refl _) (.cells #[.int .i64 0, .int .i64 0, .slice none 0 0] 64)).alloc (by simp) (.cells #[.int .i64 0, .int .i64 0, .slice none 0 0] 64))
  go_enter Try.func88, Try.ntmps88
  go_wp2_with fail
  refine (C1.out _ (HA.out.below B0.out (Nat.le_refl _)) (by simp; omega)).mono ?_
  rintro e w1 ⟨A1, rfl, hA1, hrow1, hb1'⟩
  have hA1' : w.heap.size + 2 ≤ A1 := by simpa using hA1
  have hz1 := hb1'.size
  simp at hz1
  have B1 := Lib.hid (B0.out.trans (hb1'.mono (by simp; omega)))
  have R0 := Lib.hid (((field_zero w).alloc (.cells #[.int .i64 0, .int .i64 0, .slice none 0 0] 64)).of_block (hb1'.block _ (by simp; omega)))
  have R1 := Lib.hid ((field_zero (w.alloc (.cells #[.int .i64 0, .int .i64 0, .slice none 0 0] 64))).of_block (hb1'.block _ (by simp)))
  have RA := Lib.hid hrow1
  have hA2 := hrow1.lt
  clear hA1 hrow1 hb1'
  obtain ⟨F, hF⟩ : ∃ F, F = w1.heap.size := ⟨_, rfl⟩
  have hrF := field_row w1 (.int .i64 ga.length) (.int .i64 (colsOf ga)) (.slice (some ⟨A1, 0, none⟩) na na)
  rw [← hF] at hrF
  have HFE := Lib.hid hF
  have W1 := Lib.hid (HB.out.below B1.out (Nat.le_refl _))
  go_wp2_with fail
  refine (C2.out _ (W1.out.below ((Below.refl w1.heap.size w1).alloc (Nat.le_refl _) _) (by omega)) (by simp; omega)).mono ?_
  rintro e w2 ⟨A2, rfl, hA2', hrow2, hb2'⟩
  have hA3 : F + 1 ≤ A2 := by rw [hF]; simpa using hA2'
  have hz2 := hb2'.size
  simp at hz2
  have B2 := Lib.hid ((B1.out.alloc (by omega) _).trans (hb2'.mono (by simp; omega)))
  have hF0 : F < w2.heap.size := by omega
  have hF1 : w.heap.size + 2 ≤ F ∧ A1 < F := by omega
  have hr0 := ((R0.out.alloc (.cells #[.int .i64 ga.length, .int .i64 (colsOf ga), .slice (some ⟨A1, 0, none⟩) na na] 64)).of_block (hb2'.block _ (by simp; omega))).alloc (.cells #[.int .i64 gb.length, .int .i64 (colsOf gb), .slice (some ⟨A2, 0, none⟩) nb nb] 64)
  have hr1 := ((R1.out.alloc (.cells #[.int .i64 ga.length, .int .i64 (colsOf ga), .slice (some ⟨A1, 0, none⟩) na na] 64)).of_block (hb2'.block _ (by simp; omega))).alloc (.cells #[.int .i64 gb.length, .int .i64 (colsOf gb), .slice (some ⟨A2, 0, none⟩) nb nb] 64)
  have hrA := ((RA.out.alloc (.cells #[.int .i64 ga.length, .int .i64 (colsOf ga), .slice (some ⟨A1, 0, none⟩) na na] 64)).of_block (hb2'.block _ (by simp; omega))).alloc (.cells #[.int .i64 gb.length, .int .i64 (colsOf gb), .slice (some ⟨A2, 0, none⟩) nb nb] 64)
  have hrB := hrow2.alloc (.cells #[.int .i64 gb.length, .int .i64 (colsOf gb), .slice (some ⟨A2, 0, none⟩) nb nb] 64)
  have hrF2 := (hrF.of_block (hb2'.block _ (by simp; omega))).alloc (.cells #[.int .i64 gb.length, .int .i64 (colsOf gb), .slice (some ⟨A2, 0, none⟩) nb nb] 64)
  have hrG := field_row w2 (.int .i64 gb.length) (.int .i64 (colsOf gb)) (.slice (some ⟨A2, 0, none⟩) nb nb)
  have B3 := Lib.hid (B2.out.alloc (by omega) (.cells #[.int .i64 gb.length, .int .i64 (colsOf gb), .slice (some ⟨A2, 0, none⟩) nb nb] 64))
  have hAA := hrow2.lt
  have d0 : (w2.alloc (.cells #[.int .i64 gb.length, .int .i64 (colsOf gb), .slice (some ⟨A2, 0, none⟩) nb nb] 64)).cell? ⟨F, 0, none⟩ = some (.int .i64 ga.length) := hrF2.cell (i := 0) (by decide)
  rw [hF] at d0
  obtain ⟨G, hG⟩ : ∃ G, G = w2.heap.size := ⟨_, rfl⟩
  obtain ⟨w3, hw3⟩ : ∃ w3, w3 = w2.alloc (.cells #[.int .i64 gb.length, .int .i64 (colsOf gb), .slice (some ⟨A2, 0, none⟩) nb nb] 64) := ⟨_, rfl⟩
  rw [← hw3] at hr0 hr1 hrA hrB hrF2 hrG B3
  rw [← hG] at hrG hF0 hAA
  have HGE := Lib.hid hG
  have HW3 := Lib.hid hw3
  have HR0 := Lib.hid hr0
  have HR1 := Lib.hid hr1
  have HRA := Lib.hid hrA
  have HRB := Lib.hid hrB
  clear hr0 hr1 hrA hrB hb2' hrow2 hF hG hA2' hw3
  go_wp2_with fail
  rw [← HW3.out, ← HGE.out, ← HFE.out]
  clear d0 hb1 hb2 ha1 ha2 hne
  have f0 : w3.cell? ⟨F, 0, none⟩ = some (.int .i64 ga.length) := hrF2.cell (i := 0) (by decide)
  have f1 : w3.cell? ⟨F, 1, none⟩ = some (.int .i64 (colsOf ga)) := hrF2.cell (i := 1) (by decide)
  have f2 : w3.cell? ⟨F, 2, none⟩ = some (.slice (some ⟨A1, 0, none⟩) na na) := hrF2.cell (i := 2) (by decide)
  have g0 : w3.cell? ⟨G, 0, none⟩ = some (.int .i64 gb.length) := hrG.cell (i := 0) (by decide)
  have g1 : w3.cell? ⟨G, 1, none⟩ = some (.int .i64 (colsOf gb)) := hrG.cell (i := 1) (by decide)
  have g2 : w3.cell? ⟨G, 2, none⟩ = some (.slice (some ⟨A2, 0, none⟩) nb nb) := hrG.cell (i := 2) (by decide)
  have e1 : (w.alloc (.cells #[.int .i64 0, .int .i64 0, .slice none 0 0] 64)).heap.size = w.heap.size + 1 := by simp
  have hR1 := HR1.out
  rw [e1] at hR1
  have s0 : w3.cell? ⟨w.heap.size, 0, none⟩ = some (.int .i64 0) := HR0.out.cell (i := 0) (by decide)
  have s1 : w3.cell? ⟨w.heap.size, 1, none⟩ = some (.int .i64 0) := HR0.out.cell (i := 1) (by decide)
  have s2 : w3.cell? ⟨w.heap.size, 2, none⟩ = some (.slice none 0 0) := HR0.out.cell (i := 2) (by decide)
  have t0 : w3.cell? ⟨w.heap.size + 1, 0, none⟩ = some (.int .i64 0) := hR1.cell (i := 0) (by decide)
  have t1 : w3.cell? ⟨w.heap.size + 1, 1, none⟩ = some (.int .i64 0) := hR1.cell (i := 1) (by decide)
  have t2 : w3.cell? ⟨w.heap.size + 1, 2, none⟩ = some (.slice none 0 0) := hR1.cell (i := 2) (by decide)
  have u0 := HR0.out.frozen 0
  have u1 := HR0.out.frozen 1
  have u2 := HR0.out.frozen 2
  have v0 := hR1.frozen 0
  have v1 := hR1.frozen 1
  have v2 := hR1.frozen 2
  have HR1' := Lib.hid hR1
  have HRF := Lib.hid hrF2
  have HRG := Lib.hid hrG
  clear hR1 hrF2 hrG
  go_region
  go_wp2
  have r1 := (((((HR0.out.set 0 (.int .i64 ga.length)).set 1 (.int .i64 (colsOf ga))).set 2 (.slice (some ⟨A1, 0, none⟩) na na)).setOther (a := ⟨w.heap.size + 1, 0, none⟩) (by simp) (.int .i64 gb.length)).setOther (a := ⟨w.heap.size + 1, 1, none⟩) (by simp) (.int .i64 (colsOf gb))).setOther (a := ⟨w.heap.size + 1, 2, none⟩) (by simp) (.slice (some ⟨A2, 0, none⟩) nb nb)
  have r2 := (((((HR1'.out.setOther (a := ⟨w.heap.size, 0, none⟩) (by simp) (.int .i64 ga.length)).setOther (a := ⟨w.heap.size, 1, none⟩) (by simp) (.int .i64 (colsOf ga))).setOther (a := ⟨w.heap.size, 2, none⟩) (by simp) (.slice (some ⟨A1, 0, none⟩) na na)).set 0 (.int .i64 gb.length)).set 1 (.int .i64 (colsOf gb))).set 2 (.slice (some ⟨A2, 0, none⟩) nb nb)
  refine bodyPost_ret (v := .tuple #[fv ga.length (colsOf ga) (.slice (some ⟨A1, 0, none⟩) na na), fv gb.length (colsOf gb) (.slice (some ⟨A2, 0, none⟩) nb nb), .bool true]) ?_ rfl ?_
  · rw [results_cct rfl]
    exact field_result2 r1.drew rfl rfl rfl r2.drew rfl rfl rfl _
  · have q1 := ((((((HRA.out.setOther (a := ⟨w.heap.size, 0, none⟩) (by show A1 ≠ w.heap.size; omega) (.int .i64 ga.length)).setOther (a := ⟨w.heap.size, 1, none⟩) (by show A1 ≠ w.heap.size; omega) (.int .i64 (colsOf ga))).setOther (a := ⟨w.heap.size, 2, none⟩) (by show A1 ≠ w.heap.size; omega) (.slice (some ⟨A1, 0, none⟩) na na)).setOther (a := ⟨w.heap.size + 1, 0, none⟩) (by show A1 ≠ w.heap.size + 1; omega) (.int .i64 gb.length)).setOther (a := ⟨w.heap.size + 1, 1, none⟩) (by show A1 ≠ w.heap.size + 1; omega) (.int .i64 (colsOf gb))).setOther (a := ⟨w.heap.size + 1, 2, none⟩) (by show A1 ≠ w.heap.size + 1; omega) (.slice (some ⟨A2, 0, none⟩) nb nb)).drew
    have q2 := ((((((HRB.out.setOther (a := ⟨w.heap.size, 0, none⟩) (by show A2 ≠ w.heap.size; omega) (.int .i64 ga.length)).setOther (a := ⟨w.heap.size, 1, none⟩) (by show A2 ≠ w.heap.size; omega) (.int .i64 (colsOf ga))).setOther (a := ⟨w.heap.size, 2, none⟩) (by show A2 ≠ w.heap.size; omega) (.slice (some ⟨A1, 0, none⟩) na na)).setOther (a := ⟨w.heap.size + 1, 0, none⟩) (by show A2 ≠ w.heap.size + 1; omega) (.int .i64 gb.length)).setOther (a := ⟨w.heap.size + 1, 1, none⟩) (by show A2 ≠ w.heap.size + 1; omega) (.int .i64 (colsOf gb))).setOther (a := ⟨w.heap.size + 1, 2, none⟩) (by show A2 ≠ w.heap.size + 1; omega) (.slice (some ⟨A2, 0, none⟩) nb nb)).drew
    exact ⟨A1, A2, rfl, by omega, by omega, q1, q2, (((((((B3.out.setCell (by simp) _).setCell (by simp) _).setCell (by simp) _).setCell (by simp) _).setCell (by simp) _).setCell (by simp) _).drew)⟩

theorem fieldOf_any (v : Value) (g : Rows) (w : World) (h : Grid w v g) :
    Calls Try.prog 78 #[v] w fun e w' => ∃ (r c : Int) (a : Option Addr) (n : Nat), e = .returned (.tuple #[fv r c (.slice a n n), .bool (decide (GridOk g))]) ∧ (GridOk g → r = g.length) ∧ Below w.heap.size w w' := by
  by_cases hg : GridOk g
  · exact (fieldOf_yes v g w h hg).mono fun e w' ⟨b, he, _, _, hb⟩ => ⟨g.length, colsOf g, some ⟨b, 0, none⟩, g.length * colsOf g, by rw [he, decide_eq_true hg], fun _ => rfl, hb⟩
  · exact (fieldOf_no v g w h hg).mono fun e w' ⟨he, hb⟩ => ⟨0, 0, none, 0, by rw [he, decide_eq_false hg], fun h => absurd h hg, hb⟩

set_option maxHeartbeats 2000000 in
set_option maxRecDepth 100000 in
theorem pairOf_no (va vb : Value) (ga gb : Rows) (w : World) (ha : Grid w va ga) (hb : Grid w vb gb) (hs : ¬ Same ga gb) :
    Calls Try.prog 88 #[va, vb] w fun e w' => e = noPair ∧ Below w.heap.size w w' := by
  have HA := Lib.hid (show GridB w.heap.size w _ ga from ha)
  have HB := Lib.hid (show GridB w.heap.size w _ gb from hb)
  obtain ⟨a, ca, rfl, ha1, ha2, ha3⟩ := ha
  obtain ⟨b, cb, rfl, hb1, hb2, hb3⟩ := hb
  clear ha3 hb3
  obtain ⟨oka, hoka⟩ : ∃ o, o = decide (GridOk ga) := ⟨_, rfl⟩
  obtain ⟨okb, hokb⟩ : ∃ o, o = decide (GridOk gb) := ⟨_, rfl⟩
  have C1 : Hid (∀ W, GridB w.heap.size W (.slice a ga.length ca) ga → w.heap.size ≤ W.heap.size → Calls Try.prog 78 #[.slice a ga.length ca] W fun e w' => ∃ (r c : Int) (a : Option Addr) (n : Nat), e = .returned (.tuple #[fv r c (.slice a n n), .bool oka]) ∧ (GridOk ga → r = ga.length) ∧ Below W.heap.size W w') := fun W hW hsz => by rw [hoka]; exact fieldOf_any _ ga W (hW.grid hsz)
  have C2 : Hid (∀ W, GridB w.heap.size W (.slice b gb.length cb) gb → w.heap.size ≤ W.heap.size → Calls Try.prog 78 #[.slice b gb.length cb] W fun e w' => ∃ (r c : Int) (a : Option Addr) (n : Nat), e = .returned (.tuple #[fv r c (.slice a n n), .bool okb]) ∧ (GridOk gb → r = gb.length) ∧ Below W.heap.size W w') := fun W hW hsz => by rw [hokb]; exact fieldOf_any _ gb W (hW.grid hsz)
  have HO : Hid (oka = true → okb = true → GridOk ga ∧ GridOk gb ∧ ga.length ≠ gb.length) := fun h1 h2 => by
    rw [hoka] at h1; rw [hokb] at h2
    exact ⟨of_decide_eq_true h1, of_decide_eq_true h2, fun e => hs ⟨of_decide_eq_true h1, of_decide_eq_true h2, e⟩⟩
  clear hoka hokb hs
  have B0 := Lib.hid (((Below.refl w.heap.size w).alloc (Nat.le_refl _) (.cells #[.int .i64 0, .int .i64 0, .slice none 0 0] 64)).alloc (by simp) (.cells #[.int .i64 0, .int .i64 0, .slice none 0 0] 64))
  go_enter Try.func88, Try.ntmps88
  go_wp2_with fail
  refine (C1.out _ (HA.out.below B0.out (Nat.le_refl _)) (by simp; omega)).mono ?_
  rintro e w1 ⟨ra, xa, sa, na, rfl, hra, hb1'⟩
  have HRA := Lib.hid hra
  have hz1 := hb1'.size
  simp at hz1
  have B1 := Lib.hid (B0.out.trans (hb1'.mono (by simp; omega)))
  have R0 := Lib.hid (((field_zero w).alloc (.cells #[.int .i64 0, .int .i64 0, .slice none 0 0] 64)).of_block (hb1'.block _ (by simp; omega)))
  have R1 := Lib.hid ((field_zero (w.alloc (.cells #[.int .i64 0, .int .i64 0, .slice none 0 0] 64))).of_block (hb1'.block _ (by simp)))
  clear hra hb1'
  have hrF := Lib.hid (field_row w1 (.int .i64 ra) (.int .i64 xa) (.slice sa na na))
  have W1 := Lib.hid (HB.out.below B1.out (Nat.le_refl _))
  go_wp2_with fail
  refine (C2.out _ (W1.out.below ((Below.refl w1.heap.size w1).alloc (Nat.le_refl _) _) (by omega)) (by simp; omega)).mono ?_
  rintro e w2 ⟨rb, xb, sb, nb, rfl, hrb, hb2'⟩
  have HRB := Lib.hid hrb
  have hz2 := hb2'.size
  simp at hz2
  have B2 := Lib.hid ((B1.out.alloc (by omega) _).trans (hb2'.mono (by simp; omega)))
  have hr0 := ((R0.out.alloc (.cells #[.int .i64 ra, .int .i64 xa, .slice sa na na] 64)).of_block (hb2'.block _ (by simp; omega))).alloc (.cells #[.int .i64 rb, .int .i64 xb, .slice sb nb nb] 64)
  have hr1 := ((R1.out.alloc (.cells #[.int .i64 ra, .int .i64 xa, .slice sa na na] 64)).of_block (hb2'.block _ (by simp; omega))).alloc (.cells #[.int .i64 rb, .int .i64 xb, .slice sb nb nb] 64)
  have B3 := Lib.hid (B2.out.alloc (by omega) (.cells #[.int .i64 rb, .int .i64 xb, .slice sb nb nb] 64))
  have hrF2 := (hrF.out.of_block (hb2'.block _ (by simp))).alloc (.cells #[.int .i64 rb, .int .i64 xb, .slice sb nb nb] 64)
  have d0 := hrF2.cell (i := 0) (by decide)
  replace d0 : (w2.alloc (.cells #[.int .i64 rb, .int .i64 xb, .slice sb nb nb] 64)).cell? ⟨w1.heap.size, 0, none⟩ = some (.int .i64 ra) := d0
  have e1 : (w.alloc (.cells #[.int .i64 0, .int .i64 0, .slice none 0 0] 64)).heap.size = w.heap.size + 1 := by simp
  rw [e1] at hr1
  obtain ⟨w3, hw3⟩ : ∃ w3, w3 = w2.alloc (.cells #[.int .i64 rb, .int .i64 xb, .slice sb nb nb] 64) := ⟨_, rfl⟩
  have D0 := Lib.hid d0
  rw [← hw3] at hr0 hr1 B3
  have s0 : w3.cell? ⟨w.heap.size, 0, none⟩ = some (.int .i64 0) := hr0.cell (i := 0) (by decide)
  have s1 : w3.cell? ⟨w.heap.size, 1, none⟩ = some (.int .i64 0) := hr0.cell (i := 1) (by decide)
  have s2 : w3.cell? ⟨w.heap.size, 2, none⟩ = some (.slice none 0 0) := hr0.cell (i := 2) (by decide)
  have t0 : w3.cell? ⟨w.heap.size + 1, 0, none⟩ = some (.int .i64 0) := hr1.cell (i := 0) (by decide)
  have t1 : w3.cell? ⟨w.heap.size + 1, 1, none⟩ = some (.int .i64 0) := hr1.cell (i := 1) (by decide)
  have t2 : w3.cell? ⟨w.heap.size + 1, 2, none⟩ = some (.slice none 0 0) := hr1.cell (i := 2) (by decide)
  have u0 := hr0.frozen 0
  have u1 := hr0.frozen 1
  have u2 := hr0.frozen 2
  have v0 := hr1.frozen 0
  have v1 := hr1.frozen 1
  have v2 := hr1.frozen 2
  rw [hw3] at s0 s1 s2 t0 t1 t2 u0 u1 u2 v0 v1 v2
  have HW3 := Lib.hid hw3
  have HR0 := Lib.hid hr0
  have HR1 := Lib.hid hr1
  clear hr0 hr1 hb2' hw3 hrb hrF2 d0
  cases oka
  · go_wp2_with fail
    rw [← HW3.out]
    have r1 := (((((HR0.out.set 0 (.int .i64 0)).set 1 (.int .i64 0)).set 2 (.slice none 0 0)).setOther (a := ⟨w.heap.size + 1, 0, none⟩) (by simp) (.int .i64 0)).setOther (a := ⟨w.heap.size + 1, 1, none⟩) (by simp) (.int .i64 0)).setOther (a := ⟨w.heap.size + 1, 2, none⟩) (by simp) (.slice none 0 0)
    have r2 := (((((HR1.out.setOther (a := ⟨w.heap.size, 0, none⟩) (by simp) (.int .i64 0)).setOther (a := ⟨w.heap.size, 1, none⟩) (by simp) (.int .i64 0)).setOther (a := ⟨w.heap.size, 2, none⟩) (by simp) (.slice none 0 0)).set 0 (.int .i64 0)).set 1 (.int .i64 0)).set 2 (.slice none 0 0)
    refine bodyPost_ret (v := .tuple #[fv 0 0 (.slice none 0 0), fv 0 0 (.slice none 0 0), .bool false]) ?_ rfl ⟨rfl, (((((B3.out.setCell (by simp) _).setCell (by simp) _).setCell (by simp) _).setCell (by simp) _).setCell (by simp) _).setCell (by simp) _⟩
    rw [results_cct rfl]
    exact field_result2 r1 rfl rfl rfl r2 rfl rfl rfl _
  · cases okb
    · go_wp2_with fail
      rw [← HW3.out]
      have r1 := (((((HR0.out.set 0 (.int .i64 0)).set 1 (.int .i64 0)).set 2 (.slice none 0 0)).setOther (a := ⟨w.heap.size + 1, 0, none⟩) (by simp) (.int .i64 0)).setOther (a := ⟨w.heap.size + 1, 1, none⟩) (by simp) (.int .i64 0)).setOther (a := ⟨w.heap.size + 1, 2, none⟩) (by simp) (.slice none 0 0)
      have r2 := (((((HR1.out.setOther (a := ⟨w.heap.size, 0, none⟩) (by simp) (.int .i64 0)).setOther (a := ⟨w.heap.size, 1, none⟩) (by simp) (.int .i64 0)).setOther (a := ⟨w.heap.size, 2, none⟩) (by simp) (.slice none 0 0)).set 0 (.int .i64 0)).set 1 (.int .i64 0)).set 2 (.slice none 0 0)
      refine bodyPost_ret (v := .tuple #[fv 0 0 (.slice none 0 0), fv 0 0 (.slice none 0 0), .bool false]) ?_ rfl ⟨rfl, (((((B3.out.setCell (by simp) _).setCell (by simp) _).setCell (by simp) _).setCell (by simp) _).setCell (by simp) _).setCell (by simp) _⟩
      rw [results_cct rfl]
      exact field_result2 r1 rfl rfl rfl r2 rfl rfl rfl _
    · obtain ⟨o1, o2, o3⟩ := HO.out rfl rfl
      have q1 := HRA.out o1
      have q2 := HRB.out o2
      subst q1
      subst q2
      have hne : ((ga.length : Int) != (gb.length : Int)) = true := by simp; omega
      have d0 := D0.out
      clear o3
      go_wp2_with fail
      rw [← HW3.out]
      have r1 := (((((HR0.out.set 0 (.int .i64 0)).set 1 (.int .i64 0)).set 2 (.slice none 0 0)).setOther (a := ⟨w.heap.size + 1, 0, none⟩) (by simp) (.int .i64 0)).setOther (a := ⟨w.heap.size + 1, 1, none⟩) (by simp) (.int .i64 0)).setOther (a := ⟨w.heap.size + 1, 2, none⟩) (by simp) (.slice none 0 0)
      have r2 := (((((HR1.out.setOther (a := ⟨w.heap.size, 0, none⟩) (by simp) (.int .i64 0)).setOther (a := ⟨w.heap.size, 1, none⟩) (by simp) (.int .i64 0)).setOther (a := ⟨w.heap.size, 2, none⟩) (by simp) (.slice none 0 0)).set 0 (.int .i64 0)).set 1 (.int .i64 0)).set 2 (.slice none 0 0)
      refine bodyPost_ret (v := .tuple #[fv 0 0 (.slice none 0 0), fv 0 0 (.slice none 0 0), .bool false]) ?_ rfl ⟨rfl, (((((B3.out.setCell (by simp) _).setCell (by simp) _).setCell (by simp) _).setCell (by simp) _).setCell (by simp) _).setCell (by simp) _⟩
      rw [results_cct rfl]
      exact field_result2 r1 rfl rfl rfl r2 rfl rfl rfl _
end Go.Proofs.Ytdelcebkpdnnjaa
