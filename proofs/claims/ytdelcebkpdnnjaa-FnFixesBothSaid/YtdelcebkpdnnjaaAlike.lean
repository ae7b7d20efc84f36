/-
  alike: the fields of two lists of rows that are grids of as many rows and columns, or none. No condition.
-/
import Derived.Test.YtdelcebkpdnnjaaPair
namespace Go.Proofs.Ytdelcebkpdnnjaa
open Go.RowKit Go.Deep Go.Sort

/-- two grids of as many rows and columns -/
def Like (ga gb : Rows) : Prop := Same ga gb ∧ colsOf ga = colsOf gb
instance (ga gb : Rows) : Decidable (Like ga gb) := by unfold Like; infer_instance

/-- the world behind two new blocks of fields: what they and the results' own cells hold -/
theorem two_fields (w w1 : World) (x1 y1 z1 x2 y2 z2 : Value) (hb : Below ((w.alloc (.cells #[.int .i64 0, .int .i64 0, .slice none 0 0] 64)).alloc (.cells #[.int .i64 0, .int .i64 0, .slice none 0 0] 64)).heap.size ((w.alloc (.cells #[.int .i64 0, .int .i64 0, .slice none 0 0] 64)).alloc (.cells #[.int .i64 0, .int .i64 0, .slice none 0 0] 64)) w1) :
    ((w1.alloc (.cells #[x1, y1, z1] 64)).alloc (.cells #[x2, y2, z2] 64)).rowIs w.heap.size 64 3 (f3 (.int .i64 0) (.int .i64 0) (.slice none 0 0)) ∧
    ((w1.alloc (.cells #[x1, y1, z1] 64)).alloc (.cells #[x2, y2, z2] 64)).rowIs (w.heap.size + 1) 64 3 (f3 (.int .i64 0) (.int .i64 0) (.slice none 0 0)) ∧
    ((w1.alloc (.cells #[x1, y1, z1] 64)).alloc (.cells #[x2, y2, z2] 64)).rowIs w1.heap.size 64 3 (f3 x1 y1 z1) ∧
    ((w1.alloc (.cells #[x1, y1, z1] 64)).alloc (.cells #[x2, y2, z2] 64)).rowIs (w1.heap.size + 1) 64 3 (f3 x2 y2 z2) ∧
    Below w.heap.size w ((w1.alloc (.cells #[x1, y1, z1] 64)).alloc (.cells #[x2, y2, z2] 64)) ∧ w.heap.size + 2 ≤ w1.heap.size := by
  have B0 := ((Below.refl w.heap.size w).alloc (Nat.le_refl _) (.cells #[.int .i64 0, .int .i64 0, .slice none 0 0] 64)).alloc (by simp) (.cells #[.int .i64 0, .int .i64 0, .slice none 0 0] 64)
  have hz := hb.size
  simp at hz
  have e1 : (w.alloc (.cells #[.int .i64 0, .int .i64 0, .slice none 0 0] 64)).heap.size = w.heap.size + 1 := by simp
  have r2 := field_zero (w.alloc (.cells #[.int .i64 0, .int .i64 0, .slice none 0 0] 64))
  rw [e1] at r2
  have r4 := field_row (w1.alloc (.cells #[x1, y1, z1] 64)) x2 y2 z2
  rw [World.size_alloc] at r4
  exact ⟨((((field_zero w).alloc _).of_block (hb.block _ (by simp; omega))).alloc _).alloc _, ((r2.of_block (hb.block _ (by simp))).alloc _).alloc _, (field_row w1 x1 y1 z1).alloc _, r4,
    ((B0.trans (hb.mono (by simp; omega))).alloc (by omega) _).alloc (by simp; omega) _, hz⟩

set_option maxHeartbeats 2000000 in
set_option maxRecDepth 100000 in
theorem alike_yes (va vb : Value) (ga gb : Rows) (w : World) (ha : Grid w va ga) (hb : Grid w vb gb) (hs : Like ga gb) :
    Calls Try.prog 64 #[va, vb] w fun e w' => ∃ a b, e = .returned (.tuple #[fv ga.length (colsOf ga) (.slice (some ⟨a, 0, none⟩) (ga.length * colsOf ga) (ga.length * colsOf ga)), fv gb.length (colsOf gb) (.slice (some ⟨b, 0, none⟩) (gb.length * colsOf gb) (gb.length * colsOf gb)), .bool true]) ∧
      w.heap.size ≤ a ∧ a < b ∧ w'.rowIs a 3 (ga.length * colsOf ga) (fun i => .int .i64 (cellOf ga i)) ∧ w'.rowIs b 3 (gb.length * colsOf gb) (fun i => .int .i64 (cellOf gb i)) ∧ Below w.heap.size w w' := by
  have HA := Lib.hid (show GridB w.heap.size w va ga from ha)
  have HB := Lib.hid (show GridB w.heap.size w vb gb from hb)
  have C : Hid (∀ W, GridB w.heap.size W va ga → GridB w.heap.size W vb gb → w.heap.size ≤ W.heap.size → _) := fun W h1 h2 hz => pairOf_yes va vb ga gb W (h1.grid hz) (h2.grid hz) hs.1
  obtain ⟨na, hna⟩ : ∃ n, n = ga.length * colsOf ga := ⟨_, rfl⟩
  obtain ⟨nb, hnb⟩ : ∃ n, n = gb.length * colsOf gb := ⟨_, rfl⟩
  have hne : ((colsOf ga : Int) != (colsOf gb : Int)) = false := by simp [hs.2]
  rw [← hna, ← hnb] at C ⊢
  clear hna hnb hs ha hb
  have B0 := Lib.hid (((Below.refl w.heap.size w).alloc (Nat.le_refl _) (.cells #[.int .i64 0, .int .i64 0, .slice none 0 0] 64)).alloc (by simp) (.cells #[.int .i64 0, .int .i64 0, .slice none 0 0] 64))
  go_enter Try.func64, Try.ntmps64
  go_wp2_with fail
  refine (C.out _ (HA.out.below B0.out (Nat.le_refl _)) (HB.out.below B0.out (Nat.le_refl _)) (by simp; omega)).mono ?_
  rintro e w1 ⟨A1, A2, rfl, hA1, hAB, hra, hrb, hbel⟩
  have hA1' : w.heap.size + 2 ≤ A1 := by simpa using hA1
  obtain ⟨hr0, hR1, hrF2, hrG, B3, hz1⟩ := two_fields w w1 (.int .i64 ga.length) (.int .i64 (colsOf ga)) (.slice (some ⟨A1, 0, none⟩) na na) (.int .i64 gb.length) (.int .i64 (colsOf gb)) (.slice (some ⟨A2, 0, none⟩) nb nb) hbel
  have HRA := Lib.hid ((hra.alloc (.cells #[.int .i64 ga.length, .int .i64 (colsOf ga), .slice (some ⟨A1, 0, none⟩) na na] 64)).alloc (.cells #[.int .i64 gb.length, .int .i64 (colsOf gb), .slice (some ⟨A2, 0, none⟩) nb nb] 64))
  have HRB := Lib.hid ((hrb.alloc (.cells #[.int .i64 ga.length, .int .i64 (colsOf ga), .slice (some ⟨A1, 0, none⟩) na na] 64)).alloc (.cells #[.int .i64 gb.length, .int .i64 (colsOf gb), .slice (some ⟨A2, 0, none⟩) nb nb] 64))
  have hlA := hra.lt
  have hlB := hrb.lt
  have d1 : ((w1.alloc (.cells #[.int .i64 ga.length, .int .i64 (colsOf ga), .slice (some ⟨A1, 0, none⟩) na na] 64)).alloc (.cells #[.int .i64 gb.length, .int .i64 (colsOf gb), .slice (some ⟨A2, 0, none⟩) nb nb] 64)).cell? ⟨w1.heap.size, 1, none⟩ = some (.int .i64 (colsOf ga)) := hrF2.cell (i := 1) (by decide)
  have d2 : ((w1.alloc (.cells #[.int .i64 ga.length, .int .i64 (colsOf ga), .slice (some ⟨A1, 0, none⟩) na na] 64)).alloc (.cells #[.int .i64 gb.length, .int .i64 (colsOf gb), .slice (some ⟨A2, 0, none⟩) nb nb] 64)).cell? ⟨w1.heap.size + 1, 1, none⟩ = some (.int .i64 (colsOf gb)) := hrG.cell (i := 1) (by decide)
  obtain ⟨w3, hw3⟩ : ∃ w3, w3 = (w1.alloc (.cells #[.int .i64 ga.length, .int .i64 (colsOf ga), .slice (some ⟨A1, 0, none⟩) na na] 64)).alloc (.cells #[.int .i64 gb.length, .int .i64 (colsOf gb), .slice (some ⟨A2, 0, none⟩) nb nb] 64) := ⟨_, rfl⟩
  rw [← hw3] at hr0 hR1 hrF2 hrG B3 HRA HRB
  have HW3 := Lib.hid hw3
  have HR0 := Lib.hid hr0
  have HR1' := Lib.hid hR1
  have HF2 := Lib.hid hrF2
  have HG2 := Lib.hid hrG
  have HB3 := Lib.hid B3
  clear hra hrb hbel hw3 hA1 hr0 hR1 hrF2 hrG B3 C
  go_wp2_with fail
  rw [← HW3.out]
  clear d1 d2 hne
  obtain ⟨F, hF⟩ : ∃ F, F = w1.heap.size := ⟨_, rfl⟩
  have hrF2 := HF2.out
  have hrG := HG2.out
  rw [← hF] at hrF2 hrG hlA hlB hz1 ⊢
  clear hF HF2 HG2
  have f0 : w3.cell? ⟨F, 0, none⟩ = some (.int .i64 ga.length) := hrF2.cell (i := 0) (by decide)
  have f1 : w3.cell? ⟨F, 1, none⟩ = some (.int .i64 (colsOf ga)) := hrF2.cell (i := 1) (by decide)
  have f2 : w3.cell? ⟨F, 2, none⟩ = some (.slice (some ⟨A1, 0, none⟩) na na) := hrF2.cell (i := 2) (by decide)
  have g0 : w3.cell? ⟨F + 1, 0, none⟩ = some (.int .i64 gb.length) := hrG.cell (i := 0) (by decide)
  have g1 : w3.cell? ⟨F + 1, 1, none⟩ = some (.int .i64 (colsOf gb)) := hrG.cell (i := 1) (by decide)
  have g2 : w3.cell? ⟨F + 1, 2, none⟩ = some (.slice (some ⟨A2, 0, none⟩) nb nb) := hrG.cell (i := 2) (by decide)
  have hR1 := HR1'.out
  have s0 : w3.cell? ⟨w.heap.size, 0, none⟩ = some (.int .i64 0) := HR0.out.cell (i := 0) (by decide)
  have s1 : w3.cell? ⟨w.heap.size, 1, none⟩ = some (.int .i64 0) := HR0.out.cell (i := 1) (by decide)
  have s2 : w3.cell? ⟨w.heap.size, 2, none⟩ = some (.slice none 0 0) := HR0.out.cell (i := 2) (by decide)
  have t0 : w3.cell? ⟨w.heap.size + 1, 0, none⟩ = some (.int .i64 0) := hR1.cell (i := 0) (by decide)
  have t1 : w3.cell? ⟨w.heap.size + 1, 1, none⟩ = some (.int .i64 0) := hR1.cell (i := 1) (by decide)
  have t2 : w3.cell? ⟨w.heap.size + 1, 2, none⟩ = some (.slice none 0 0) := hR1.cell (i := 2) (by decide)
  have u0 := HR0.out.frozen 0
  have u1 := HR0.out.frozen 1
  have u2 := HR0.out.frozen 2
  have v0 := hR1.frozen 0
  have v1 := hR1.frozen 1
  have v2 := hR1.frozen 2
  have HRF := Lib.hid hrF2
  have HRG := Lib.hid hrG
  clear hR1 hrF2 hrG
  go_region
  go_wp2
  have r1 := (((((HR0.out.set 0 (.int .i64 ga.length)).set 1 (.int .i64 (colsOf ga))).set 2 (.slice (some ⟨A1, 0, none⟩) na na)).setOther (a := ⟨w.heap.size + 1, 0, none⟩) (by simp) (.int .i64 gb.length)).setOther (a := ⟨w.heap.size + 1, 1, none⟩) (by simp) (.int .i64 (colsOf gb))).setOther (a := ⟨w.heap.size + 1, 2, none⟩) (by simp) (.slice (some ⟨A2, 0, none⟩) nb nb)
  have r2 := (((((HR1'.out.setOther (a := ⟨w.heap.size, 0, none⟩) (by simp) (.int .i64 ga.length)).setOther (a := ⟨w.heap.size, 1, none⟩) (by simp) (.int .i64 (colsOf ga))).setOther (a := ⟨w.heap.size, 2, none⟩) (by simp) (.slice (some ⟨A1, 0, none⟩) na na)).set 0 (.int .i64 gb.length)).set 1 (.int .i64 (colsOf gb))).set 2 (.slice (some ⟨A2, 0, none⟩) nb nb)
  refine bodyPost_ret (v := .tuple #[fv ga.length (colsOf ga) (.slice (some ⟨A1, 0, none⟩) na na), fv gb.length (colsOf gb) (.slice (some ⟨A2, 0, none⟩) nb nb), .bool true]) ?_ rfl ?_
  · rw [results_cct rfl]
    exact field_result2 r1.drew rfl rfl rfl r2.drew rfl rfl rfl _
  · have q1 := ((((((HRA.out.setOther (a := ⟨w.heap.size, 0, none⟩) (by show A1 ≠ w.heap.size; omega) (.int .i64 ga.length)).setOther (a := ⟨w.heap.size, 1, none⟩) (by show A1 ≠ w.heap.size; omega) (.int .i64 (colsOf ga))).setOther (a := ⟨w.heap.size, 2, none⟩) (by show A1 ≠ w.heap.size; omega) (.slice (some ⟨A1, 0, none⟩) na na)).setOther (a := ⟨w.heap.size + 1, 0, none⟩) (by show A1 ≠ w.heap.size + 1; omega) (.int .i64 gb.length)).setOther (a := ⟨w.heap.size + 1, 1, none⟩) (by show A1 ≠ w.heap.size + 1; omega) (.int .i64 (colsOf gb))).setOther (a := ⟨w.heap.size + 1, 2, none⟩) (by show A1 ≠ w.heap.size + 1; omega) (.slice (some ⟨A2, 0, none⟩) nb nb)).drew
    have q2 := ((((((HRB.out.setOther (a := ⟨w.heap.size, 0, none⟩) (by show A2 ≠ w.heap.size; omega) (.int .i64 ga.length)).setOther (a := ⟨w.heap.size, 1, none⟩) (by show A2 ≠ w.heap.size; omega) (.int .i64 (colsOf ga))).setOther (a := ⟨w.heap.size, 2, none⟩) (by show A2 ≠ w.heap.size; omega) (.slice (some ⟨A1, 0, none⟩) na na)).setOther (a := ⟨w.heap.size + 1, 0, none⟩) (by show A2 ≠ w.heap.size + 1; omega) (.int .i64 gb.length)).setOther (a := ⟨w.heap.size + 1, 1, none⟩) (by show A2 ≠ w.heap.size + 1; omega) (.int .i64 (colsOf gb))).setOther (a := ⟨w.heap.size + 1, 2, none⟩) (by show A2 ≠ w.heap.size + 1; omega) (.slice (some ⟨A2, 0, none⟩) nb nb)).drew
    exact ⟨A1, A2, rfl, by omega, by omega, q1, q2, (((((((HB3.out.setCell (by simp) _).setCell (by simp) _).setCell (by simp) _).setCell (by simp) _).setCell (by simp) _).setCell (by simp) _).drew)⟩

set_option maxHeartbeats 2000000 in
set_option maxRecDepth 100000 in
theorem alike_no (va vb : Value) (ga gb : Rows) (w : World) (ha : Grid w va ga) (hb : Grid w vb gb) (hs : ¬ Like ga gb) :
    Calls Try.prog 64 #[va, vb] w fun e w' => e = noPair ∧ Below w.heap.size w w' := by
  have HA := Lib.hid (show GridB w.heap.size w va ga from ha)
  have HB := Lib.hid (show GridB w.heap.size w vb gb from hb)
  have B0 := Lib.hid (((Below.refl w.heap.size w).alloc (Nat.le_refl _) (.cells #[.int .i64 0, .int .i64 0, .slice none 0 0] 64)).alloc (by simp) (.cells #[.int .i64 0, .int .i64 0, .slice none 0 0] 64))
  clear ha hb
  have C : Hid (∀ W, GridB w.heap.size W va ga → GridB w.heap.size W vb gb → w.heap.size ≤ W.heap.size → Calls Try.prog 88 #[va, vb] W fun e w' => ∃ (o : Bool) (r1 c1 r2 c2 : Int) (s1 s2 : Option Addr) (n1 n2 : Nat), e = .returned (.tuple #[fv r1 c1 (.slice s1 n1 n1), fv r2 c2 (.slice s2 n2 n2), .bool o]) ∧ (o = true → c1 ≠ c2) ∧ Below W.heap.size W w') := fun W h1 h2 hz => by
    by_cases hp : Same ga gb
    · exact (pairOf_yes va vb ga gb W (h1.grid hz) (h2.grid hz) hp).mono fun e w' ⟨a, b, he, _, _, _, _, hb⟩ => ⟨true, _, _, _, _, _, _, _, _, he, fun _ h => hs ⟨hp, by omega⟩, hb⟩
    · exact (pairOf_no va vb ga gb W (h1.grid hz) (h2.grid hz) hp).mono fun e w' ⟨he, hb⟩ => ⟨false, _, _, _, _, _, _, _, _, he, (fun h => by cases h), hb⟩
  clear hs
  go_enter Try.func64, Try.ntmps64
  go_wp2_with fail
  refine (C.out _ (HA.out.below B0.out (Nat.le_refl _)) (HB.out.below B0.out (Nat.le_refl _)) (by simp; omega)).mono ?_
  rintro e w1 ⟨o, ra, xa, rb, xb, sa, sb, na, nb, rfl, ho, hbel⟩
  have HO := Lib.hid ho
  obtain ⟨hr0, hr1, hrF2, hrG, B3, hz1⟩ := two_fields w w1 (.int .i64 ra) (.int .i64 xa) (.slice sa na na) (.int .i64 rb) (.int .i64 xb) (.slice sb nb nb) hbel
  have d1 : ((w1.alloc (.cells #[.int .i64 ra, .int .i64 xa, .slice sa na na] 64)).alloc (.cells #[.int .i64 rb, .int .i64 xb, .slice sb nb nb] 64)).cell? ⟨w1.heap.size, 1, none⟩ = some (.int .i64 xa) := hrF2.cell (i := 1) (by decide)
  have d2 : ((w1.alloc (.cells #[.int .i64 ra, .int .i64 xa, .slice sa na na] 64)).alloc (.cells #[.int .i64 rb, .int .i64 xb, .slice sb nb nb] 64)).cell? ⟨w1.heap.size + 1, 1, none⟩ = some (.int .i64 xb) := hrG.cell (i := 1) (by decide)
  obtain ⟨w3, hw3⟩ : ∃ w3, w3 = (w1.alloc (.cells #[.int .i64 ra, .int .i64 xa, .slice sa na na] 64)).alloc (.cells #[.int .i64 rb, .int .i64 xb, .slice sb nb nb] 64) := ⟨_, rfl⟩
  rw [← hw3] at hr0 hr1 B3
  have s0 : w3.cell? ⟨w.heap.size, 0, none⟩ = some (.int .i64 0) := hr0.cell (i := 0) (by decide)
  have s1 : w3.cell? ⟨w.heap.size, 1, none⟩ = some (.int .i64 0) := hr0.cell (i := 1) (by decide)
  have s2 : w3.cell? ⟨w.heap.size, 2, none⟩ = some (.slice none 0 0) := hr0.cell (i := 2) (by decide)
  have t0 : w3.cell? ⟨w.heap.size + 1, 0, none⟩ = some (.int .i64 0) := hr1.cell (i := 0) (by decide)
  have t1 : w3.cell? ⟨w.heap.size + 1, 1, none⟩ = some (.int .i64 0) := hr1.cell (i := 1) (by decide)
  have t2 : w3.cell? ⟨w.heap.size + 1, 2, none⟩ = some (.slice none 0 0) := hr1.cell (i := 2) (by decide)
  have u0 := hr0.frozen 0
  have u1 := hr0.frozen 1
  have u2 := hr0.frozen 2
  have v0 := hr1.frozen 0
  have v1 := hr1.frozen 1
  have v2 := hr1.frozen 2
  rw [hw3] at s0 s1 s2 t0 t1 t2 u0 u1 u2 v0 v1 v2
  have HW3 := Lib.hid hw3
  have HR0 := Lib.hid hr0
  have HR1 := Lib.hid hr1
  have B3' := Lib.hid B3
  clear hr0 hr1 hbel hw3 ho hrF2 hrG B3 C
  cases o
  · clear d1 d2
    go_wp2_with fail
    rw [← HW3.out]
    have r1 := (((((HR0.out.set 0 (.int .i64 0)).set 1 (.int .i64 0)).set 2 (.slice none 0 0)).setOther (a := ⟨w.heap.size + 1, 0, none⟩) (by simp) (.int .i64 0)).setOther (a := ⟨w.heap.size + 1, 1, none⟩) (by simp) (.int .i64 0)).setOther (a := ⟨w.heap.size + 1, 2, none⟩) (by simp) (.slice none 0 0)
    have r2 := (((((HR1.out.setOther (a := ⟨w.heap.size, 0, none⟩) (by simp) (.int .i64 0)).setOther (a := ⟨w.heap.size, 1, none⟩) (by simp) (.int .i64 0)).setOther (a := ⟨w.heap.size, 2, none⟩) (by simp) (.slice none 0 0)).set 0 (.int .i64 0)).set 1 (.int .i64 0)).set 2 (.slice none 0 0)
    refine bodyPost_ret (v := .tuple #[fv 0 0 (.slice none 0 0), fv 0 0 (.slice none 0 0), .bool false]) ?_ rfl ⟨rfl, (((((B3'.out.setCell (by simp) _).setCell (by simp) _).setCell (by simp) _).setCell (by simp) _).setCell (by simp) _).setCell (by simp) _⟩
    rw [results_cct rfl]
    exact field_result2 r1 rfl rfl rfl r2 rfl rfl rfl _
  · have hne : (xa != xb) = true := by have := HO.out rfl; simp [this]
    go_wp2_with fail
    rw [← HW3.out]
    have r1 := (((((HR0.out.set 0 (.int .i64 0)).set 1 (.int .i64 0)).set 2 (.slice none 0 0)).setOther (a := ⟨w.heap.size + 1, 0, none⟩) (by simp) (.int .i64 0)).setOther (a := ⟨w.heap.size + 1, 1, none⟩) (by simp) (.int .i64 0)).setOther (a := ⟨w.heap.size + 1, 2, none⟩) (by simp) (.slice none 0 0)
    have r2 := (((((HR1.out.setOther (a := ⟨w.heap.size, 0, none⟩) (by simp) (.int .i64 0)).setOther (a := ⟨w.heap.size, 1, none⟩) (by simp) (.int .i64 0)).setOther (a := ⟨w.heap.size, 2, none⟩) (by simp) (.slice none 0 0)).set 0 (.int .i64 0)).set 1 (.int .i64 0)).set 2 (.slice none 0 0)
    refine bodyPost_ret (v := .tuple #[fv 0 0 (.slice none 0 0), fv 0 0 (.slice none 0 0), .bool false]) ?_ rfl ⟨rfl, (((((B3'.out.setCell (by simp) _).setCell (by simp) _).setCell (by simp) _).setCell (by simp) _).setCell (by simp) _).setCell (by simp) _⟩
    rw [results_cct rfl]
    exact field_result2 r1 rfl rfl rfl r2 rfl rfl rfl _
end Go.Proofs.Ytdelcebkpdnnjaa
