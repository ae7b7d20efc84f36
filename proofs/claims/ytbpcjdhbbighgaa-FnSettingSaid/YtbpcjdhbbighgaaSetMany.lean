/-
  Contracts of the program's SettingMany and SettingMost. No condition but that the slice reads as the list.
-/
import Derived.Test.YtbpcjdhbbighgaaEachMany
import Derived.Test.YtbpcjdhbbighgaaEachMost
import Derived.Test.YtbpcjdhbbighgaaRec
namespace Go.Proofs.Ytbpcjdhbbighgaa
open Go.RowKit Go.Deep Go.Sort
set_option linter.unusedVariables false

/-- a counter as the machine counts -/
def cntW : Nat → Int
  | 0 => 0
  | n + 1 => wrap64 (cntW n + 1)
theorem cntW_small : ∀ n : Nat, n ≤ 1000000 → cntW n = (n : Int) := by
  intro n
  induction n with
  | zero => intro _; rfl
  | succ n ih =>
    intro hn
    rw [cntW, ih (by omega)]
    unfold wrap64; omega
/-- one cell of an int in a block of its own -/
def Cell1 (P : Nat) (W : World) (x : Int) : Prop := W.rowIs P 3 1 fun _ => .int .i64 x

theorem Cell1.below {P B : Nat} {W W' : World} {x : Int} (h : Cell1 P W x) (hb : Below B W W') (hB : P < B) : Cell1 P W' x := World.rowIs.of_block h (hb.block P hB)
theorem cell1_new (w : World) (x : Int) : Cell1 w.heap.size (w.alloc (.cells #[.int .i64 x] 3)) x :=
  ⟨_, heap_alloc_new w _, rfl, fun i hi => by have : i = 0 := by omega
                                              subst this; rfl⟩
theorem pointed_L (v : Value) (l : List Quad) (w : World) (h : Quads w v l) (hg : GoodUpTo l l.length) :
    Calls Try.prog 63 #[v] w fun e w' => ∃ L, e = .returned (.agg L.toArray) ∧ Hid (L = bdL (mPts l)) ∧ Below w.heap.size w w' :=
  (pointed_M v l w h hg).mono fun e w' ⟨he, hb⟩ => ⟨_, he, rfl, hb⟩
theorem many_small {l : List Quad} (h : ValidL l) : manyAll l ≤ 15625 :=
  Nat.le_trans (many_bounds l l.length 0 (mPts l)).2 (pow_small h.1)

set_option maxHeartbeats 1000000 in
theorem most1_any (P1 P2 : Nat) (x : Int) (sv : Value) (l : List Quad) (s : List Int) (la : Option Addr) (lc : Nat) (W : World) (h : Cell1 P2 W x) (hl : W.cell? ⟨P1, 0, none⟩ = some (.slice la l.length lc)) (hq : Quads W (.slice la l.length lc) l) (hs : Ints W sv s) (hv : ValidL l) (hsl : s.length = l.length) :
    Calls Try.prog 75 #[sv, .pointer (some ⟨P1, 0, none⟩), .pointer (some ⟨P2, 0, none⟩)] W fun e W' => e = .returned (.tuple #[]) ∧ Cell1 P2 W' (max x (cntS l s l.length)) ∧ Touch P2 (P2 + 1) W W' := by
  have c0 := World.rowIs.cell h (i := 0) (by omega)
  have fr := World.rowIs.frozen h 0
  have H := Lib.hid h
  have CW := Lib.hid (weightOf_any _ sv l s W hq hs hv hsl)
  clear h hq hs hv hsl
  go_enter Try.func75, Try.ntmps75
  go_wp2_with fail
  refine CW.out.mono ?_
  rintro e w1 ⟨rfl, rfl⟩
  clear CW
  obtain ⟨c, hc⟩ : ∃ c, c = cntS l s l.length := ⟨_, rfl⟩
  rw [← hc]
  have HCE := Lib.hid hc
  clear hc
  by_cases hx : x < c
  all_goals
    go_wp2_with fail
    go_end0
    exact ⟨rfl, (H.out.set 0 _).congr (fun i hi => by rw [if_pos (by omega)]; exact congrArg _ (by have := HCE.out; omega)), Touch.setCell (p := ⟨P2, 0, none⟩) (Touch.refl P2 (P2 + 1) W) (Nat.le_refl _) (Nat.lt_succ_self _) _⟩

theorem eachMost_run (P1 P : Nat) (l : List Quad) (la : Option Addr) (lc B : Nat) (L : List Value) (w3 : World) (hv : ValidL l) (hL : L = bdL (mPts l)) (h12 : P1 < P) (hB : B ≤ P) (hq : QuadsB B w3 (.slice la l.length lc) l) (hs : P + 1 ≤ w3.heap.size)
    (hc : Cell1 P w3 0) (hl : w3.cell? ⟨P1, 0, none⟩ = some (.slice la l.length lc)) :
    Calls Try.prog 73 #[.slice la l.length lc, .agg L.toArray, .slice none 0 0, .func (.func 75) #[] #[.pointer (some ⟨P1, 0, none⟩), .pointer (some ⟨P, 0, none⟩)]] w3 fun e w4 =>
      e = .returned (.tuple #[]) ∧ Cell1 P w4 (bstAll (wtB false) l) ∧ w4.cell? ⟨P1, 0, none⟩ = some (.slice la l.length lc) ∧ Below P w3 w4 := by
  have E := eachMost_any P1 P l la lc P (P + 1) (fun done W => Cell1 P W (done.foldl (fun b s => max b (cntS l s l.length)) 0) ∧ W.cell? ⟨P1, 0, none⟩ = some (.slice la l.length lc)) hv (by omega)
    (fun done s sv W hJ ho hl hh hq => (most1_any P1 P _ sv l s la lc W hJ.1 hJ.2 (hq.quads (by omega)) (own_of_ownsRow ho (Nat.le_refl _)).ints hv hl).mono fun e W' ⟨he, hc, ht⟩ =>
      ⟨he, ⟨by rw [List.foldl_append]; exact hc, ((ht.below (Nat.le_refl P) (by omega)).cell (p := ⟨P1, 0, none⟩) h12).trans hJ.2⟩, ht⟩)
    (fun done W W' hJ hb => ⟨Cell1.below hJ.1 hb (by omega), (hb.cell (p := ⟨P1, 0, none⟩) (by show P1 < P + 1; omega)).trans hJ.2⟩)
    l.length 0 (mPts l) [] (.slice none 0 0) L w3 [] (by omega) rfl hL (hq.mono hB) hs (World.ownsRow_nil _ _ _ _) ⟨hc, hl⟩
  refine E.mono fun e w4 ⟨he, hJ, hf, _⟩ => ⟨he, ?_, hJ.2, hf.low (fun g hg => by cases hg) (by omega)⟩
  have h1 := hJ.1
  have h2 := most_each (wtB false) l l.length l.length 0 (mPts l) [] 0 rfl (Nat.zero_add _)
  have e1 : (fun (b : Int) (s : List Int) => max b (cntS l s l.length)) = fun b s => max b (weightUp (wtB false) l s l.length) := rfl
  rw [e1, List.nil_append, h2] at h1
  have hb := (bst_bound false hv l.length 0 (mPts l) (by omega)).1
  have e2 : max 0 (weightUp (wtB false) l [] 0 + bst (wtB false) l l.length 0 (mPts l)) = bstAll (wtB false) l := by
    simp only [weightUp, bstAll]; omega
  rwa [e2] at h1

set_option maxHeartbeats 2000000 in
set_option maxRecDepth 100000 in
theorem SettingMost_any (v : Value) (l : List Quad) (w : World) (h : Quads w v l) :
    Calls Try.prog 44 #[v] w fun e w' => e = .returned (.int .i64 (mostOut l)) ∧ Below w.heap.size w w' := by
  obtain ⟨a, cap, rfl, h1, h2, h3⟩ := id h
  have H := Lib.hid h.quadsB
  clear h h3
  by_cases hs : ValidL l
  · have HS := Lib.hid hs
    have HW : Hid (mostOut l = bstAll (wtB false) l) := if_pos hs
    clear hs
    go_enter Try.func44, Try.ntmps44
    go_wp2_with fail
    refine (LabelsValid_any _ l _ ((H.out.below ((Below.refl w.heap.size w).alloc (Nat.le_refl _) _) (Nat.le_refl _)).quads (by simp))).mono ?_
    rintro e w1 ⟨rfl, hb⟩
    have hs1 := hb.size
    simp at hs1
    have HB := Lib.hid ((al (Below.refl w.heap.size w) _).trans (hb.mono (by simp)))
    have LB : w1.cell? ⟨w.heap.size, 0, none⟩ = some (.slice a l.length cap) := (hb.cell (p := ⟨w.heap.size, 0, none⟩) (by simp)).trans (by unfold World.cell?; simp only [heap_alloc_new w _]; rfl)
    have HLB := Lib.hid LB
    clear hb
    rw [decide_eq_true HS.out]
    go_wp2_with fail
    have hs1' := HB.out.size
    obtain ⟨P, hP⟩ : ∃ P, P = w1.heap.size := ⟨_, rfl⟩
    obtain ⟨W2, hW2⟩ : ∃ W, W = w1.alloc (.cells #[.int .i64 0] 3) := ⟨_, rfl⟩
    have s2 : W2.heap.size = P + 1 := by rw [hW2, hP]; simp
    have S2 := Lib.hid s2
    have s2' : P + 1 ≤ W2.heap.size := by omega
    have hP1 : w.heap.size + 1 ≤ P := by omega
    have C2 : Hid (Cell1 P W2 0) := by show Cell1 _ _ _; rw [hP, hW2]; exact cell1_new w1 0
    have B2 : Hid (Below w.heap.size w W2) := by show Below _ _ _; rw [hW2]; exact HB.out.alloc hs1' _
    have d0 : W2.drew.cell? ⟨w.heap.size, 0, none⟩ = some (.slice a l.length cap) := by show W2.cell? _ = _; rw [hW2]; exact cell_alloc HLB.out _
    obtain ⟨P1, hP1e⟩ : ∃ P1, P1 = w.heap.size := ⟨_, rfl⟩
    have HP1E := Lib.hid hP1e
    rw [← hW2, ← hP, ← hP1e]
    rw [← hP1e] at d0
    have hP12 : P1 + 1 ≤ P := by omega
    have HP12 : Hid (P1 < P) := by show P1 < P; omega
    have HPW : Hid (w.heap.size ≤ P) := by show _ ≤ P; omega
    have HN3 : Hid (∀ w3, Below W2.drew.heap.size W2.drew w3 → Below w.heap.size w w3 ∧ P + 1 ≤ w3.heap.size ∧ Cell1 P w3 0) := fun w3 hb => ⟨B2.out.drew.trans (hb.mono (by show w.heap.size ≤ W2.heap.size; omega)), Nat.le_trans s2' hb.size, Cell1.below (W := W2.drew) C2.out hb (by show P < W2.heap.size; omega)⟩
    clear s2 hW2 hP1e hP
    go_region_held3 (fun w' => w'.cell? ⟨P1, 0, none⟩ = some (.slice a l.length cap))
      (first | with_reducible exact d0 | with_reducible exact d1 | with_reducible exact d2 | fail)
      (first | (go_at_call 63; (refine (pointed_L _ l W2.drew ((H.out.below B2.out.drew (Nat.le_refl _)).quads (by show w.heap.size ≤ W2.heap.size; omega)) HS.out.2).mono ?_); rintro e w3 ⟨L, rfl, HL, hb3⟩; have HB3 : Hid (Below w.heap.size w w3 ∧ P + 1 ≤ w3.heap.size ∧ Cell1 P w3 0) := HN3.out w3 hb3; have d1 := (hb3.cell (p := ⟨P1, 0, none⟩) (by show P1 < W2.heap.size; omega)).trans d0; clear hb3) | (go_at_call 73; (refine (eachMost_run P1 P l a cap w.heap.size L w3 HS.out HL.out HP12.out HPW.out (H.out.below HB3.out.1 (Nat.le_refl _)) HB3.out.2.1 HB3.out.2.2 d1).mono ?_); rintro e w4 ⟨rfl, hc4, d2, hb4⟩; have HC4 := Lib.hid hc4; have HB4 := Lib.hid hb4; clear hc4 hb4) | fail)
    all_goals
      rename_i hh
      clear hh
      obtain ⟨X, hX⟩ : ∃ X, X = bstAll (wtB false) l := ⟨_, rfl⟩
      rw [← hX] at HC4 HW
      have c4 : w4.cell? ⟨P, 0, none⟩ = some (.int .i64 X) := World.rowIs.cell HC4.out (i := 0) (by omega)
      have B4 := Lib.hid (HB3.out.1.trans (HB4.out.mono (by omega)))
      clear hX d0 d1 d2
      go_wp2_with fail
      go_ret
      exact ⟨ret_int HW.out.symm, B4.out⟩
  · have HS := Lib.hid hs
    have HW : Hid (mostOut l = -1) := if_neg hs
    clear hs
    go_enter Try.func44, Try.ntmps44
    go_wp2_with fail
    refine (LabelsValid_any _ l _ ((H.out.below ((Below.refl w.heap.size w).alloc (Nat.le_refl _) _) (Nat.le_refl _)).quads (by simp))).mono ?_
    rintro e w1 ⟨rfl, hb⟩
    have HB := Lib.hid ((al (Below.refl w.heap.size w) _).trans (hb.mono (by simp)))
    clear hb
    rw [decide_eq_false HS.out]
    go_wp2_with fail
    go_ret
    exact ⟨ret_int HW.out.symm, HB.out⟩
end Go.Proofs.Ytbpcjdhbbighgaa
