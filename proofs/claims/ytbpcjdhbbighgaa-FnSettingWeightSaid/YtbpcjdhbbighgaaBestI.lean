/-
  Contract of the program's SettingBest. No condition but that the slice reads as the list.
-/
import Derived.Test.YtbpcjdhbbighgaaEachBest
import Derived.Test.YtbpcjdhbbighgaaSetMany
import Derived.Test.YtbpcjdhbbighgaaBestK
import Derived.Laws.CopyOwn
namespace Go.Proofs.Ytbpcjdhbbighgaa
open Go.RowKit Go.Deep Go.Sort
set_option linter.unusedVariables false

theorem Touch.setRow {lo hi : Nat} {a w : World} (h : Touch lo hi a w) {g : Nat} (h1 : lo ≤ g) (h2 : g < hi) (cs : Array Value) : Touch lo hi a (w.setRow g cs) :=
  h.trans ⟨rfl, rfl, rfl, by simp [World.setRow], fun k _ hn => setRow_other w g k cs (by omega)⟩
/-- the state of the search for the best setting: the list's box, the greatest weight, the best one's slice and row -/
structure BestSt (P1 P2 P3 PB : Nat) (la : Option Addr) (L lc : Nat) (g : Int) (bs : List Int) (W : World) : Prop where
  box : W.cell? ⟨P1, 0, none⟩ = some (.slice la L lc)
  top : Cell1 P2 W g
  best : W.cell? ⟨P3, 0, none⟩ = some (.slice (some ⟨PB, 0, none⟩) L L)
  row : W.heap[PB]? = some (.cells (bs.map (Value.int .i64)).toArray 3 (0, 0))
  len : bs.length = L

set_option maxHeartbeats 2000000 in
set_option maxRecDepth 100000 in
theorem best1_any (P1 P2 P3 PB : Nat) (g : Int) (bs : List Int) (sv : Value) (l : List Quad) (s : List Int) (la : Option Addr) (lc hi : Nat) (W : World) (h : BestSt P1 P2 P3 PB la l.length lc g bs W) (e1 : P1 < PB) (e2 : P2 = PB + 2) (e3 : P3 = PB + 1) (hhi : PB + 3 ≤ hi)
    (hq : Quads W (.slice la l.length lc) l) (hown : W.ownsRow hi 3 1 sv s.length (s.map (Value.int .i64))) (hv : ValidL l) (hsl : s.length = l.length) :
    Calls Try.prog 74 #[sv, .pointer (some ⟨P1, 0, none⟩), .pointer (some ⟨P2, 0, none⟩), .pointer (some ⟨P3, 0, none⟩)] W fun e W' => e = .returned (.tuple #[]) ∧
      BestSt P1 P2 P3 PB la l.length lc (fmStep (fun s => sumW l s l.length) (g, bs) s).1 (fmStep (fun s => sumW l s l.length) (g, bs) s).2 W' ∧ Touch PB (PB + 3) W W' := by
  have H := Lib.hid h
  have c1 := h.box
  have c2 : W.cell? ⟨P2, 0, none⟩ = some (.int .i64 g) := World.rowIs.cell h.top (i := 0) (by omega)
  have f2 : W.frozen? ⟨P2, 0, none⟩ = false := World.rowIs.frozen h.top 0
  have c3 := h.best
  have CW := Lib.hid (weightOf_any _ sv l s W hq (own_of_ownsRow hown (Nat.le_refl _)).ints hv hsl)
  have HO := Lib.hid hown
  obtain ⟨sa, sc, rfl⟩ := ownsRow_slice hown
  have n32 : P3 ≠ P2 := by omega
  have nB2 : PB ≠ P2 := by omega
  have hsn := Lib.hid hsl
  have E1 := Lib.hid e1
  have E2 := Lib.hid e2
  have E3 := Lib.hid e3
  obtain ⟨x, hx⟩ : ∃ x, x = sumW l s l.length := ⟨_, rfl⟩
  have HX := Lib.hid hx
  rw [← hx] at CW
  clear h hq hown hv hsl e1 e2 e3 hx
  by_cases hgt : g < x
  · have FM : Hid (fmStep (fun s => sumW l s l.length) (g, bs) s = (x, s)) := by show (if sumW l s l.length > g then (sumW l s l.length, s) else (g, bs)) = _; rw [← HX.out, if_pos hgt]
    have c3' : (W.setCell ⟨P2, 0, none⟩ (.int .i64 x)).cell? ⟨P3, 0, none⟩ = some (.slice (some ⟨PB, 0, none⟩) l.length l.length) := by
      rw [World.cell?_setCell_other _ _ _ _ (by intro h; have := congrArg Addr.block h; simp at this; omega)]; exact c3
    have row' : Hid ((W.setCell ⟨P2, 0, none⟩ (.int .i64 x)).heap[PB]? = some (.cells (bs.map (Value.int .i64)).toArray 3 (0, 0))) := by
      show _ = _; rw [Below.heap_setCell _ _ _ _ (by simp; omega)]; exact H.out.row
    have FIN : Hid (∀ W', W' = (W.setCell ⟨P2, 0, none⟩ (.int .i64 x)).setRow PB (s.map (Value.int .i64)).toArray → BestSt P1 P2 P3 PB la l.length lc x s W' ∧ Touch PB (PB + 3) W W') := by
      show ∀ W', _
      rintro W' rfl
      have t1 : Touch PB (PB + 3) W ((W.setCell ⟨P2, 0, none⟩ (.int .i64 x)).setRow PB (s.map (Value.int .i64)).toArray) :=
        Touch.setRow (Touch.setCell (p := ⟨P2, 0, none⟩) (Touch.refl PB (PB + 3) W) (by show PB ≤ P2; have := E2.out; omega) (by show P2 < _; have := E2.out; omega) _) (Nat.le_refl _) (by omega) _
      refine ⟨⟨?_, ?_, ?_, ?_, ?_⟩, t1⟩
      · exact (World.cell?_of_block (a := ⟨P1, 0, none⟩) (t1.block P1 (World.block_lt_of_cell? W _ H.out.box) (by have := E1.out; omega))).trans H.out.box
      · exact World.rowIs.of_block ((World.rowIs.set H.out.top 0 (.int .i64 x)).congr (fun i hi => by rw [if_pos (by omega)])) (setRow_other _ _ _ _ (by omega))
      · exact (World.cell?_of_block (a := ⟨P3, 0, none⟩) (setRow_other _ _ _ _ (by have := E3.out; show P3 ≠ PB; omega))).trans c3'
      · exact setRow_heap _ _ _ _ _ _ row'.out
      · exact hsn.out
    by_cases h0 : s.length = 0
    · obtain rfl : s = [] := List.eq_nil_of_length_eq_zero h0
      have hl0 : l.length = 0 := by have := hsn.out; simpa using this.symm
      have bs0 : bs = [] := List.eq_nil_of_length_eq_zero (by rw [H.out.len, hl0])
      have F0 : Hid (BestSt P1 P2 P3 PB la l.length lc x [] (W.setCell ⟨P2, 0, none⟩ (.int .i64 x)) ∧ Touch PB (PB + 3) W (W.setCell ⟨P2, 0, none⟩ (.int .i64 x))) := by
        refine FIN.out _ ?_
        have := row'.out
        rw [bs0] at this
        exact (setRow_self _ _ _ _ _ this).symm
      have hmn : Nat.min ([] : List Int).length l.length = 0 := by simp
      have HMN := Lib.hid hmn
      clear hl0 bs0 h0 hmn FIN row'
      go_enter Try.func74, Try.ntmps74
      go_wp2_with fail
      refine CW.out.mono ?_
      rintro e w1 ⟨rfl, rfl⟩
      clear CW
      go_wp2_with (refine wpList_copy_nothing rfl _ _ 27 27 rfl 3 Try.underlying27 (by kernel_rfl) _ _ _ _ _ _ rfl rfl HMN.out ?_)
      go_end0
      rw [FM.out]
      exact ⟨rfl, F0.out.1, F0.out.2⟩
    · have hs0 : 0 < s.length := by omega
      rcases HO.out.2 with ⟨hn, _⟩ | ⟨sg, scap, scur, hsv, _, _, _, _, _, _⟩
      · simp at hn; omega
      · simp only [Value.slice.injEq] at hsv
        obtain ⟨rfl, _, rfl⟩ := hsv
        have scell := HO.out.cells (g := sg) rfl
        have hsg := (HO.out.lt sg rfl).1
        have SC : Hid (∀ j v, (s.map (Value.int .i64))[j]? = some v → (W.setCell ⟨P2, 0, none⟩ (.int .i64 x)).cell? ((⟨sg, 0, none⟩ : Addr).add j) = some v) := by
          show ∀ j v, _
          intro j v hj
          have := scell j v hj
          rw [World.cell?_setCell_other _ _ _ _ ?_]
          · exact this
          · have e : ((⟨sg, 0, none⟩ : Addr).add j) = ⟨sg, 0 + j, none⟩ := Addr.add_mid sg 0 j
            rw [e]; have := E2.out; intro h; have h2 := congrArg Addr.block h; simp at h2; omega
        have L1 : Hid ((s.map (Value.int .i64)).length = Nat.min s.length l.length) := by show _ = _; rw [List.length_map, hsn.out]; simp
        have L2 : Hid (0 + (s.map (Value.int .i64)).length ≤ (bs.map (Value.int .i64)).toArray.size) := by show _ ≤ _; simp [H.out.len, hsn.out]
        have L3 : Hid (∀ v ∈ s.map (Value.int .i64), v.oneCell' = true) := by
          show ∀ v ∈ _, _
          intro v hv; obtain ⟨z, _, rfl⟩ := List.mem_map.1 hv; rfl
        have L4 : Hid ((((bs.map (Value.int .i64)).toArray.toList.take 0) ++ (s.map (Value.int .i64) ++ (bs.map (Value.int .i64)).toArray.toList.drop (0 + (s.map (Value.int .i64)).length))).toArray = (s.map (Value.int .i64)).toArray) := by
          show _ = _
          have : (bs.map (Value.int .i64)).toArray.toList.drop (0 + (s.map (Value.int .i64)).length) = [] := List.drop_eq_nil_of_le (by simp [H.out.len, hsn.out])
          rw [this]; simp
        clear scell h0 hs0
        go_enter Try.func74, Try.ntmps74
        go_wp2_with fail
        refine CW.out.mono ?_
        rintro e w1 ⟨rfl, rfl⟩
        clear CW
        go_wp2_with (refine wpList_copy_own rfl _ _ 27 27 rfl 3 Try.underlying27 (by kernel_rfl) PB 0 _ _ ⟨sg, 0, none⟩ _ _ rfl rfl _ _ row'.out (s.map (Value.int .i64)) L1.out SC.out L2.out L3.out ?_)
        go_end0
        rw [FM.out]
        refine ⟨rfl, FIN.out _ (congrArg _ ?_)⟩
        have e4 := L4.out
        simp only [List.take_zero, List.nil_append, Nat.zero_add, List.length_map] at e4 ⊢
        exact e4
  · have FM : Hid (fmStep (fun s => sumW l s l.length) (g, bs) s = (g, bs)) := by show (if sumW l s l.length > g then (sumW l s l.length, s) else (g, bs)) = _; rw [← HX.out, if_neg hgt]
    go_enter Try.func74, Try.ntmps74
    go_wp2_with fail
    refine CW.out.mono ?_
    rintro e w1 ⟨rfl, rfl⟩
    clear CW
    go_wp2_with fail
    go_end0
    rw [FM.out]
    exact ⟨rfl, H.out, Touch.refl _ _ _⟩

theorem BestSt.below {P1 P2 P3 PB : Nat} {la : Option Addr} {L lc B : Nat} {g : Int} {bs : List Int} {W W' : World} (h : BestSt P1 P2 P3 PB la L lc g bs W) (hb : Below B W W') (e1 : P1 < B) (e2 : P2 < B) (e3 : P3 < B) (e4 : PB < B) : BestSt P1 P2 P3 PB la L lc g bs W' :=
  ⟨(hb.cell (p := ⟨P1, 0, none⟩) e1).trans h.box, h.top.below hb e2, (hb.cell (p := ⟨P3, 0, none⟩) e3).trans h.best, (hb.block PB e4).trans h.row, h.len⟩
theorem eachBest_run (P1 P2 P3 PB : Nat) (l : List Quad) (la : Option Addr) (lc B : Nat) (L : List Value) (w3 : World) (bs0 : List Int) (hv : ValidL l) (hL : L = bdL (mPts l)) (e1 : P1 < PB) (e2 : P2 = PB + 2) (e3 : P3 = PB + 1) (hB : B ≤ PB) (hq : QuadsB B w3 (.slice la l.length lc) l) (hs : PB + 3 ≤ w3.heap.size)
    (hst : BestSt P1 P2 P3 PB la l.length lc (-1) bs0 w3) :
    Calls Try.prog 73 #[.slice la l.length lc, .agg L.toArray, .slice none 0 0, .func (.func 74) #[] #[.pointer (some ⟨P1, 0, none⟩), .pointer (some ⟨P2, 0, none⟩), .pointer (some ⟨P3, 0, none⟩)]] w3 fun e w4 =>
      e = .returned (.tuple #[]) ∧ BestSt P1 P2 P3 PB la l.length lc (bstAll (wtB true) l) (bestAll (wtB true) l) w4 ∧ Below PB w3 w4 := by
  have E := eachBest_any P1 P2 P3 l la lc PB (PB + 3) (fun done W => BestSt P1 P2 P3 PB la l.length lc (done.foldl (fmStep fun s => sumW l s l.length) (-1, bs0)).1 (done.foldl (fmStep fun s => sumW l s l.length) (-1, bs0)).2 W) hv (by omega)
    (fun done s sv W hJ ho hl hh hq => (best1_any P1 P2 P3 PB _ _ sv l s la lc (PB + 3) W hJ e1 e2 e3 (Nat.le_refl _) (hq.quads (by omega)) ho hv hl).mono fun e W' ⟨he, hc, ht⟩ =>
      ⟨he, by rw [List.foldl_append]; exact hc, ht⟩)
    (fun done W W' hJ hb => hJ.below hb (by omega) (by omega) (by omega) (by omega))
    l.length 0 (mPts l) [] (.slice none 0 0) L w3 [] (by omega) rfl hL (hq.mono hB) hs (World.ownsRow_nil _ _ _ _) hst
  refine E.mono fun e w4 ⟨he, hJ, hf, _⟩ => ⟨he, ?_, hf.low (fun g hg => by cases hg) (by omega)⟩
  have h2 := fm_each (wtB true) l l.length l.length 0 (mPts l) [] (-1) bs0 rfl (Nat.zero_add _)
  have hb := (bst_bound true hv l.length 0 (mPts l) (by omega)).1
  rw [if_pos (by simp only [weightUp]; omega)] at h2
  have e5 : (fun s => sumW l s l.length) = fun s => weightUp (wtB true) l s l.length := rfl
  have e6 : weightUp (wtB true) l [] 0 + bst (wtB true) l l.length 0 (mPts l) = bstAll (wtB true) l := by simp only [weightUp, bstAll]; omega
  rw [e6, List.nil_append] at h2
  have h3 : ([] ++ each l l.length 0 (mPts l) []).foldl (fmStep fun s => sumW l s l.length) (-1, bs0) = (bstAll (wtB true) l, bestAll (wtB true) l) := by
    rw [List.nil_append, e5]; exact h2
  have hJ' : BestSt P1 P2 P3 PB la l.length lc _ _ w4 := hJ
  rw [h3] at hJ'
  exact hJ'

theorem best_st0 (w1 : World) (P1 : Nat) (la : Option Addr) (L lc : Nat) (h : w1.cell? ⟨P1, 0, none⟩ = some (.slice la L lc)) : BestSt P1 (w1.heap.size + 1 + 1) (w1.heap.size + 1) w1.heap.size la L lc (-1) (List.replicate L 0) (((w1.alloc (.cells (madeCells #[.int .i64 0] L) 3)).alloc (.cells #[.slice (some ⟨w1.heap.size, 0, none⟩) L L] 27)).alloc (.cells #[.int .i64 (-1)] 3)) := by
  have hb1 : Below w1.heap.size w1 (w1.alloc (.cells (madeCells #[.int .i64 0] L) 3)) := (Below.refl _ _).alloc (Nat.le_refl _) _
  refine ⟨cell_alloc (cell_alloc (cell_alloc h _) _) _, ?_, ?_, ?_, by simp⟩
  · have := cell1_new ((w1.alloc (.cells (madeCells #[.int .i64 0] L) 3)).alloc (.cells #[.slice (some ⟨w1.heap.size, 0, none⟩) L L] 27)) (-1)
    simpa using this
  · refine cell_alloc ?_ _
    have := heap_alloc_new (w1.alloc (.cells (madeCells #[.int .i64 0] L) 3)) (.cells #[.slice (some ⟨w1.heap.size, 0, none⟩) L L] 27)
    have es : (w1.alloc (.cells (madeCells #[.int .i64 0] L) 3)).heap.size = w1.heap.size + 1 := by simp
    rw [es] at this
    rw [cell_of_row _ (w1.heap.size + 1) 0 #[.slice (some ⟨w1.heap.size, 0, none⟩) L L] 27 (0, 0) this]; rfl
  · have e : madeCells #[.int .i64 0] L = ((List.replicate L (0 : Int)).map (Value.int .i64)).toArray := by
      have := toList_madeCells_one (.int .i64 0) L
      rw [List.map_replicate, ← this]
    rw [← e]
    have h1 := heap_alloc_new w1 (.cells (madeCells #[.int .i64 0] L) 3)
    have h2 := Below.heap_alloc (w1.alloc (.cells (madeCells #[.int .i64 0] L) 3)) (.cells #[.slice (some ⟨w1.heap.size, 0, none⟩) L L] 27) w1.heap.size (by simp)
    have h3 := Below.heap_alloc ((w1.alloc (.cells (madeCells #[.int .i64 0] L) 3)).alloc (.cells #[.slice (some ⟨w1.heap.size, 0, none⟩) L L] 27)) (.cells #[.int .i64 (-1)] 3) w1.heap.size (by simp; omega)
    exact h3.trans (h2.trans h1)

set_option maxHeartbeats 4000000 in
set_option maxRecDepth 100000 in
theorem SettingBest_any (v : Value) (l : List Quad) (w : World) (h : Quads w v l) :
    Calls Try.prog 39 #[v] w fun e w' => ∃ v', e = .returned (.tuple #[v', .bool (decide (ValidL l))]) ∧ Own w.heap.size w'.heap.size w' v' (bestOut l) ∧ Below w.heap.size w w' := by
  obtain ⟨a, cap, rfl, h1, h2, h3⟩ := id h
  have H := Lib.hid h.quadsB
  clear h h3
  by_cases hs : ValidL l
  · have HS := Lib.hid hs
    have hl6 := hs.1
    have HW : Hid (bestOut l = bestAll (wtB true) l) := if_pos hs
    have hmk := run_make_row' (P := Try.prog) 27 3 (.int .i64 0) 8 Try.underlying27 info_int rfl .i64 .i64 l.length (by omega) (by omega)
    clear hs
    go_enter Try.func39, Try.ntmps39
    go_wp2_with fail
    refine (LabelsValid_any _ l _ ((H.out.below ((Below.refl w.heap.size w).alloc (Nat.le_refl _) _) (Nat.le_refl _)).quads (by simp))).mono ?_
    rintro e w1 ⟨rfl, hb⟩
    have hs1 := hb.size
    simp at hs1
    have HB := Lib.hid ((al (Below.refl w.heap.size w) _).trans (hb.mono (by simp)))
    have LB : w1.cell? ⟨w.heap.size, 0, none⟩ = some (.slice a l.length cap) := (hb.cell (p := ⟨w.heap.size, 0, none⟩) (by simp)).trans (by unfold World.cell?; simp only [heap_alloc_new w _]; rfl)
    have HLB := Lib.hid LB
    clear hb
    rw [decide_eq_true HS.out]
    go_wp2_with fail
    have hs1' := HB.out.size
    obtain ⟨W2, hW2⟩ : ∃ W, W = (((w1.alloc (.cells (madeCells #[.int .i64 0] l.length) 3)).alloc (.cells #[.slice (some ⟨w1.heap.size, 0, none⟩) l.length l.length] 27)).alloc (.cells #[.int .i64 (-1)] 3)) := ⟨_, rfl⟩
    have s2 : W2.heap.size = w1.heap.size + 3 := by rw [hW2]; simp
    have ST : Hid (BestSt w.heap.size (w1.heap.size + 1 + 1) (w1.heap.size + 1) w1.heap.size a l.length cap (-1) (List.replicate l.length 0) W2) := by show BestSt _ _ _ _ _ _ _ _ _ _; rw [hW2]; exact best_st0 w1 w.heap.size a l.length cap HLB.out
    have B2 : Hid (Below w.heap.size w W2) := by show Below _ _ _; rw [hW2]; exact ((HB.out.alloc hs1' _).alloc (by simp; omega) _).alloc (by simp; omega) _
    have d0 : W2.drew.cell? ⟨w.heap.size, 0, none⟩ = some (.slice a l.length cap) := ST.out.box
    rw [← hW2]
    obtain ⟨PB, hPB⟩ : ∃ P, P = w1.heap.size := ⟨_, rfl⟩
    obtain ⟨P3, hP3⟩ : ∃ P, P = w1.heap.size + 1 := ⟨_, rfl⟩
    obtain ⟨P2, hP2⟩ : ∃ P, P = w1.heap.size + 1 + 1 := ⟨_, rfl⟩
    obtain ⟨P1, hP1⟩ : ∃ P, P = w.heap.size := ⟨_, rfl⟩
    rw [← hP2, ← hP3, ← hPB, ← hP1] at ST
    rw [← hP2, ← hP3, ← hPB, ← hP1]
    rw [← hP1] at d0
    have HP1 : Hid (P1 < PB) := by show P1 < PB; omega
    have HP2 : Hid (P2 = PB + 2) := by show P2 = PB + 2; omega
    have HP3 : Hid (P3 = PB + 1) := by show P3 = PB + 1; omega
    have HPW : Hid (w.heap.size ≤ PB) := by show _ ≤ PB; omega
    have s2' : PB + 3 ≤ W2.heap.size := by omega
    have hPW2 : P1 < W2.heap.size := by omega
    have HN3 : Hid (∀ w3, Below W2.drew.heap.size W2.drew w3 → Below w.heap.size w w3 ∧ PB + 3 ≤ w3.heap.size ∧ BestSt P1 P2 P3 PB a l.length cap (-1) (List.replicate l.length 0) w3) := fun w3 hb =>
      ⟨B2.out.drew.trans (hb.mono (by show w.heap.size ≤ W2.heap.size; omega)), Nat.le_trans s2' hb.size, BestSt.below (W := W2.drew) ⟨ST.out.box, ST.out.top, ST.out.best, ST.out.row, ST.out.len⟩ hb (by show P1 < W2.heap.size; omega) (by show P2 < W2.heap.size; omega) (by show P3 < W2.heap.size; omega) (by show PB < W2.heap.size; omega)⟩
    have hwW2 : w.heap.size ≤ W2.heap.size := by omega
    have CP := Lib.hid (pointed_L _ l W2.drew ((H.out.below B2.out.drew (Nat.le_refl _)).quads hwW2) HS.out.2)
    clear s2 hW2 hPB hP3 hP2 hP1 hmk LB
    go_region_held3 (fun w' => w'.cell? ⟨P1, 0, none⟩ = some (.slice a l.length cap))
      (first | with_reducible exact d0 | with_reducible exact d1 | with_reducible exact d2 | fail)
      (first | (go_at_call 63; (refine CP.out.mono ?_); rintro e w3 ⟨L, rfl, HL, hb3⟩; have HB3 := Lib.hid (HN3.out w3 hb3); have d1 := (hb3.cell (p := ⟨P1, 0, none⟩) hPW2).trans d0; clear hb3) | (go_at_call 73; (refine (eachBest_run P1 P2 P3 PB l a cap w.heap.size L w3 _ HS.out HL.out HP1.out HP2.out HP3.out HPW.out (H.out.below HB3.out.1 (Nat.le_refl _)) HB3.out.2.1 HB3.out.2.2).mono ?_); rintro e w4 ⟨rfl, hc4, hb4⟩; have d2 := hc4.box; have HC4 := Lib.hid hc4; have HB4 := Lib.hid hb4; clear hc4 hb4) | fail)
    all_goals
      rename_i hh
      clear hh d0 d1 d2
      have c4 := HC4.out.best
      have B4 := Lib.hid (HB3.out.1.trans (HB4.out.mono HPW.out))
      have LEN : Hid ((bestAll (wtB true) l).length = l.length) := (bestAll_ok _ _).1
      have s4 := HB4.out.size
      go_wp2_with fail
      go_ret2
      refine ⟨_, tup_bool (decide_eq_true HS.out).symm, ?_, B4.out⟩
      rw [HW.out]
      refine .inr ⟨PB, 0, l.length, 3, l.length, fun j => .int .i64 ((bestAll (wtB true) l)[j]?.getD 0), by rw [LEN.out]; rfl, by rw [LEN.out]; exact Nat.le_refl _, by omega, HPW.out, (by have := (Array.getElem?_eq_some_iff.1 HC4.out.row).1; exact this), ⟨_, HC4.out.row, by simp [LEN.out], fun i hi => ?_⟩, by rw [LEN.out]; omega, fun j hj => by rw [Nat.zero_add]⟩
      simp [LEN.out, hi]
  · have HS := Lib.hid hs
    have HW : Hid (bestOut l = []) := if_neg hs
    clear hs
    go_enter Try.func39, Try.ntmps39
    go_wp2_with fail
    refine (LabelsValid_any _ l _ ((H.out.below ((Below.refl w.heap.size w).alloc (Nat.le_refl _) _) (Nat.le_refl _)).quads (by simp))).mono ?_
    rintro e w1 ⟨rfl, hb⟩
    have HB := Lib.hid ((al (Below.refl w.heap.size w) _).trans (hb.mono (by simp)))
    clear hb
    rw [decide_eq_false HS.out]
    go_wp2_with fail
    go_ret2
    exact ⟨_, tup_bool (decide_eq_false HS.out).symm, by rw [HW.out]; exact .inl ⟨rfl, _, _, rfl, by omega⟩, HB.out⟩
end Go.Proofs.Ytbpcjdhbbighgaa
