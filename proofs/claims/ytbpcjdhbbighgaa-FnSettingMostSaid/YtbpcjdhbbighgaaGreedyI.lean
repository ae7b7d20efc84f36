/-
  Contract of impl.SettingGreedy. No condition but that the slice reads as the list.
-/
import Derived.Test.YtbpcjdhbbighgaaSortG
import Derived.Test.YtbpcjdhbbighgaaGreedyS
import Derived.Test.YtbpcjdhbbighgaaBoardOf
import Derived.Test.YtbpcjdhbbighgaaBestI
namespace Go.Proofs.Ytbpcjdhbbighgaa
open Go.RowKit Go.Deep
set_option linter.unusedVariables false
set_option linter.unusedSimpArgs false

/-- the region's cells, with the list's box -/
abbrev HB6 (P : Nat) (bx : Value) (F b o : Nat) (L : List Value) (q : Quad) (w : World) : Prop := w.cell? ⟨P, 0, none⟩ = some bx ∧ HB5 F b o L q w
theorem held6_new {P F b o : Nat} {bx : Value} {L : List Value} {q : Quad} {w : World} (h : HB6 P bx F b o L q w) : HB6 P bx F b o L q (w.alloc (.cells Try.zeroCells60 60)) := ⟨cell_alloc h.1 _, held_new h.2⟩
theorem held6_below {P F b o B : Nat} {bx : Value} {L : List Value} {q : Quad} {w w' : World} (h : HB6 P bx F b o L q w) (hb : Below B w w') (h0 : P < B) (h1 : F < B) (h2 : b < B) : HB6 P bx F b o L q w' := ⟨(hb.cell (p := ⟨P, 0, none⟩) h0).trans h.1, held_below h.2 hb h1 h2⟩
theorem held6_set {P F b o g : Nat} {bx : Value} {L : List Value} {q : Quad} {w : World} (h : HB6 P bx F b o L q w) (h0 : P ≠ g) (h1 : F ≠ g) (h2 : b ≠ g) (cs : List Value) : HB6 P bx F b o L q (w.setCells g 0 cs) := ⟨cell_setCells h.1 h0 cs, held_set h.2 h1 h2 cs⟩
theorem next6_a {wr w5 : World} {P F b o : Nat} {bx : Value} {L : List Value} {q : Quad} {G : Prop} (cs : List Value) (h100 : cs.length = 100) (hd : HB6 P bx F b o L q wr) (h0 : P < wr.heap.size) (h1 : F < wr.heap.size) (h2 : b < wr.heap.size) (hb5 : Below (wr.alloc (.cells Try.zeroCells60 60)).drew.heap.size (wr.alloc (.cells Try.zeroCells60 60)).drew w5)
    (hk : HB6 P bx F b o L q w5 → HB6 P bx F b o L q (w5.setCells wr.heap.size 0 cs) → w5.there wr.heap.size 0 100 → Laid wr wr.heap.size cs (w5.setCells wr.heap.size 0 cs) → G) : G := by
  have hb5' : Below (wr.alloc (.cells Try.zeroCells60 60)).heap.size (wr.alloc (.cells Try.zeroCells60 60)) w5 := ((Below.refl (wr.alloc (.cells Try.zeroCells60 60)).heap.size (wr.alloc (.cells Try.zeroCells60 60))).drew).trans hb5
  have k := held6_below (held6_new (w := wr) hd) hb5' (by simp; omega) (by simp; omega) (by simp; omega)
  exact hk k (held6_set k (by omega) (by omega) (by omega) _) (there_below (there_board wr) (B := (wr.alloc (.cells Try.zeroCells60 60)).heap.size) hb5' (by simp)) (laid_a h100 hb5)
theorem next6_b {wr w5 : World} {P F b o : Nat} {bx : Value} {L : List Value} {q : Quad} {G : Prop} (cs : List Value) (h100 : cs.length = 100) (hd : HB6 P bx F b o L q wr) (h0 : P < wr.heap.size) (h1 : F < wr.heap.size) (h2 : b < wr.heap.size) (hb5 : Below wr.drew.heap.size wr.drew w5)
    (hk : HB6 P bx F b o L q w5 → HB6 P bx F b o L q (w5.alloc (.cells Try.zeroCells60 60)) → HB6 P bx F b o L q ((w5.alloc (.cells Try.zeroCells60 60)).setCells w5.heap.size 0 cs) → (w5.alloc (.cells Try.zeroCells60 60)).there w5.heap.size 0 100 → Laid wr w5.heap.size cs ((w5.alloc (.cells Try.zeroCells60 60)).setCells w5.heap.size 0 cs) → G) : G := by
  have hs : wr.heap.size ≤ w5.heap.size := hb5.size
  have k := held6_below (w := wr.drew) hd hb5 h0 h1 h2
  exact hk k (held6_new k) (held6_set (held6_new k) (by omega) (by omega) (by omega) _) (there_board w5) (laid_b h100 hb5)

/-- what the loops of the greedy way keep -/
structure GK (l : List Quad) (w : World) (PO PS PB : Nat) (la : Option Addr) (lc : Nat) (M : Plan) (s : List Int) (W : World) : Prop where
  box : W.cell? ⟨w.heap.size, 0, none⟩ = some (.slice la l.length lc)
  ord : W.rowIs PO 3 l.length fun j => .int .i64 (((orderOf l)[j]?.getD 0 : Nat) : Int)
  sid : W.rowIs PS 3 l.length fun j => .int .i64 (s[j]?.getD 0)
  brd : W.rowIs PB 60 100 fun j => .int .u8 (encI (M j))
  len : s.length = l.length
  bel : Below w.heap.size w W
theorem GK.below {l : List Quad} {w : World} {PO PS PB : Nat} {la : Option Addr} {lc : Nat} {M : Plan} {s : List Int} {W W' : World} (h : GK l w PO PS PB la lc M s W) (hw : w.heap.size < W.heap.size) (hb : Below W.heap.size W W') : GK l w PO PS PB la lc M s W' :=
  ⟨(hb.cell (p := ⟨w.heap.size, 0, none⟩) hw).trans h.box, h.ord.of_block (hb.block _ h.ord.lt), h.sid.of_block (hb.block _ h.sid.lt), h.brd.of_block (hb.block _ h.brd.lt), h.len, h.bel.trans (hb.mono (Nat.le_of_lt hw))⟩
theorem rowIs_congr {w : World} {b : Nat} {t : TypeId} {n : Nat} {f g : Nat → Value} (h : w.rowIs b t n f) (e : ∀ i, i < n → f i = g i) : w.rowIs b t n g := by
  obtain ⟨c, h1, h2, h3⟩ := h
  exact ⟨c, h1, h2, fun i hi => (h3 i hi).trans (by rw [e i hi])⟩
theorem order_length {l : List Quad} (hv : ValidL l) : (orderOf l).length = l.length := by
  have : (orderOf l).Perm (List.range l.length) := (List.perm_ext_iff_of_nodup (orderOf_nodup l) List.nodup_range).2 fun a => by rw [mem_orderOf (valid_w hv), List.mem_range]
  rw [this.length_eq, List.length_range]
theorem order_next {l : List Quad} (hv : ValidL l) {k : Nat} (hk : k < l.length) : (orderOf l)[k]?.getD 0 < l.length ∧ (orderOf l).drop k = (orderOf l)[k]?.getD 0 :: (orderOf l).drop (k + 1) := by
  have hl := order_length hv
  have e : (orderOf l)[k]?.getD 0 = (orderOf l)[k] := by rw [List.getElem?_eq_getElem]; rfl
  refine ⟨?_, ?_⟩
  · rw [e]; exact (mem_orderOf (valid_w hv) _).1 (List.getElem_mem _)
  · rw [e]; exact List.drop_eq_getElem_cons (by omega)
theorem rowIs_zeros1 (w : World) (n : Nat) : (w.alloc (.cells (madeCells #[.int .i64 0] n) 3)).rowIs w.heap.size 3 n (fun _ => .int .i64 0) :=
  ⟨_, heap_alloc_new w _, by simp [madeCells], fun i hi => by simp [madeCells, hi, Nat.mod_one]⟩

set_option maxHeartbeats 4000000 in
set_option maxRecDepth 100000 in
theorem SettingGreedy_any (v : Value) (l : List Quad) (w : World) (h : Quads w v l) :
    Calls Try.prog 25 #[v] w fun e w' => ∃ v', e = .returned (.tuple #[v', .bool (decide (ValidL l))]) ∧ Own w.heap.size w'.heap.size w' v' (greedyOut l) ∧ Below w.heap.size w w' := by
  obtain ⟨a, cap, rfl, h1, h2, h3⟩ := id h
  have H := Lib.hid h.quadsB
  clear h h3
  by_cases hs : ValidL l
  · have HS := Lib.hid hs
    have hl6 := hs.1
    have HW : Hid (greedyOut l = greedyOf l) := if_pos hs
    have hmk := run_make_row' (P := Try.prog) 27 3 (.int .i64 0) 8 Try.underlying27 info_int rfl .i64 .i64 l.length (by omega) (by omega)
    clear hs
    go_enter Try.func25, Try.ntmps25
    go_wp2_with fail
    refine (LabelsValid_any _ l _ ((H.out.below ((Below.refl w.heap.size w).alloc (Nat.le_refl _) _) (Nat.le_refl _)).quads (by simp))).mono ?_
    rintro e w1 ⟨rfl, hb⟩
    have hs1 := hb.size
    simp at hs1
    have HB := Lib.hid ((al (Below.refl w.heap.size w) _).trans (hb.mono (by simp)))
    have LB : w1.cell? ⟨w.heap.size, 0, none⟩ = some (.slice a l.length cap) := (hb.cell (p := ⟨w.heap.size, 0, none⟩) (by simp)).trans (by unfold World.cell?; simp only [heap_alloc_new w _]; rfl)
    have LB2 : ∀ o, (w1.alloc o).cell? ⟨w.heap.size, 0, none⟩ = some (.slice a l.length cap) := fun o => cell_alloc LB o
    have LB3 : ∀ o o', ((w1.alloc o).alloc o').cell? ⟨w.heap.size, 0, none⟩ = some (.slice a l.length cap) := fun o o' => cell_alloc (LB2 o) o'
    clear hb
    rw [decide_eq_true HS.out]
    go_wp2_with fail
    have hs1' := HB.out.size
    have R1 := Lib.hid ((rowIs_zeros1 w1 l.length).of_block (Below.heap_alloc _ (.cells (madeCells #[.int .i64 0] l.length) 3) w1.heap.size (by simp)))
    have R2 := Lib.hid (rowIs_zeros1 (w1.alloc (.cells (madeCells #[.int .i64 0] l.length) 3)) l.length)
    rw [show (w1.alloc (.cells (madeCells #[.int .i64 0] l.length) 3)).heap.size = w1.heap.size + 1 by simp] at R2
    have B2 := Lib.hid ((HB.out.alloc hs1' (.cells (madeCells #[.int .i64 0] l.length) 3)).alloc (by simp; omega) (.cells (madeCells #[.int .i64 0] l.length) 3))
    have BX2 := Lib.hid (LB3 (.cells (madeCells #[.int .i64 0] l.length) 3) (.cells (madeCells #[.int .i64 0] l.length) 3))
    obtain ⟨W2, hW2⟩ : ∃ W, W = ((w1.alloc (.cells (madeCells #[.int .i64 0] l.length) 3)).alloc (.cells (madeCells #[.int .i64 0] l.length) 3)) := ⟨_, rfl⟩
    rw [← hW2] at R1 R2 B2 BX2 ⊢
    obtain ⟨PO, hPO⟩ : ∃ P, P = w1.heap.size := ⟨_, rfl⟩
    obtain ⟨PS, hPS⟩ : ∃ P, P = w1.heap.size + 1 := ⟨_, rfl⟩
    rw [← hPO] at R1
    rw [← hPS] at R2
    rw [← hPS, ← hPO]
    have p1 : w.heap.size < PO := by omega
    have p2 : PS = PO + 1 := by omega
    have HP2 := Lib.hid p2
    have p3 : PO < PS := by omega
    clear hW2 hmk LB LB2 LB3 HB hPO hPS p2
    go_loopw [24] (fun i W => ∃ k : Nat, k ≤ l.length ∧ i = .int .i64 k ∧ (W.rowIs PO 3 l.length fun j => if j < k then .int .i64 (j : Int) else .int .i64 0) ∧ (W.rowIs PS 3 l.length fun j => if j < k then .int .i64 (-1) else .int .i64 0) ∧ W.cell? ⟨w.heap.size, 0, none⟩ = some (.slice a l.length cap) ∧ Below w.heap.size w W) (fun i _ => l.length - (intOf i).toNat)
    case atStart => exact ⟨0, Nat.zero_le _, rfl, rowIs_congr R1.out (fun i _ => by simp), rowIs_congr R2.out (fun i _ => by simp), BX2.out, B2.out⟩
    case round =>
      clear R1 R2 BX2 B2 W2
      obtain ⟨k, hk, rfl, hr1, hr2, hbx, hbel⟩ := hrel
      have R1 := Lib.hid hr1
      have R2 := Lib.hid hr2
      have BX := Lib.hid hbx
      have HB := Lib.hid hbel
      have zP := hr1.lt
      have zS := hr2.lt
      by_cases hlt : k < l.length
      · have x1 : (k : Int) < (l.length : Int) := by omega
        have x3 : (0 : Int) ≤ (k : Int) := by omega
        have c1 := hr1.cell hlt
        have f1 := hr1.frozen k
        have hr2' := hr2.of_block (w' := wr.setCell ⟨PO, k, none⟩ (.int .i64 (k : Int))) (Below.heap_setCell _ _ _ _ (by show PS ≠ PO; omega))
        have c2 := hr2'.cell hlt
        have f2 := hr2'.frozen k
        rw [if_neg (Nat.lt_irrefl k)] at c1 c2
        have N1 : Hid (((wr.setCell ⟨PO, k, none⟩ (.int .i64 (k : Int))).setCell ⟨PS, k, none⟩ (.int .i64 (-1))).rowIs PO 3 l.length fun j => if j < k + 1 then .int .i64 (j : Int) else .int .i64 0) :=
          rowIs_congr ((hr1.set k (.int .i64 (k : Int))).of_block (Below.heap_setCell _ _ _ _ (by show PO ≠ PS; omega))) (fun i _ => by
            by_cases e : i = k
            · subst e; simp
            · simp only [e, if_false]
              by_cases e2 : i < k
              · rw [if_pos e2, if_pos (by omega)]
              · rw [if_neg e2, if_neg (by omega)])
        have N2 : Hid (((wr.setCell ⟨PO, k, none⟩ (.int .i64 (k : Int))).setCell ⟨PS, k, none⟩ (.int .i64 (-1))).rowIs PS 3 l.length fun j => if j < k + 1 then .int .i64 (-1) else .int .i64 0) :=
          rowIs_congr (hr2'.set k (.int .i64 (-1))) (fun i _ => by
            by_cases e : i = k
            · subst e; simp
            · simp only [e, if_false]
              by_cases e2 : i < k
              · rw [if_pos e2, if_pos (by omega)]
              · rw [if_neg e2, if_neg (by omega)])
        have N3 : Hid (((wr.setCell ⟨PO, k, none⟩ (.int .i64 (k : Int))).setCell ⟨PS, k, none⟩ (.int .i64 (-1))).cell? ⟨w.heap.size, 0, none⟩ = some (.slice a l.length cap)) :=
          (World.cell?_of_block (a := ⟨w.heap.size, 0, none⟩) ((Below.heap_setCell _ _ _ _ (by show w.heap.size ≠ PS; omega)).trans (Below.heap_setCell _ _ _ _ (by show w.heap.size ≠ PO; omega)))).trans hbx
        have N4 := Lib.hid ((hbel.setCell (p := ⟨PO, k, none⟩) (Nat.le_of_lt p1) (.int .i64 (k : Int))).setCell (p := ⟨PS, k, none⟩) (by show w.heap.size ≤ PS; omega) (.int .i64 (-1)))
        clear hr1 hr2 hr2' hbx hbel R1 R2 BX HB
        go_wp2_with fail
        go_roundw
        case rel => exact ⟨k + 1, by omega, by go_num, N1.out, N2.out, N3.out, N4.out⟩
        case measure => simp [intOf]; omega
      · obtain rfl : k = l.length := by omega
        have RO : Hid (wr.rowIs PO 3 l.length fun j => .int .i64 (j : Int)) := rowIs_congr hr1 (fun i hi => if_pos hi)
        have RS : Hid (wr.rowIs PS 3 l.length fun j => .int .i64 ((gStart l).2[j]?.getD 0)) := rowIs_congr hr2 (fun i hi => by rw [if_pos hi]; simp [gStart, hi])
        have CS := Lib.hid (sort_any l w.heap.size PO w.heap.size cap a wr HS.out hbx (H.out.below hbel (Nat.le_refl _)) (Nat.le_refl _) p1 RO.out)
        clear hr1 hr2 hbx hlt hbel R1 R2 hk
        go_wp2_with fail
        refine CS.out.mono ?_
        rintro e w3 ⟨rfl, hr3, ht3⟩
        have R3 := Lib.hid hr3
        have S3 := Lib.hid (RS.out.of_block (ht3.block PS zS (by omega)))
        have BX3 : w3.cell? ⟨w.heap.size, 0, none⟩ = some (.slice a l.length cap) := (World.cell?_of_block (a := ⟨w.heap.size, 0, none⟩) (ht3.block w.heap.size (by omega) (by omega))).trans BX.out
        have HBX3 := Lib.hid BX3
        have B3 := Lib.hid (HB.out.trans (ht3.below (by omega) HB.out.size))
        have s3 := ht3.size
        clear hr3 ht3 CS RO RS BX HB
        go_wp2_with fail
        refine (pointed_M _ l w3 ((H.out.below B3.out (Nat.le_refl _)).quads (by have := B3.out.size; omega)) HS.out.2).mono ?_
        rintro e w4 ⟨rfl, hb4⟩
        have s4 := hb4.size
        have z3 : w.heap.size ≤ w3.heap.size := B3.out.size
        have R4 := Lib.hid (R3.out.of_block (hb4.block PO R3.out.lt))
        have S4 := Lib.hid (S3.out.of_block (hb4.block PS S3.out.lt))
        have X4 := Lib.hid ((hb4.cell (p := ⟨w.heap.size, 0, none⟩) (by show w.heap.size < w3.heap.size; have := R3.out.lt; omega)).trans HBX3.out)
        have B4 := Lib.hid (B3.out.trans (hb4.mono z3))
        obtain ⟨C0, hC0⟩ : ∃ C, C = (bdL (mPts l)).toArray := ⟨_, rfl⟩
        rw [← hC0]
        have E0 := Lib.hid hC0
        have zC : C0.size = 100 := by rw [hC0]; exact bdL_arr _
        have o0 : C0.all (·.oneCell') = true := by
          rw [hC0]; exact (Array.all_eq_true_iff_forall_mem.2 (fun x hx => bdL_one _ x (by simpa using hx)))
        have O0 := Lib.hid o0
        clear hb4 hC0 o0 BX3 R3 S3 HBX3 B3
        obtain ⟨f3, c3, m1, m2, m3⟩ := row_zero w4
        have K3 := Lib.hid m1
        clear m1 m3
        go_wp2_with (refine wpList_store_row rfl 60 _ _ rfl w4.heap.size C0 rfl rfl _ _ K3.out (size_board.trans (by rw [zC])) (by omega) O0.out ?_)
        have zW : ((w4.alloc (.cells Try.zeroCells60 60)).setRow w4.heap.size C0).heap.size = w4.heap.size + 1 := by simp [World.setRow]
        have hal : Below w4.heap.size w4 ((w4.alloc (.cells Try.zeroCells60 60)).setRow w4.heap.size C0) := below_setRow ((Below.refl _ _).alloc (Nat.le_refl _) _) (Nat.le_refl _) _
        have K0 : Hid (GK l w PO PS w4.heap.size a cap (gStart l).1 (gStart l).2 ((w4.alloc (.cells Try.zeroCells60 60)).setRow w4.heap.size C0)) :=
          ⟨(hal.cell (p := ⟨w.heap.size, 0, none⟩) (by show w.heap.size < w4.heap.size; have := R4.out.lt; omega)).trans X4.out, R4.out.of_block (hal.block PO R4.out.lt), S4.out.of_block (hal.block PS S4.out.lt),
            ⟨C0, setRow_heap _ _ _ _ _ _ K3.out, zC, fun i hi => by rw [E0.out]; simp [bdL_get _ i hi, gStart]⟩, by simp [gStart], B4.out.trans (hal.mono B4.out.size)⟩
        have p5 : PS < w4.heap.size := S4.out.lt
        obtain ⟨F, hF⟩ : ∃ F, F = w4.heap.size := ⟨_, rfl⟩
        obtain ⟨W5, hW5⟩ : ∃ x, x = (w4.alloc (.cells Try.zeroCells60 60)).setRow w4.heap.size C0 := ⟨_, rfl⟩
        rw [← hW5, ← hF] at K0
        rw [← hW5, ← hF]
        rw [← hF] at p5
        have G0 := Lib.hid (gst_start HS.out)
        have OL := Lib.hid (order_length HS.out)
        clear hW5 hF K3 E0 O0 R4 S4 X4 B4 zW hal
        go_wp2_with fail
        go_loopw [42] (fun i W => ∃ (k : Nat) (st : Plan × List Int), k ≤ l.length ∧ i = .int .i64 k ∧ GSt l ((orderOf l).drop k) st ∧ GK l w PO PS F a cap st.1 st.2 W) (fun i _ => l.length - (intOf i).toNat)
        case atStart => exact ⟨0, gStart l, Nat.zero_le _, rfl, by rw [List.drop_zero]; exact G0.out, K0.out⟩
        case round =>
          clear G0 K0 W5
          obtain ⟨k, st, hk, rfl, hG, hK⟩ := hrel
          have GG := Lib.hid hG
          have KK := Lib.hid hK
          clear hG hK
          by_cases hkl : k < l.length
          · have x1 : (k : Int) < (l.length : Int) := by omega
            have x3 : (0 : Int) ≤ (k : Int) := by omega
            obtain ⟨on1, on2⟩ := order_next HS.out hkl
            have c9 := KK.out.ord.cell hkl
            obtain ⟨K, hKe⟩ : ∃ K, K = (orderOf l)[k]?.getD 0 := ⟨_, rfl⟩
            rw [← hKe] at on1 on2 c9
            rw [on2] at GG
            have GN := Lib.hid (gst_step GG.out)
            have hst1 := (GG.out.2.2.1 K (List.mem_cons_self ..)).2
            have hstl := GG.out.2.2.2
            have SR0 : Hid (SrG l K st 0 (-1) st.1) := .inl ⟨rfl, rfl, fun s hs => by omega⟩
            have NO := Lib.hid (set_noop (a := -1) (by rw [hstl]; exact on1) hst1)
            obtain ⟨_, _, he, _, _, h3⟩ := H.out
            simp only [Value.slice.injEq] at he
            obtain ⟨rfl, _, rfl⟩ := he
            obtain ⟨b, off, rfl, hb, hcell⟩ := h3 (by omega)
            have HC := Lib.hid (hcell K on1)
            have hq1 := (HS.out.2 K on1).1
            obtain ⟨q, hqe⟩ : ∃ q, q = l[K]?.getD q0 := ⟨_, rfl⟩
            rw [← hqe] at hq1 HC
            have HQ := Lib.hid hq1
            have HQE := Lib.hid hqe
            have K1 : (K : Int) < (l.length : Int) := by omega
            have K3 : (0 : Int) ≤ (K : Int) := by omega
            obtain ⟨wo, hwo⟩ : ∃ wo : World, wo = wr := ⟨_, rfl⟩
            rw [← hwo] at KK c9 ⊢
            clear hcell h3 hq1 hqe hKe GG on2 hwo hst1
            clear wr
            go_wp2_with fail
            clear c9
            go_loopw [46] (fun j W => ∃ j0 : Nat, j0 ≤ 4 ∧ j = .int .i64 j0 ∧ (∀ s : Nat, s < j0 → ¬ CanSet st.1 q (s : Int)) ∧ GK l w PO PS F (some ⟨b, off, none⟩) cap st.1 st.2 W) (fun j _ => 4 - (intOf j).toNat)
            case atStart => exact ⟨0, by omega, rfl, fun s hs => by omega, KK.out⟩
            case round =>
              clear KK wo
              obtain ⟨j0, hj, rfl, hng, hK⟩ := hrel
              have KK := Lib.hid hK
              have HNG := Lib.hid hng
              have hbx := hK.box
              have zF := hK.brd.lt
              have zw := hK.bel.size
              obtain ⟨d0, d1, d2, d3⟩ := HC.out.below hK.bel hb
              have hbw : b < wr.heap.size := by omega
              have hpw : w.heap.size < wr.heap.size := by omega
              have dr := range_row hK.brd
              clear hK hng
              by_cases hj4 : j0 < 4
              · have hj4' : (j0 : Int) < 4 := by omega
                have hu8 := Try.underlying60
                have hM1 := board_info st.1
                obtain ⟨L0, hL0⟩ : ∃ L, L = bdL st.1 := ⟨_, rfl⟩
                rw [← hL0] at dr hM1
                have HL0 := Lib.hid hL0
                clear hL0
                go_wp2
                have d : HB6 w.heap.size (.slice (some ⟨b, off, none⟩) l.length cap) F b (off + K * 4) L0 q wr := ⟨hbx, dr, d0, d1, d2, d3⟩
                have dd : HB6 w.heap.size (.slice (some ⟨b, off, none⟩) l.length cap) F b (off + K * 4) L0 q wr.drew := d
                have dn : HB6 w.heap.size (.slice (some ⟨b, off, none⟩) l.length cap) F b (off + K * 4) L0 q (wr.alloc (.cells Try.zeroCells60 60)).drew := held6_new d
                go_region_held3 (fun w' => w'.cell? ⟨w.heap.size, 0, none⟩ = some (.slice (some ⟨b, off, none⟩) l.length cap) ∧ w'.rangeAt F 0 L0 ∧ w'.cell? ⟨b, off + K * 4, none⟩ = some (.int .i64 q.1) ∧ w'.cell? ⟨b, off + K * 4 + 1, none⟩ = some (.int .i64 q.2.1) ∧ w'.cell? ⟨b, off + K * 4 + 2, none⟩ = some (.int .i64 q.2.2.1) ∧ w'.cell? ⟨b, off + K * 4 + 3, none⟩ = some (.int .i64 q.2.2.2))
                  (first | with_reducible exact dd | with_reducible exact dn | with_reducible exact r1 | with_reducible exact r2 | with_reducible exact r3 | fail)
                  (first | (go_at_call 65; refine (signOf_any K _ (by omega)).mono ?_; rintro e w5 ⟨rfl, rfl⟩) | (go_at_call 64; refine (with_L L0 st.1 HL0.out q (j0 : Int) ((K : Int) + 1) _ _ HQ.out (by omega) rfl).mono ?_; rintro e w5 ⟨cs, M', rfl, HCS, HM', hb5⟩; have i1 : (Try.prog.info? 60).map (·.size) = some cs.length := (by rw [HCS.out]; exact board_info M'); have i2 : cs.length = 100 := (by rw [HCS.out]; exact bdL_length M'); have i3 : ∀ v ∈ cs, v.oneCell' = true := (by rw [HCS.out]; exact bdL_one M'); (first | ((with_reducible refine next6_a cs i2 d hpw zF hbw hb5 ?_); intro r1 r2 tb LA) | ((with_reducible refine next6_b cs i2 d hpw zF hbw hb5 ?_); intro r1 r2 r3 tb LA) | fail)))
                all_goals
                  rename_i hh
                  have CI := Lib.hid i1
                  have C100 : Hid (cs.toArray.size = 100) := by show _ = _; rw [List.size_toArray]; exact i2
                  have C1S := Lib.hid (all_oneCell_toArray i3)
                  clear hh r1 r2 tb i1 i2 i3 hb5 hu8 hM1
                  try clear r3
                all_goals first
                  | (obtain ⟨WE, hWE⟩ : ∃ x, x = (w5.alloc (.cells Try.zeroCells60 60)).setCells w5.heap.size 0 cs := ⟨_, rfl⟩
                     rw [← hWE] at LA ⊢
                     clear hWE)
                  | (obtain ⟨WE, hWE⟩ : ∃ x, x = w5.setCells wr.heap.size 0 cs := ⟨_, rfl⟩
                     rw [← hWE] at LA ⊢
                     clear hWE)
                all_goals
                  obtain ⟨hbW, hRg, hNB, hNB2⟩ := LA
                  have KE := Lib.hid (KK.out.below hpw hbW)
                  have RG := Lib.hid hRg
                  obtain ⟨cF, f1, f2', f3'⟩ := KE.out.brd
                  have KF := Lib.hid f1
                  have sW := hbW.size
                  clear hbW hRg f1 f3' d dd dn dr d0 d1 d2 d3 KK hbx
                  by_cases hc : CanSet st.1 q (j0 : Int)
                  · rw [decide_eq_true hc]
                    have HM := Lib.hid (HM'.out hc)
                    have GE := Lib.hid (srg_done (l := l) (i := K) (st := st) (j := j0 + 1) (c := (j0 : Int)) (M' := M') (.inr ⟨j0, rfl, hj4, rfl, by rw [← HQE.out]; exact hc, fun r hr => by rw [← HQE.out]; exact HNG.out r hr, by rw [← HQE.out]; exact HM.out⟩) (.inr (by omega)))
                    have hal : (WE.setRow F cs.toArray).heap[PS]? = WE.heap[PS]? := setRow_other _ _ _ _ (by omega)
                    have halw : (WE.setRow F cs.toArray).heap[w.heap.size]? = WE.heap[w.heap.size]? := setRow_other _ _ _ _ (by omega)
                    have sidE := KE.out.sid.of_block hal
                    have cc := sidE.cell on1
                    have ff := sidE.frozen K
                    have hF2 : ((WE.setRow F cs.toArray).setCell ⟨PS, K, none⟩ (.int .i64 (j0 : Int))).heap[F]? = (WE.setRow F cs.toArray).heap[F]? := Below.heap_setCell _ _ _ _ (by show F ≠ PS; omega)
                    have KN : Hid (GK l w PO PS F (some ⟨b, off, none⟩) cap (gStep l st K).1 (gStep l st K).2 ((WE.setRow F cs.toArray).setCell ⟨PS, K, none⟩ (.int .i64 (j0 : Int)))) := by
                      show GK _ _ _ _ _ _ _ _ _ _
                      rw [GE.out]
                      refine ⟨?_, ?_, ?_, ?_, by rw [List.length_set]; exact hstl, ?_⟩
                      · exact (World.cell?_of_block (a := ⟨w.heap.size, 0, none⟩) ((Below.heap_setCell _ _ _ _ (by show w.heap.size ≠ PS; omega)).trans halw)).trans KE.out.box
                      · exact KE.out.ord.of_block ((Below.heap_setCell _ _ _ _ (by show PO ≠ PS; omega)).trans (setRow_other _ _ _ _ (by omega)))
                      · exact rowIs_congr (sidE.set K (.int .i64 (j0 : Int))) (fun i _ => by
                          by_cases e : i = K
                          · subst e; rw [if_pos rfl, set_same (by rw [hstl]; exact on1)]
                          · rw [if_neg e, set_other e])
                      · exact World.rowIs.of_block ⟨_, setRow_heap _ _ _ _ _ _ KF.out, C100.out, fun i hi => by rw [HCS.out]; simp [bdL_get M' i hi]⟩ hF2
                      · exact (below_setRow KE.out.bel (by omega) _).setCell (p := ⟨PS, K, none⟩) (by show w.heap.size ≤ PS; omega) _
                    clear hc HM' HNG HM GE hal halw sidE hF2
                    go_wp2_with (first | (refine wpList_load_mid rfl 60 _ rfl _ 0 rfl cs _ RG.out Try.underlying60 rfl CI.out ?_) | (refine wpList_store_row rfl 60 _ _ rfl F cs.toArray rfl rfl _ _ KF.out (size_board.trans (by rw [C100.out])) (by rw [f2', C100.out]) C1S.out ?_))
                    go_roundw
                    case rel => exact ⟨k + 1, _, by omega, by go_num, GN.out, KN.out⟩
                    case measure => simp [intOf]; omega
                  · rw [decide_eq_false hc]
                    have NG : Hid (∀ s : Nat, s < j0 + 1 → ¬ CanSet st.1 q (s : Int)) := fun s hs => by
                      by_cases e : s = j0
                      · subst e; exact hc
                      · exact HNG.out s (by omega)
                    clear hc HM' HNG KF f2'
                    go_wp2_with fail
                    go_roundw
                    case rel => exact ⟨j0 + 1, by omega, by go_num, NG.out, KE.out⟩
                    case measure => simp [intOf]; omega
              · obtain rfl : j0 = 4 := by omega
                have GE := Lib.hid (srg_done (l := l) (i := K) (st := st) (j := 4) (c := -1) (M' := st.1) (.inl ⟨rfl, rfl, fun r hr => by rw [← HQE.out]; exact HNG.out r hr⟩) (.inl (Nat.le_refl _)))
                have KN : Hid (GK l w PO PS F (some ⟨b, off, none⟩) cap (gStep l st K).1 (gStep l st K).2 wr) := by
                  show GK _ _ _ _ _ _ _ _ _ _
                  rw [GE.out, NO.out]
                  exact KK.out
                clear GE KK HNG dr d0 d1 d2 d3 hbx
                go_wp2_with fail
                go_roundw
                case rel => exact ⟨k + 1, _, by omega, by go_num, GN.out, KN.out⟩
                case measure => simp [intOf]; omega
          · obtain rfl : k = l.length := by omega
            have FE : Hid (st.2 = greedyOut l) := by
              show _ = _
              have := GG.out.1
              rw [List.drop_eq_nil_of_le (by rw [OL.out]; exact Nat.le_refl _)] at this
              rw [HW.out, greedyOf, ← this]; rfl
            have KO := Lib.hid KK.out
            clear GG KK
            go_wp2_with fail
            go_ret2
            refine ⟨_, tup_bool (decide_eq_true HS.out).symm, ?_, KO.out.bel⟩
            rw [← FE.out]
            refine .inr ⟨PS, 0, l.length, 3, l.length, fun j => .int .i64 (st.2[j]?.getD 0), by rw [KO.out.len]; rfl, by rw [KO.out.len]; exact Nat.le_refl _, by omega, by omega, KO.out.sid.lt, KO.out.sid, by rw [KO.out.len]; omega, fun j hj => by rw [Nat.zero_add]⟩
  · have HS := Lib.hid hs
    have HW : Hid (greedyOut l = []) := if_neg hs
    clear hs
    go_enter Try.func25, Try.ntmps25
    go_wp2_with fail
    refine (LabelsValid_any _ l _ ((H.out.below ((Below.refl w.heap.size w).alloc (Nat.le_refl _) _) (Nat.le_refl _)).quads (by simp))).mono ?_
    rintro e w1 ⟨rfl, hb⟩
    have HB := Lib.hid ((al (Below.refl w.heap.size w) _).trans (hb.mono (by simp)))
    clear hb
    rw [decide_eq_false HS.out]
    go_wp2_with fail
    go_ret2
    exact ⟨_, tup_bool (decide_eq_false HS.out).symm, by rw [HW.out]; exact .inl ⟨rfl, _, _, rfl, by omega⟩, HB.out⟩
end Go.Proofs.Ytbpcjdhbbighgaa
