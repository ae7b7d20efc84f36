/-
  Contracts of boardOf, SettingValid, weightOf, SettingWeight. No condition but that the slices read as the lists.
-/
import Derived.Test.YtbpcjdhbbighgaaWith
import Derived.Deep.RegionHeld3
namespace Go.Proofs.Ytbpcjdhbbighgaa
open Go.RowKit Go.Deep

theorem pointed_M (v : Value) (l : List Quad) (w : World) (h : Quads w v l) (hg : GoodUpTo l l.length) :
    Calls Try.prog 63 #[v] w fun e w' => e = .returned (.agg (bdL (mPts l)).toArray) ∧ Below w.heap.size w w' := by
  refine (pointed_any v l w h hg).mono ?_
  rintro e w' ⟨c, rfl, hc, hb⟩
  refine ⟨?_, hb⟩
  rw [arr_bdL (M := mPts l) hc.1 (fun i hi => by
    rw [hc.2 i hi]
    unfold bdPts mPts
    split <;> rfl)]
/-- a board that was just laid: its cells are there -/
theorem there_board (w : World) : ((w.alloc (.cells Try.zeroCells60 60))).there w.heap.size 0 100 := by
  obtain ⟨f, hf⟩ := row_zero w
  intro j hj
  rw [Nat.zero_add]
  exact ⟨by rw [hf.cell hj]; rfl, hf.frozen j⟩
theorem range_row {w : World} {b : Nat} {t : TypeId} {M : Plan} (h : w.rowIs b t 100 fun i => .int .u8 (encI (M i))) : w.rangeAt b 0 (bdL M) := by
  intro j v hv
  have hj : j < 100 := by have := (List.getElem?_eq_some_iff.1 hv).1; rwa [bdL_length] at this
  rw [bdL_get M j hj] at hv
  rw [Nat.zero_add, h.cell hj]
  exact hv
theorem range_below {w w' : World} {b B : Nat} {cs : List Value} (h : w.rangeAt b 0 cs) (hb : Below B w w') (hB : b < B) : w'.rangeAt b 0 cs :=
  fun j v hv => (hb.cell (p := ⟨b, 0 + j, none⟩) hB).trans (h j v hv)

/-- board{} -/
theorem zeroB_size : Try.zeroCells60.size = 100 := by kernel_rfl
theorem zeroB_one : Try.zeroCells60.all (·.oneCell') = true := by kernel_rfl
theorem store_arr {w : World} {g : Nat} {t : TypeId} {old C : Array Value} (hg : w.heap[g]? = some (.cells old t (0, 0))) (h2 : old.size = 100) (h3 : C.size = 100) (h1 : C.all (·.oneCell') = true) : (storeCells ⟨g, 0, none⟩ C.toList).run Try.prog w = .ok () (w.setRow g C) := by
  have h := run_storeCells_from (P := Try.prog) g t C.toList 0 old w hg (by rw [Array.length_toList, h3, h2]) (fun v hv => (Array.all_eq_true_iff_forall_mem.1 h1) v (by simpa using hv))
  simpa using h
theorem store_zero {w : World} {g : Nat} {t : TypeId} {old : Array Value} (hg : w.heap[g]? = some (.cells old t (0, 0))) (h2 : old.size = 100) : (storeCells ⟨g, 0, none⟩ Try.zeroCells60.toList).run Try.prog w = .ok () (w.setRow g Try.zeroCells60) := by
  have h := run_storeCells_from (P := Try.prog) g t Try.zeroCells60.toList 0 old w hg (by rw [Array.length_toList, zeroB_size, h2]) (fun v hv => (Array.all_eq_true_iff_forall_mem.1 zeroB_one) v (by simpa using hv))
  simpa using h
theorem there_below {w w' : World} {b n B : Nat} (h : w.there b 0 n) (hb : Below B w w') (hB : b < B) : w'.there b 0 n :=
  fun j hj => ⟨by rw [hb.cell (p := ⟨b, 0 + j, none⟩) hB]; exact (h j hj).1, by rw [hb.frozen (p := ⟨b, 0 + j, none⟩) hB]; exact (h j hj).2⟩
theorem cell_alloc {w : World} {a : Addr} {v : Value} (h : w.cell? a = some v) (o : Obj) : (w.alloc o).cell? a = some v := by
  rw [World.cell?_alloc_lt _ _ _ (World.block_lt_of_cell? w _ h)]; exact h
theorem cell_setCells {w : World} {a : Addr} {v : Value} {g : Nat} (h : w.cell? a = some v) (hne : a.block ≠ g) (cs : List Value) : (w.setCells g 0 cs).cell? a = some v := by
  rw [World.cell?_setCells_out g cs 0 w a (fun e _ => absurd e hne)]; exact h
theorem below_cells {B b : Nat} {a : World} (hb : B ≤ b) : ∀ (vs : List Value) (o : Nat) (w : World), Below B a w → Below B a (w.setCells b o vs)
  | [], _, _, h => h
  | v :: r, o, w, h => by rw [World.setCells]; exact below_cells hb r (o + 1) _ (h.setCell hb v)
/-- a new board that holds M, beside old memory as it was -/
def Laid (wr : World) (NB : Nat) (cs : List Value) (WE : World) : Prop := Below wr.heap.size wr WE ∧ WE.rangeAt NB 0 cs ∧ wr.heap.size ≤ NB ∧ NB < WE.heap.size
theorem laid_a {wr w5 : World} {cs : List Value} (h100 : cs.length = 100) (hb5 : Below (wr.alloc (.cells Try.zeroCells60 60)).drew.heap.size (wr.alloc (.cells Try.zeroCells60 60)).drew w5) : Laid wr wr.heap.size cs (w5.setCells wr.heap.size 0 cs) := by
  have hb5' : Below (wr.alloc (.cells Try.zeroCells60 60)).heap.size (wr.alloc (.cells Try.zeroCells60 60)) w5 := ((Below.refl (wr.alloc (.cells Try.zeroCells60 60)).heap.size (wr.alloc (.cells Try.zeroCells60 60))).drew).trans hb5
  have th := there_below (there_board wr) (B := (wr.alloc (.cells Try.zeroCells60 60)).heap.size) hb5' (by simp)
  have hs := hb5.size
  simp at hs
  refine ⟨below_cells (Nat.le_refl _) _ _ _ (((Below.refl wr.heap.size wr).alloc (Nat.le_refl _) _).trans (hb5'.mono (by simp))), ?_, Nat.le_refl _, ?_⟩
  · exact World.rangeAt_setCells_same _ _ _ _ (by rw [h100]; exact th)
  · have := (below_cells (B := 0) (Nat.zero_le _) cs 0 w5 (Below.refl 0 w5) (b := wr.heap.size)).size
    omega
theorem laid_b {wr w5 : World} {cs : List Value} (h100 : cs.length = 100) (hb5 : Below wr.drew.heap.size wr.drew w5) : Laid wr w5.heap.size cs ((w5.alloc (.cells Try.zeroCells60 60)).setCells w5.heap.size 0 cs) := by
  have hs := hb5.size
  simp at hs
  refine ⟨below_cells hs _ _ _ (((Below.refl wr.heap.size wr).drew.trans (hb5.mono (by simp))).alloc hs _), ?_, hs, ?_⟩
  · exact World.rangeAt_setCells_same _ _ _ _ (by rw [h100]; exact there_board w5)
  · have := (below_cells (B := 0) (Nat.zero_le _) cs 0 (w5.alloc (.cells Try.zeroCells60 60)) (Below.refl 0 _) (b := w5.heap.size)).size
    simp at this
    omega

/-- a board's cells and a label's, as a region that sets a label reads them -/
abbrev HB5 (F b o : Nat) (L : List Value) (q : Quad) (w : World) : Prop := w.rangeAt F 0 L ∧ w.cell? ⟨b, o, none⟩ = some (.int .i64 q.1) ∧ w.cell? ⟨b, o + 1, none⟩ = some (.int .i64 q.2.1) ∧ w.cell? ⟨b, o + 2, none⟩ = some (.int .i64 q.2.2.1) ∧ w.cell? ⟨b, o + 3, none⟩ = some (.int .i64 q.2.2.2)
theorem held_new {F b o : Nat} {L : List Value} {q : Quad} {w : World} (h : HB5 F b o L q w) : HB5 F b o L q (w.alloc (.cells Try.zeroCells60 60)) :=
  ⟨World.rangeAt_alloc h.1 _, cell_alloc h.2.1 _, cell_alloc h.2.2.1 _, cell_alloc h.2.2.2.1 _, cell_alloc h.2.2.2.2 _⟩
theorem held_below {F b o B : Nat} {L : List Value} {q : Quad} {w w' : World} (h : HB5 F b o L q w) (hb : Below B w w') (h1 : F < B) (h2 : b < B) : HB5 F b o L q w' :=
  ⟨range_below h.1 hb h1, (hb.cell (p := ⟨b, o, none⟩) h2).trans h.2.1, (hb.cell (p := ⟨b, o + 1, none⟩) h2).trans h.2.2.1, (hb.cell (p := ⟨b, o + 2, none⟩) h2).trans h.2.2.2.1, (hb.cell (p := ⟨b, o + 3, none⟩) h2).trans h.2.2.2.2⟩
theorem held_set {F b o g : Nat} {L : List Value} {q : Quad} {w : World} (h : HB5 F b o L q w) (h1 : F ≠ g) (h2 : b ≠ g) (cs : List Value) : HB5 F b o L q (w.setCells g 0 cs) :=
  ⟨World.rangeAt_setCells_apart h.1 _ _ _ (.inl h1), cell_setCells h.2.1 h2 cs, cell_setCells h.2.2.1 h2 cs, cell_setCells h.2.2.2.1 h2 cs, cell_setCells h.2.2.2.2 h2 cs⟩
/-- behind the label's set, the new board laid ahead -/
theorem next_a {wr w5 : World} {F b o : Nat} {L : List Value} {q : Quad} {G : Prop} (cs : List Value) (h100 : cs.length = 100) (hd : HB5 F b o L q wr) (h1 : F < wr.heap.size) (h2 : b < wr.heap.size) (hb5 : Below (wr.alloc (.cells Try.zeroCells60 60)).drew.heap.size (wr.alloc (.cells Try.zeroCells60 60)).drew w5)
    (hk : HB5 F b o L q w5 → HB5 F b o L q (w5.setCells wr.heap.size 0 cs) → w5.there wr.heap.size 0 100 → Laid wr wr.heap.size cs (w5.setCells wr.heap.size 0 cs) → G) : G := by
  have hb5' : Below (wr.alloc (.cells Try.zeroCells60 60)).heap.size (wr.alloc (.cells Try.zeroCells60 60)) w5 := ((Below.refl (wr.alloc (.cells Try.zeroCells60 60)).heap.size (wr.alloc (.cells Try.zeroCells60 60))).drew).trans hb5
  have e : wr.heap.size + 1 ≤ (wr.alloc (.cells Try.zeroCells60 60)).drew.heap.size := by simp
  have k := held_below (held_new (w := wr) hd) hb5' (by simp; omega) (by simp; omega)
  exact hk k (held_set k (by omega) (by omega) _) (there_below (there_board wr) (B := (wr.alloc (.cells Try.zeroCells60 60)).heap.size) hb5' (by simp)) (laid_a h100 hb5)
/-- .. the new board laid behind it -/
theorem next_b {wr w5 : World} {F b o : Nat} {L : List Value} {q : Quad} {G : Prop} (cs : List Value) (h100 : cs.length = 100) (hd : HB5 F b o L q wr) (h1 : F < wr.heap.size) (h2 : b < wr.heap.size) (hb5 : Below wr.drew.heap.size wr.drew w5)
    (hk : HB5 F b o L q w5 → HB5 F b o L q (w5.alloc (.cells Try.zeroCells60 60)) → HB5 F b o L q ((w5.alloc (.cells Try.zeroCells60 60)).setCells w5.heap.size 0 cs) → (w5.alloc (.cells Try.zeroCells60 60)).there w5.heap.size 0 100 → Laid wr w5.heap.size cs ((w5.alloc (.cells Try.zeroCells60 60)).setCells w5.heap.size 0 cs) → G) : G := by
  have hs : wr.heap.size ≤ w5.heap.size := hb5.size
  have k := held_below (w := wr.drew) hd hb5 h1 h2
  exact hk k (held_new k) (held_set (held_new k) (by omega) (by omega) _) (there_board w5) (laid_b h100 hb5)

/-- with, the boards' cells by letters -/
theorem with_L (L : List Value) (M : Plan) (hL : L = bdL M) (q : Quad) (side m sg : Int) (w : World) (hq : LabOk q) (hm : 1 ≤ m) (hsg : sg = 47 + m) :
    Calls Try.prog 64 #[.agg L.toArray, qv q, .int .i64 side, .int .u8 sg] w fun e w' => ∃ L' M', e = .returned (.tuple #[.agg L'.toArray, .bool (decide (CanSet M q side))]) ∧ Hid (L' = bdL M') ∧ Hid (CanSet M q side → M' = setOn M q side m) ∧ Below w.heap.size w w' := by
  subst hL
  refine (with_any M q side m sg w hq hm hsg).mono ?_
  rintro e w' ⟨M', rfl, h1, h2⟩
  exact ⟨_, M', rfl, rfl, h1, h2⟩

set_option maxHeartbeats 4000000 in
set_option maxRecDepth 100000 in
theorem boardOf_no (v u : Value) (l : List Quad) (s : List Int) (w : World) (h : Quads w v l) (hu : Ints w u s) (hv : ¬ (ValidL l ∧ s.length = l.length)) :
    Calls Try.prog 53 #[v, u] w fun e w' => ∃ C, e = .returned (.tuple #[.agg C, .bool (decide (SetOk l s))]) ∧ C.size = 100 ∧ C.all (·.oneCell') = true ∧ (SetOk l s → C = (bdL (planUp l s l.length)).toArray) ∧ Below w.heap.size w w' := by
  obtain ⟨a, cap, rfl, h1, h2, h3⟩ := id h
  obtain ⟨a', cap', rfl, h1', h2', h3'⟩ := id hu
  have H := Lib.hid h.quadsB
  have HU := Lib.hid hu.intsB
  clear h hu h3 h3'
  have FC := Lib.hid (show ¬ SetOk l s from fun h => hv ⟨h.1, h.2.1⟩)
  obtain ⟨b, t1, hbt⟩ : ∃ b, decide (ValidL l) = b ∧ (b = true → ((s.length : Int) != (l.length : Int)) = true) := by
    refine ⟨_, rfl, fun hh => ?_⟩
    have := of_decide_eq_true hh
    simp only [bne_iff_ne, ne_eq]
    intro e
    exact hv ⟨this, by omega⟩
  have HB := Lib.hid t1
  clear hv t1
  go_enter Try.func53, Try.ntmps53
  go_wp2_with fail
  refine (LabelsValid_any _ l _ ((H.out.below (al (Below.refl _ _) _) (Nat.le_refl _)).quads (by simp))).mono ?_
  rintro e w1 ⟨rfl, hb1⟩
  rw [HB.out]
  obtain ⟨f2, hf2⟩ := row_zero w
  have R2 := hf2.of_block (w' := w1) (hb1.block _ (by simp))
  have s1 := hb1.size
  simp at s1
  have B := Lib.hid ((al (Below.refl w.heap.size w) _).trans (hb1.mono (by simp)))
  obtain ⟨c2, l1, l2, l3⟩ := R2
  have K2 := Lib.hid l1
  clear l1 l3 hb1 hf2 HB
  have hst := store_zero K2.out l2
  cases b
  · clear hbt
    go_wp2_with fail
    refine bodyPost_ret (v := .tuple #[.agg Try.zeroCells60, .bool false]) ?_ rfl ⟨_, by rw [decide_eq_false FC.out], zeroB_size, zeroB_one, fun h => absurd h FC.out, below_setRow B.out (by omega) _⟩
    exact results_row_tmp (p := 4) (u := 5) (ty := 60) rfl _ _ w.heap.size 60 _ (0, 0) _ rfl (setRow_heap _ _ _ _ _ _ K2.out) Try.underlying60 rfl (size_board.trans (by rw [zeroB_size]))
  · have t1 := hbt rfl
    clear hbt
    go_wp2_with fail
    refine bodyPost_ret (v := .tuple #[.agg Try.zeroCells60, .bool false]) ?_ rfl ⟨_, by rw [decide_eq_false FC.out], zeroB_size, zeroB_one, fun h => absurd h FC.out, below_setRow B.out (by omega) _⟩
    exact results_row_tmp (p := 4) (u := 5) (ty := 60) rfl _ _ w.heap.size 60 _ (0, 0) _ rfl (setRow_heap _ _ _ _ _ _ K2.out) Try.underlying60 rfl (size_board.trans (by rw [zeroB_size]))

set_option maxHeartbeats 4000000 in
set_option maxRecDepth 100000 in
theorem boardOf_yes (v u : Value) (l : List Quad) (s : List Int) (w : World) (h : Quads w v l) (hu : Ints w u s) (hv : ValidL l) (hl : s.length = l.length) :
    Calls Try.prog 53 #[v, u] w fun e w' => ∃ C, e = .returned (.tuple #[.agg C, .bool (decide (SetOk l s))]) ∧ C.size = 100 ∧ C.all (·.oneCell') = true ∧ (SetOk l s → C = (bdL (planUp l s l.length)).toArray) ∧ Below w.heap.size w w' := by
  obtain ⟨a, cap, rfl, h1, h2, h3⟩ := id h
  obtain ⟨a', cap', rfl, h1', h2', h3'⟩ := id hu
  have H := Lib.hid h.quadsB
  have HU := Lib.hid hu.intsB
  clear h hu h3 h3'
  have HV := Lib.hid hv
  have hl6 := hv.1
  have hvd : decide (ValidL l) = true := decide_eq_true hv
  have HVD := Lib.hid hvd
  have t1 : ((s.length : Int) != (l.length : Int)) = false := by rw [hl]; simp
  have HL := Lib.hid hl
  clear hv hvd hl
  go_enter Try.func53, Try.ntmps53
  go_wp2_with fail
  refine (LabelsValid_any _ l _ ((H.out.below (al (Below.refl _ _) _) (Nat.le_refl _)).quads (by simp))).mono ?_
  rintro e w1 ⟨rfl, hb1⟩
  rw [HVD.out]
  go_wp2_with fail
  refine (pointed_M _ l _ (H.out.below ((al (Below.refl _ _) _).trans (hb1.mono (by simp))) (Nat.le_refl _) |>.quads (by have := hb1.size; simp at this; omega)) HV.out.2).mono ?_
  rintro e w2 ⟨rfl, hb2⟩
  have s1 := hb1.size
  simp at s1
  have s2 := hb2.size
  obtain ⟨f2, hf2⟩ := row_zero w
  have R2 := Lib.hid ((hf2.of_block (w' := w1) (hb1.block _ (by simp))).of_block (w' := w2) (hb2.block _ (by omega)))
  have B := Lib.hid (((al (Below.refl w.heap.size w) _).trans (hb1.mono (by simp))).trans (hb2.mono (by omega)))
  obtain ⟨F, hF⟩ : ∃ F, F = w2.heap.size := ⟨_, rfl⟩
  have sF : w.heap.size + 1 ≤ F := by omega
  obtain ⟨C0, hC0⟩ : ∃ C, C = (bdL (mPts l)).toArray := ⟨_, rfl⟩
  rw [← hC0]
  have E0 := Lib.hid hC0
  have z2 : C0.size = 100 := by rw [hC0]; exact bdL_arr _
  have o0 : C0.all (·.oneCell') = true := by
    rw [hC0]; exact (Array.all_eq_true_iff_forall_mem.2 (fun x hx => bdL_one _ x (by simpa using hx)))
  have O0 := Lib.hid o0
  clear hb1 hb2 hf2 hC0 o0
  obtain ⟨f3, c3, m1, m2, m3⟩ := row_zero w2
  have K3 := Lib.hid m1
  clear m1 m3
  go_wp2_with (refine wpList_store_row rfl 60 _ _ rfl w2.heap.size C0 rfl rfl _ _ K3.out (size_board.trans (by rw [z2])) (by omega) O0.out ?_)
  have R3 : Hid (((w2.alloc (.cells Try.zeroCells60 60)).setRow F C0).rowIs F 60 100 fun j => .int .u8 (encI (planUp l s 0 j))) := by
    show World.rowIs _ _ _ _ _
    rw [hF]
    refine ⟨C0, setRow_heap _ _ _ _ _ _ K3.out, z2, fun i hi => ?_⟩
    rw [E0.out]
    simp [bdL_get _ i hi, planUp]
  rw [← hF]
  have HF := Lib.hid hF
  go_loopw [7, 8, 9, 10, 26] (fun _ _ _ _ i wr => ∃ k : Nat, k ≤ s.length ∧ i = .int .i64 k ∧ OkUp l s k ∧ (wr.rowIs F 60 100 fun j => .int .u8 (encI (planUp l s k j))) ∧ (∃ f, wr.rowIs w.heap.size 60 100 f) ∧ Below w.heap.size w wr) (fun _ _ _ _ i _ => s.length - (intOf i).toNat)
  case atStart =>
    refine ⟨0, Nat.zero_le _, rfl, trivial, R3.out, ?_, ?_⟩
    · obtain ⟨c, q1, q2, q3⟩ := R2.out
      exact ⟨f2, c, by rw [setRow_other _ _ _ _ (by omega)]; exact (heap_alloc_old w2 _ (by omega)).trans q1, q2, q3⟩
    · exact below_setRow (B.out.alloc (by omega) _) (by omega) _
  case round =>
    clear R2 R3 B E0 O0 K3 hF
    obtain ⟨k, hk, rfl, hok, hrow, hrow2, hbel⟩ := hrel
    have OK := Lib.hid hok
    have HR := Lib.hid hrow
    have HR2 := Lib.hid hrow2
    have HB := Lib.hid hbel
    have sF2 : F < wr.heap.size := hrow.lt
    have hs := hbel.size
    by_cases hlt : k < s.length
    · obtain ⟨_, _, he, _, _, h3⟩ := HU.out
      simp only [Value.slice.injEq] at he
      obtain ⟨rfl, _, rfl⟩ := he
      obtain ⟨b2, off2, rfl, hb2, hcell2⟩ := h3 (by omega)
      have c9 := (hbel.cell (p := ⟨b2, off2 + k, none⟩) hb2).trans (hcell2 k hlt)
      have hlk : k < l.length := by rw [← HL.out]; exact hlt
      obtain ⟨_, _, he, _, _, h3⟩ := H.out
      simp only [Value.slice.injEq] at he
      obtain ⟨rfl, _, rfl⟩ := he
      obtain ⟨b, off, rfl, hb, hcell⟩ := h3 (by omega)
      obtain ⟨c0, c1, c2', c3'⟩ := (hcell k hlk).below hbel hb
      have hq := (HV.out.2 k hlk).1
      obtain ⟨q, hq'⟩ : ∃ q, q = l[k]?.getD q0 := ⟨_, rfl⟩
      rw [← hq'] at c0 c1 c2' c3' hq
      obtain ⟨z, hz⟩ : ∃ z, z = s[k]?.getD 0 := ⟨_, rfl⟩
      rw [← hz] at c9
      have HQ := Lib.hid hq
      have HQE := Lib.hid hq'
      have HZ := Lib.hid hz
      have x1 : (k : Int) < (l.length : Int) := by omega
      have x2 : (k : Int) < (s.length : Int) := by omega
      have x3 : (0 : Int) ≤ (k : Int) := by omega
      clear hok hrow hrow2 hcell hcell2 h3 hq hq' hz
      by_cases hz1 : z = -1
      · subst hz1
        have PE : Hid (planUp l s (k + 1) = planUp l s k) := by show _ = _; rw [planUp, if_pos HZ.out.symm]
        have OE : Hid (OkUp l s (k + 1)) := ⟨OK.out, .inl HZ.out.symm⟩
        clear hbel
        go_wp2
        go_roundw
        case rel => exact ⟨k + 1, by omega, by go_num, OE.out, by rw [PE.out]; exact HR.out, HR2.out, HB.out⟩
        case measure => simp [intOf]; omega
      · have t3 : (z == (-1 : Int)) = false := by simpa using hz1
        have HZ1 := Lib.hid hz1
        have d0 := range_row HR.out
        have hu8 := Try.underlying60
        have hM1 := board_info (planUp l s k)
        obtain ⟨L0, hL0⟩ : ∃ L, L = bdL (planUp l s k) := ⟨_, rfl⟩
        rw [← hL0] at d0 hM1
        have HL0 := Lib.hid hL0
        clear hz1 hL0 hbel
        go_wp2
        have d : HB5 F b (off + k * 4) L0 q wr := ⟨d0, c0, c1, c2', c3'⟩
        have dd : HB5 F b (off + k * 4) L0 q wr.drew := d
        have dn : HB5 F b (off + k * 4) L0 q (wr.alloc (.cells Try.zeroCells60 60)).drew := held_new d
        have hbw : b < wr.heap.size := by omega
        go_region_held3 (fun w' => w'.rangeAt F 0 L0 ∧ w'.cell? ⟨b, off + k * 4, none⟩ = some (.int .i64 q.1) ∧ w'.cell? ⟨b, off + k * 4 + 1, none⟩ = some (.int .i64 q.2.1) ∧ w'.cell? ⟨b, off + k * 4 + 2, none⟩ = some (.int .i64 q.2.2.1) ∧ w'.cell? ⟨b, off + k * 4 + 3, none⟩ = some (.int .i64 q.2.2.2))
          (first | with_reducible exact dd | with_reducible exact dn | with_reducible exact r1 | with_reducible exact r2 | with_reducible exact r3 | fail)
          (first | (go_at_call 65; refine (signOf_any k _ (by omega)).mono ?_; rintro e w5 ⟨rfl, rfl⟩) | (go_at_call 64; refine (with_L L0 (planUp l s k) HL0.out q z ((k : Int) + 1) _ _ HQ.out (by omega) rfl).mono ?_; rintro e w5 ⟨cs, M', rfl, HCS, HM', hb5⟩; have i1 : (Try.prog.info? 60).map (·.size) = some cs.length := (by rw [HCS.out]; exact board_info M'); have i2 : cs.length = 100 := (by rw [HCS.out]; exact bdL_length M'); have i3 : ∀ v ∈ cs, v.oneCell' = true := (by rw [HCS.out]; exact bdL_one M'); (first | ((with_reducible refine next_a cs i2 d sF2 hbw hb5 ?_); intro r1 r2 tb LA) | ((with_reducible refine next_b cs i2 d sF2 hbw hb5 ?_); intro r1 r2 r3 tb LA) | fail)))
        all_goals
          rename_i hh
          have CI := Lib.hid i1
          have C100 : Hid (cs.toArray.size = 100) := by show _ = _; rw [List.size_toArray]; exact i2
          have C1S := Lib.hid (all_oneCell_toArray i3)
          clear hh r1 r2 tb i1 i2 i3 hb5 hu8 hM1
          try clear r3
        all_goals first
          | generalize (w5.alloc (.cells Try.zeroCells60 60)).setCells w5.heap.size 0 cs = WE at LA ⊢
          | generalize w5.setCells wr.heap.size 0 cs = WE at LA ⊢
        all_goals
          obtain ⟨hbW, hRg, hNB, hNB2⟩ := LA
          obtain ⟨cF, f1, f2', f3'⟩ := HR.out.of_block (hbW.block F sF2)
          obtain ⟨g4, cR, g1, g2, g3⟩ := HR2.out
          have KF := Lib.hid f1
          have KR := Lib.hid ((hbW.block w.heap.size (by omega)).trans g1)
          have HBW := Lib.hid (HB.out.trans (hbW.mono (by omega)))
          have RG := Lib.hid hRg
          have G3 := Lib.hid g3
          clear hbW hRg f1 f3' g1 g3 HR HR2 HB d dd dn d0
          by_cases hc : CanSet (planUp l s k) q z
          · rw [decide_eq_true hc]
            have HM := Lib.hid (HM'.out hc)
            have OE : Hid (OkUp l s (k + 1)) := ⟨OK.out, .inr (by rw [← HQE.out, ← HZ.out]; exact hc)⟩
            have PE : Hid (planUp l s (k + 1) = M') := by show _ = _; rw [planUp, if_neg (by rw [← HZ.out]; exact HZ1.out), ← HQE.out, ← HZ.out]; exact HM.out.symm
            clear hc HM'
            go_wp2_with (first | (refine wpList_load_mid rfl 60 _ rfl _ 0 rfl cs _ RG.out Try.underlying60 rfl CI.out ?_) | (refine wpList_store_row rfl 60 _ _ rfl F cs.toArray rfl rfl _ _ KF.out (size_board.trans (by rw [C100.out])) (by rw [f2', C100.out]) C1S.out ?_))
            go_roundw
            case rel =>
              refine ⟨k + 1, by omega, by go_num, OE.out, ?_, ⟨g4, cR, ?_, g2, G3.out⟩, below_setRow HBW.out (by omega) _⟩
              · rw [PE.out]; refine ⟨_, setRow_heap _ _ _ _ _ _ KF.out, C100.out, fun i hi => ?_⟩; rw [HCS.out]; simp [bdL_get M' i hi]
              · rw [setRow_other _ _ _ _ (by omega)]; exact KR.out
            case measure => simp [intOf]; omega
          · rw [decide_eq_false hc]
            have FC : Hid (¬ SetOk l s) := by
              intro h
              have h1 := okUp_less (k := k + 1) (s.length - (k + 1)) (by rw [show k + 1 + (s.length - (k + 1)) = l.length by rw [HL.out]; omega]; exact h.2.2)
              rcases h1.2 with h2 | h2
              · exact HZ1.out (by rw [HZ.out]; exact h2)
              · rw [← HQE.out, ← HZ.out] at h2; exact hc h2
            clear hc HM'
            have hst := store_zero KR.out g2
            go_wp2_with fail
            refine bodyPost_ret (v := .tuple #[.agg Try.zeroCells60, .bool false]) ?_ rfl ⟨_, by rw [decide_eq_false FC.out], zeroB_size, zeroB_one, fun h => absurd h FC.out, below_setRow HBW.out (by omega) _⟩
            exact results_row_tmp (p := 4) (u := 5) (ty := 60) rfl _ _ w.heap.size 60 _ (0, 0) _ rfl (setRow_heap _ _ _ _ _ _ KR.out) Try.underlying60 rfl (size_board.trans (by rw [zeroB_size]))
    · obtain rfl : k = s.length := by omega
      obtain ⟨c1, k1, k2, k3⟩ := HR.out
      obtain ⟨g2, c2, l1, l2, l3⟩ := HR2.out
      have OKS : Hid (SetOk l s) := ⟨HV.out, HL.out, by rw [← HL.out]; exact OK.out⟩
      have K1 := Lib.hid k1
      have K2 := Lib.hid l1
      have E1 : Hid (c1 = (bdL (planUp l s l.length)).toArray) := by show _ = _; rw [← HL.out]; exact arr_bdL k2 k3
      have ho : c1.all (·.oneCell') = true := by rw [E1.out]; exact all_oneCell_toArray (bdL_one _)
      have OC := Lib.hid ho
      clear k1 k3 l1 l3 ho HR HR2 hok hrow hrow2 hbel
      go_wp2_with (first | (refine wpList_load_row rfl 60 _ rfl F rfl _ c1 (0, 0) _ K1.out Try.underlying60 rfl (size_board.trans (by rw [k2])) ?_) | (refine wpList_store_row rfl 60 _ _ rfl w.heap.size c1 rfl rfl _ _ K2.out (size_board.trans (by rw [k2])) (by omega) OC.out ?_))
      refine bodyPost_ret (v := .tuple #[.agg c1, .bool true]) ?_ rfl ⟨c1, by rw [decide_eq_true OKS.out], k2, OC.out, fun _ => E1.out, below_setRow HB.out (by omega) _⟩
      exact results_row_tmp (p := 4) (u := 5) (ty := 60) rfl _ _ w.heap.size 60 c1 (0, 0) _ rfl (setRow_heap _ _ _ _ _ _ K2.out) Try.underlying60 rfl (size_board.trans (by rw [k2]))

theorem boardOf_any (v u : Value) (l : List Quad) (s : List Int) (w : World) (h : Quads w v l) (hu : Ints w u s) :
    Calls Try.prog 53 #[v, u] w fun e w' => ∃ C, e = .returned (.tuple #[.agg C, .bool (decide (SetOk l s))]) ∧ C.size = 100 ∧ C.all (·.oneCell') = true ∧ (SetOk l s → C = (bdL (planUp l s l.length)).toArray) ∧ Below w.heap.size w w' := by
  rcases Decidable.em (ValidL l ∧ s.length = l.length) with hv | hv
  · exact boardOf_yes v u l s w h hu hv.1 hv.2
  · exact boardOf_no v u l s w h hu hv

set_option maxHeartbeats 1000000 in
theorem SettingValid_any (v u : Value) (l : List Quad) (s : List Int) (w : World) (h : Quads w v l) (hu : Ints w u s) :
    Calls Try.prog 17 #[v, u] w fun e w' => e = .returned (.bool (decide (SetOk l s))) ∧ Below w.heap.size w w' := by
  obtain ⟨a, cap, rfl, h1, h2, h3⟩ := id h
  obtain ⟨a', cap', rfl, h1', h2', h3'⟩ := id hu
  have H := Lib.hid h
  have HU := Lib.hid hu
  clear h hu h3 h3'
  go_enter Try.func17, Try.ntmps17
  go_wp2_with fail
  refine (boardOf_any _ _ l s _ H.out HU.out).mono ?_
  rintro e w1 ⟨C, rfl, h100, h1s, hC, hb⟩
  have HB := Lib.hid hb
  have hst := store_arr (w := w1.alloc (.cells Try.zeroCells60 60)) (heap_alloc_new w1 _) zeroB_size h100 h1s
  clear hC hb h1s
  go_wp2_with fail
  go_ret
  exact ⟨rfl, below_setRow (HB.out.alloc HB.out.size _) HB.out.size _⟩

def sumW (l : List Quad) (s : List Int) (k : Nat) : Int := weightUp (fun q => q.2.2.2) l s k
def cntS (l : List Quad) (s : List Int) (k : Nat) : Int := weightUp (fun _ => 1) l s k
theorem sumW_bound {l : List Quad} (hl : ValidL l) (s : List Int) : ∀ k, k ≤ l.length → 0 ≤ sumW l s k ∧ sumW l s k ≤ 9 * (k : Int) ∧ 0 ≤ cntS l s k ∧ cntS l s k ≤ (k : Int) := by
  intro k
  induction k with
  | zero => intro _; simp [sumW, cntS, weightUp]
  | succ k ih =>
    intro hk
    obtain ⟨h1, h2, h3, h4⟩ := ih (by omega)
    have hw := (hl.2 k (by omega)).1.2.2.2.2.2.2
    simp only [sumW, cntS, weightUp] at h1 h2 h3 h4 ⊢
    split <;> omega

set_option maxHeartbeats 1000000 in
set_option maxRecDepth 100000 in
theorem weightOf_any (v u : Value) (l : List Quad) (s : List Int) (w : World) (h : Quads w v l) (hu : Ints w u s) (hv : ValidL l) (hl : s.length = l.length) :
    Calls Try.prog 57 #[v, u] w fun e w' => e = .returned (.tuple #[.int .i64 (sumW l s l.length), .int .i64 (cntS l s l.length)]) ∧ w = w' := by
  obtain ⟨a, cap, rfl, h1, h2, h3⟩ := h
  obtain ⟨a', cap', rfl, h1', h2', h3'⟩ := hu
  have H := Lib.hid h3
  have HU := Lib.hid h3'
  have HV := Lib.hid hv
  have HL := Lib.hid hl
  have hl6 := hv.1
  have hs6 : s.length ≤ 6 := by omega
  clear h3 h3' hv hl
  go_enter Try.func57, Try.ntmps57
  go_wp2
  go_loop [6, 7, 8, 9, 12] (fun x y _ _ i => ∃ k : Nat, k ≤ s.length ∧ i = .int .i64 k ∧ x = .int .i64 (sumW l s k) ∧ y = .int .i64 (cntS l s k)) (fun _ _ _ _ i => s.length - (intOf i).toNat)
  case atStart => exact ⟨0, Nat.zero_le _, rfl, rfl, rfl⟩
  case round =>
    obtain ⟨k, hk, rfl, rfl, rfl⟩ := hrel
    obtain ⟨b1, b2, b3, b4⟩ := sumW_bound HV.out s k (by rw [← HL.out]; exact hk)
    by_cases hlt : k < s.length
    · obtain ⟨b, off, rfl, hb, hcell⟩ := HU.out (by omega)
      have c0 := hcell k hlt
      have hlk : k < l.length := by rw [← HL.out]; exact hlt
      obtain ⟨b', off', rfl, hb', hcell'⟩ := H.out (by omega)
      obtain ⟨q0', q1, q2, q3⟩ := hcell' k hlk
      have hw := (HV.out.2 k hlk).1.2.2.2.2.2.2
      have SW : Hid (sumW l s (k + 1) = sumW l s k + if s[k]?.getD 0 = -1 then 0 else (l[k]?.getD q0).2.2.2) := rfl
      have SC : Hid (cntS l s (k + 1) = cntS l s k + if s[k]?.getD 0 = -1 then 0 else 1) := rfl
      obtain ⟨z, hz⟩ : ∃ z, z = s[k]?.getD 0 := ⟨_, rfl⟩
      obtain ⟨wt, hwt⟩ : ∃ z, z = (l[k]?.getD q0).2.2.2 := ⟨_, rfl⟩
      obtain ⟨x, hx⟩ : ∃ z, z = sumW l s k := ⟨_, rfl⟩
      obtain ⟨y, hy⟩ : ∃ z, z = cntS l s k := ⟨_, rfl⟩
      rw [← hz] at c0 SW SC
      rw [← hwt] at q3 hw SW
      rw [← hx] at b1 b2 SW ⊢
      rw [← hy] at b3 b4 SC ⊢
      have x1 : (k : Int) < (l.length : Int) := by omega
      have x3 : (0 : Int) ≤ (k : Int) := by omega
      clear hcell hcell' hz hwt hx hy q0' q1 q2
      by_cases hz1 : z = -1
      · subst hz1
        go_wp2
        go_round
        case rel => exact ⟨k + 1, by omega, by go_num, by rw [SW.out]; simp, by rw [SC.out]; simp⟩
        case measure => simp [intOf]; omega
      · have t1 : (z != (-1 : Int)) = true := by simpa using hz1
        have HZ := Lib.hid hz1
        clear hz1
        go_wp2
        go_round
        case rel => exact ⟨k + 1, by omega, by go_num, by rw [SW.out, if_neg HZ.out], by rw [SC.out, if_neg HZ.out]⟩
        case measure => simp [intOf]; omega
    · obtain rfl : k = s.length := by omega
      rw [HL.out]
      go_wp2
      go_ret2
      exact ⟨rfl, rfl⟩

/-- what SettingWeight hands back -/
def weightAll (l : List Quad) (s : List Int) : Int := if SetOk l s then sumW l s l.length else -1
set_option maxHeartbeats 1000000 in
theorem SettingWeight_any (v u : Value) (l : List Quad) (s : List Int) (w : World) (h : Quads w v l) (hu : Ints w u s) :
    Calls Try.prog 21 #[v, u] w fun e w' => e = .returned (.int .i64 (weightAll l s)) ∧ Below w.heap.size w w' := by
  obtain ⟨a, cap, rfl, h1, h2, h3⟩ := id h
  obtain ⟨a', cap', rfl, h1', h2', h3'⟩ := id hu
  have H := Lib.hid h.quadsB
  have HU := Lib.hid hu.intsB
  clear h hu h3 h3'
  by_cases hs : SetOk l s
  · have HS := Lib.hid hs
    have HW : Hid (weightAll l s = sumW l s l.length) := if_pos hs
    clear hs
    go_enter Try.func21, Try.ntmps21
    go_wp2_with fail
    refine (SettingValid_any _ _ l s _ (H.out.quads (Nat.le_refl _)) (HU.out.ints (Nat.le_refl _))).mono ?_
    rintro e w1 ⟨rfl, hb⟩
    have hs1 := hb.size
    have HB := Lib.hid hb
    clear hb
    rw [decide_eq_true HS.out]
    go_wp2_with fail
    refine (weightOf_any _ _ l s _ ((H.out.below HB.out (Nat.le_refl _)).quads hs1) ((HU.out.below HB.out (Nat.le_refl _)).ints hs1) HS.out.1 HS.out.2.1).mono ?_
    rintro e w2 ⟨rfl, rfl⟩
    go_wp2_with fail
    go_ret
    exact ⟨ret_int HW.out.symm, HB.out⟩
  · have HS := Lib.hid hs
    have HW : Hid (weightAll l s = -1) := if_neg hs
    clear hs
    go_enter Try.func21, Try.ntmps21
    go_wp2_with fail
    refine (SettingValid_any _ _ l s _ (H.out.quads (Nat.le_refl _)) (HU.out.ints (Nat.le_refl _))).mono ?_
    rintro e w1 ⟨rfl, hb⟩
    have HB := Lib.hid hb
    clear hb
    rw [decide_eq_false HS.out]
    go_wp2_with fail
    go_ret
    exact ⟨ret_int HW.out.symm, HB.out⟩
end Go.Proofs.Ytbpcjdhbbighgaa
