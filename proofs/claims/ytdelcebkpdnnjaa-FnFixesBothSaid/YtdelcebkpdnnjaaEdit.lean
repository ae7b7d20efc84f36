/-
  edited: the edition of a field. Conditions: a grid; the field's row reads as the grid.
-/
import Derived.Test.YtdelcebkpdnnjaaDoable
import Derived.Test.YtdelcebkpdnnjaaSeries
import Derived.Deep.DeepCutAuto
namespace Go.Proofs.Ytdelcebkpdnnjaa
open Go.RowKit Go.Deep Go.Sort BigFrame

/-- the cells of a series value -/
theorem serv_cons (f : Quad) (fs : List Quad) : serv (f :: fs) = .iface 109 (.agg #[.int .i64 f.1, .int .i64 f.2.1, .int .i64 f.2.2.1, .int .i64 f.2.2.2, serv fs]) := rfl
theorem serv_size (f : Quad) (fs : List Quad) : SizeOf.sizeOf (serv fs) < SizeOf.sizeOf (serv (f :: fs)) := by
  rw [serv_cons]; simp; omega

/-- what holds where the edition has been laid -/
def EdStart (w : World) (g : Rows) (N : Nat) (s6 : Value) (wx : World) : Prop :=
  ∃ F b cap m f, s6 = .pointer (some ⟨F, 0, none⟩) ∧ Box3 wx F (.int .i64 g.length) (.int .i64 (colsOf g)) (.slice (some ⟨b, 0, none⟩) N cap) ∧ w.heap.size + 2 ≤ F ∧ F < wx.heap.size ∧ F ≠ b ∧ w.heap.size + 2 ≤ b ∧
    wx.rowIs b 3 m f ∧ FldOk N cap m f (cellOf g) ∧ wx.rowIs (w.heap.size + 1) 64 3 (f3 (.int .i64 0) (.int .i64 0) (.slice none 0 0)) ∧ Below w.heap.size w wx

theorem edStart_after {w W0 w7 : World} {g : Rows} {N b cap m : Nat} {f : Nat → Value} (hb0 : Below w.heap.size w W0) (hz0 : W0.heap.size = w.heap.size + 2) (hr : W0.rowIs (w.heap.size + 1) 64 3 (f3 (.int .i64 0) (.int .i64 0) (.slice none 0 0)))
    (q1 : W0.drew.heap.size ≤ b) (q2 : w7.rowIs b 3 m f) (q3 : FldOk N cap m f (cellOf g)) (hb7 : Below W0.drew.heap.size W0.drew w7) :
    EdStart w g N (.pointer (some ⟨w7.heap.size, 0, none⟩)) (w7.alloc (.cells #[.int .i64 g.length, .int .i64 (colsOf g), .slice (some ⟨b, 0, none⟩) N cap] 64)) := by
  have z7 : W0.heap.size ≤ w7.heap.size := hb7.size
  have z8 : W0.heap.size ≤ b := q1
  have hlt := q2.lt
  refine ⟨w7.heap.size, b, cap, m, f, rfl, Box3.row (field_row w7 _ _ _), by omega, by simp, by omega, by omega, q2.alloc _, q3, ?_, (hb0.drew.trans (hb7.mono (by show w.heap.size ≤ W0.heap.size; omega))).alloc (by omega) _⟩
  exact (hr.drew.of_block (hb7.block _ (by show w.heap.size + 1 < W0.heap.size; omega))).alloc _
theorem edStart_before {w W0 w7 : World} {g : Rows} {N b cap m : Nat} {f : Nat → Value} (hb0 : Below w.heap.size w W0) (hz0 : W0.heap.size = w.heap.size + 2) (hr : W0.rowIs (w.heap.size + 1) 64 3 (f3 (.int .i64 0) (.int .i64 0) (.slice none 0 0)))
    (hF : w7.rowIs (w.heap.size + 2) 64 3 (f3 (.int .i64 0) (.int .i64 0) (.slice none 0 0)))
    (q1 : (W0.alloc (.cells #[.int .i64 0, .int .i64 0, .slice none 0 0] 64)).drew.heap.size ≤ b) (q2 : w7.rowIs b 3 m f) (q3 : FldOk N cap m f (cellOf g)) (hb7 : Below (W0.alloc (.cells #[.int .i64 0, .int .i64 0, .slice none 0 0] 64)).drew.heap.size (W0.alloc (.cells #[.int .i64 0, .int .i64 0, .slice none 0 0] 64)).drew w7) :
    EdStart w g N (.pointer (some ⟨w.heap.size + 2, 0, none⟩)) (((w7.setCell ⟨w.heap.size + 2, 0, none⟩ (.int .i64 g.length)).setCell ⟨w.heap.size + 2, 1, none⟩ (.int .i64 (colsOf g))).setCell ⟨w.heap.size + 2, 2, none⟩ (.slice (some ⟨b, 0, none⟩) N cap)) := by
  have z7 : W0.heap.size + 1 ≤ w7.heap.size := by have := hb7.size; rw [show (W0.alloc (.cells #[.int .i64 0, .int .i64 0, .slice none 0 0] 64)).drew.heap.size = W0.heap.size + 1 from by show (W0.alloc _).heap.size = _; simp] at this; exact this
  have z8 : W0.heap.size + 1 ≤ b := by rw [show (W0.alloc (.cells #[.int .i64 0, .int .i64 0, .slice none 0 0] 64)).drew.heap.size = W0.heap.size + 1 from by show (W0.alloc _).heap.size = _; simp] at q1; exact q1
  have hlt := q2.lt
  have hB7 : Below w.heap.size w w7 := ((hb0.alloc (by omega) _).drew).trans (hb7.mono (by show w.heap.size ≤ (W0.alloc _).heap.size; simp; omega))
  have hbx := Box3.row (((hF.set 0 (.int .i64 g.length)).set 1 (.int .i64 (colsOf g))).set 2 (.slice (some ⟨b, 0, none⟩) N cap) |>.congr (g := f3 (.int .i64 g.length) (.int .i64 (colsOf g)) (.slice (some ⟨b, 0, none⟩) N cap)) (fun i hi => by
    match i, hi with
    | 0, _ => rfl
    | 1, _ => rfl
    | 2, _ => rfl))
  have hrw : w7.rowIs (w.heap.size + 1) 64 3 (f3 (.int .i64 0) (.int .i64 0) (.slice none 0 0)) := ((hr.alloc (.cells #[.int .i64 0, .int .i64 0, .slice none 0 0] 64)).drew).of_block (hb7.block _ (by show w.heap.size + 1 < (W0.alloc _).heap.size; simp; omega))
  refine ⟨w.heap.size + 2, b, cap, m, f, rfl, hbx, by omega, by simp [World.setCell]; omega, by omega, by omega, ?_, q3, ?_, ((hB7.setCell (by simp) _).setCell (by simp) _).setCell (by simp) _⟩
  · exact ((q2.setOther (a := ⟨w.heap.size + 2, 0, none⟩) (by show b ≠ w.heap.size + 2; omega) _).setOther (a := ⟨w.heap.size + 2, 1, none⟩) (by show b ≠ w.heap.size + 2; omega) _).setOther (a := ⟨w.heap.size + 2, 2, none⟩) (by show b ≠ w.heap.size + 2; omega) _
  · exact ((hrw.setOther (a := ⟨w.heap.size + 2, 0, none⟩) (by simp) _).setOther (a := ⟨w.heap.size + 2, 1, none⟩) (by simp) _).setOther (a := ⟨w.heap.size + 2, 2, none⟩) (by simp) _
/-- what holds at the head of the loop over a series -/
def EdLoop (w : World) (g : Rows) (l : List Quad) (N F b cap m : Nat) (s : Value) (wr : World) : Prop :=
  ∃ k f, k ≤ l.length ∧ s = serv (l.drop k) ∧ CanUp g l k ∧ Box3 wr F (.int .i64 g.length) (.int .i64 (colsOf g)) (.slice (some ⟨b, 0, none⟩) N cap) ∧ F < wr.heap.size ∧
    wr.rowIs b 3 m f ∧ FldOk N cap m f (cellOf (doneUp g l k)) ∧ wr.rowIs (w.heap.size + 1) 64 3 (f3 (.int .i64 0) (.int .i64 0) (.slice none 0 0)) ∧ Below w.heap.size w wr

set_option maxHeartbeats 4000000 in
set_option maxRecDepth 100000 in
theorem edited_any (g : Rows) (l : List Quad) (a cap0 m0 : Nat) (f0 : Nat → Value) (w : World) (hg : GridOk g) (hr : w.rowIs a 3 m0 f0) (hfo : FldOk (g.length * colsOf g) cap0 m0 f0 (cellOf g)) :
    Calls Try.prog 79 #[fv g.length (colsOf g) (.slice (some ⟨a, 0, none⟩) (g.length * colsOf g) cap0), serv l] w fun e w' =>
      (CanUp g l l.length → ∃ b cap m f, e = .returned (.tuple #[fv g.length (colsOf g) (.slice (some ⟨b, 0, none⟩) (g.length * colsOf g) cap), .bool true]) ∧ w.heap.size ≤ b ∧ w'.rowIs b 3 m f ∧ FldOk (g.length * colsOf g) cap m f (cellOf (doneUp g l l.length))) ∧
      (¬ CanUp g l l.length → e = noField) ∧ Below w.heap.size w w' := by
  obtain ⟨N, hN⟩ : ∃ N, N = g.length * colsOf g := ⟨_, rfl⟩
  rw [← hN] at hfo ⊢
  have hN1 : 1 ≤ N := by rw [hN]; exact Nat.mul_pos hg.1 hg.2.2.1
  have hN2 : N ≤ 49 := by rw [hN]; exact small_cells hg
  have HN := Lib.hid hN
  have HG := Lib.hid hg
  have HFO := Lib.hid hfo
  have HR := Lib.hid hr
  clear hN hg hfo hr
  have f1 := Box3.row (field_row w (.int .i64 g.length) (.int .i64 (colsOf g)) (.slice (some ⟨a, 0, none⟩) N cap0))
  have CI : Hid (∀ W, Below w.heap.size w W → Calls Try.prog 95 #[.slice (some ⟨a, 0, none⟩) N cap0] W fun e w' => ∃ b cap m f, e = .returned (.slice (some ⟨b, 0, none⟩) N cap) ∧ W.heap.size ≤ b ∧ w'.rowIs b 3 m f ∧ FldOk N cap m f (cellOf g) ∧ Below W.heap.size W w') := fun W hW => by
    have hI := (ints_of_part HR.out HFO.out).intsB.below hW (Nat.le_refl _)
    refine (CloneI_any _ _ W (hI.ints hW.size) (by simp; omega)).mono ?_
    rintro e w' ⟨v', rfl, h1, hb⟩
    rcases h1 with ⟨h1, _⟩ | h1
    · exfalso
      have : ((List.range N).map (cellOf g)).length = 0 := by rw [h1]; rfl
      simp at this; omega
    · rw [show ((List.range N).map (cellOf g)).length = N by simp] at h1
      obtain ⟨b, cap, m, f, rfl, k1, k2, k3⟩ := row_of_ownsRow hN1 h1
      exact ⟨b, cap, m, f, rfl, k1, k2, k3, hb⟩
  go_enter Try.func79, Try.ntmps79
  go_upto_region 1 with fail
  obtain ⟨W0, hW0⟩ : ∃ W0, W0 = (w.alloc (.cells #[.int .i64 g.length, .int .i64 (colsOf g), .slice (some ⟨a, 0, none⟩) N cap0] 64)).alloc (.cells #[.int .i64 0, .int .i64 0, .slice none 0 0] 64) := ⟨_, rfl⟩
  have HB0 : Hid (Below w.heap.size w W0) := by rw [hW0]; exact ((Below.refl w.heap.size w).alloc (Nat.le_refl _) _).alloc (by simp) _
  have hz0 : W0.heap.size = w.heap.size + 2 := by rw [hW0]; simp
  have hk : Box3 W0 w.heap.size (.int .i64 g.length) (.int .i64 (colsOf g)) (.slice (some ⟨a, 0, none⟩) N cap0) := by
    rw [hW0]
    exact ⟨(World.cell?_alloc_old _ _ _ (by simp)).trans f1.1, (World.cell?_alloc_old _ _ _ (by simp)).trans f1.2.1, (World.cell?_alloc_old _ _ _ (by simp)).trans f1.2.2⟩
  have HZ : Hid (W0.rowIs (w.heap.size + 1) 64 3 (f3 (.int .i64 0) (.int .i64 0) (.slice none 0 0))) := by
    rw [hW0]
    have := field_row (w.alloc (.cells #[.int .i64 g.length, .int .i64 (colsOf g), .slice (some ⟨a, 0, none⟩) N cap0] 64)) (.int .i64 0) (.int .i64 0) (.slice none 0 0)
    rw [World.size_alloc] at this
    exact this
  rw [← hW0]
  obtain ⟨k0, k1, k2⟩ := hk
  clear hW0 f1
  have HZ0 := Lib.hid hz0
  have HFZ : Hid (∀ w7, Below (W0.alloc (.cells #[.int .i64 0, .int .i64 0, .slice none 0 0] 64)).drew.heap.size (W0.alloc (.cells #[.int .i64 0, .int .i64 0, .slice none 0 0] 64)).drew w7 → w7.rowIs (w.heap.size + 2) 64 3 (f3 (.int .i64 0) (.int .i64 0) (.slice none 0 0))) := fun w7 hb => by
    have := (field_row W0 (.int .i64 0) (.int .i64 0) (.slice none 0 0)).drew
    rw [hz0] at this
    exact this.of_block (hb.block _ (by show w.heap.size + 2 < (W0.alloc _).heap.size; simp; omega))
  go_cut [6] (fun s6 wx => EdStart w g N s6 wx)
  case first =>
    go_region_held3 (fun w' => w'.cell? ⟨w.heap.size, 0, none⟩ = some (.int .i64 g.length) ∧ w'.cell? ⟨w.heap.size, 1, none⟩ = some (.int .i64 (colsOf g)) ∧ w'.cell? ⟨w.heap.size, 2, none⟩ = some (.slice (some ⟨a, 0, none⟩) N cap0))
      (first | exact ⟨k0, k1, k2⟩ | exact ⟨g0, g1, g2⟩ | go_keep)
      (first | (go_at_call 95; (with_reducible refine (CI.out _ HB0.out.drew).mono ?_); rintro e w7 ⟨b, cap, m, f, rfl, q1, q2, q3, hb7⟩; have g0 := (hb7.cell (p := ⟨w.heap.size, 0, none⟩) (by show w.heap.size < W0.heap.size; omega)).trans k0; have g1 := (hb7.cell (p := ⟨w.heap.size, 1, none⟩) (by show w.heap.size < W0.heap.size; omega)).trans k1; have g2 := (hb7.cell (p := ⟨w.heap.size, 2, none⟩) (by show w.heap.size < W0.heap.size; omega)).trans k2; have Q := Lib.hid (And.intro q1 (And.intro q2 (And.intro q3 hb7)))) | (go_at_call 95; (with_reducible refine (CI.out _ (HB0.out.alloc (by omega) _).drew).mono ?_); rintro e w7 ⟨b, cap, m, f, rfl, q1, q2, q3, hb7⟩; have g0 : w7.cell? ⟨w.heap.size, 0, none⟩ = _ := (hb7.cell (p := ⟨w.heap.size, 0, none⟩) (by show w.heap.size < (W0.alloc _).heap.size; simp; omega)).trans ((World.cell?_alloc_old W0 _ ⟨w.heap.size, 0, none⟩ (by show w.heap.size ≠ W0.heap.size; omega)).trans k0); have g1 : w7.cell? ⟨w.heap.size, 1, none⟩ = _ := (hb7.cell (p := ⟨w.heap.size, 1, none⟩) (by show w.heap.size < (W0.alloc _).heap.size; simp; omega)).trans ((World.cell?_alloc_old W0 _ ⟨w.heap.size, 1, none⟩ (by show w.heap.size ≠ W0.heap.size; omega)).trans k1); have g2 : w7.cell? ⟨w.heap.size, 2, none⟩ = _ := (hb7.cell (p := ⟨w.heap.size, 2, none⟩) (by show w.heap.size < (W0.alloc _).heap.size; simp; omega)).trans ((World.cell?_alloc_old W0 _ ⟨w.heap.size, 2, none⟩ (by show w.heap.size ≠ W0.heap.size; omega)).trans k2); have HF7 := HFZ.out w7 hb7; have y0 := HF7.cell (i := 0) (by decide); have y1 := HF7.cell (i := 1) (by decide); have y2 := HF7.cell (i := 2) (by decide); have x0 := HF7.frozen 0; have x1 := HF7.frozen 1; have x2 := HF7.frozen 2; have HF := Lib.hid HF7; clear HF7; have Q := Lib.hid (And.intro q1 (And.intro q2 (And.intro q3 hb7)))) | fail)
    all_goals (go_wp2_with fail)
    all_goals go_meet
    all_goals first
      | exact edStart_after HB0.out HZ0.out HZ.out Q.out.1 Q.out.2.1 Q.out.2.2.1 Q.out.2.2.2
      | exact edStart_before HB0.out HZ0.out HZ.out HF.out Q.out.1 Q.out.2.1 Q.out.2.2.1 Q.out.2.2.2
  case rest =>
    obtain ⟨F, b, cap, m, f, rfl, hbox, hF1, hF2, hFb, hb1, hrow, hfo, hzr, hbel⟩ := hcut
    have as1 : ∀ v w, (Instr.typeAssert (.iface 109 v) 94 109 true).run Try.prog w = .ok (.tuple #[v, .bool true]) w := fun _ _ => by kernel_rfl
    have as2 : ∀ v w, (Instr.typeAssert (.iface 112 v) 94 109 true).run Try.prog w = .ok (.tuple #[.agg #[.int .i64 0, .int .i64 0, .int .i64 0, .int .i64 0, .nilIface], .bool false]) w := fun _ _ => by kernel_rfl
    have as3 : ∀ v w, (Instr.typeAssert (.iface 112 v) 94 112 true).run Try.prog w = .ok (.tuple #[v, .bool true]) w := fun _ _ => by kernel_rfl
    clear k0 k1 k2 hz0
    go_wp2_with fail
    go_loopw [1] (fun s wr => EdLoop w g l N F b cap m s wr) (fun s _ => SizeOf.sizeOf s)
    case atStart => exact ⟨0, f, Nat.zero_le _, rfl, (fun j hj => absurd hj (Nat.not_lt_zero _)), hbox, hF2, hrow, by rw [doneUp_zero]; exact hfo, hzr, hbel⟩
    case round =>
      obtain ⟨k, fk, hk, rfl, hcan, hbx, hFw, hrk, hfk, hzk, hbk⟩ := hrel
      by_cases hlt : k < l.length
      · obtain ⟨R, C, O, V, hq⟩ : ∃ R C O V, (R, C, O, V) = l[k]?.getD q0 := ⟨_, _, _, _, rfl⟩
        have hd : l.drop k = (R, C, O, V) :: l.drop (k + 1) := by rw [hq, getQ_eq hlt]; exact List.drop_eq_getElem_cons hlt
        obtain ⟨T, u, hu⟩ := serv_iface (l.drop (k + 1))
        have hsv : serv (l.drop k) = .iface 109 (.agg #[.int .i64 R, .int .i64 C, .int .i64 O, .int .i64 V, .iface T u]) := by rw [hd, serv_cons, hu]
        have HQ := Lib.hid hq
        have HU := Lib.hid hu
        have HSZ := Lib.hid (show SizeOf.sizeOf (serv (l.drop (k + 1))) < SizeOf.sizeOf (serv (l.drop k)) by rw [hd]; exact serv_size _ _)
        have HCAN := Lib.hid hcan
        have HBX := Lib.hid hbx
        have HRK := Lib.hid hrk
        have HFK := Lib.hid hfk
        have HZK := Lib.hid hzk
        have HBK := Lib.hid hbk
        obtain ⟨k0, k1, k2⟩ := hbx
        rw [hsv]
        rw [hsv] at HSZ
        clear hq hd hu hsv hcan hrk hfk hzk hbk
        go_wp2_with fail
        obtain ⟨H, hH⟩ : ∃ H, H = wr.heap.size := ⟨_, rfl⟩
        obtain ⟨W1, hW1⟩ : ∃ W1, W1 = wr.alloc (.cells #[.int .i64 R, .int .i64 C, .int .i64 O, .int .i64 V, .iface T u] 109) := ⟨_, rfl⟩
        have hg' := doneUp_grid HG.out k hk HCAN.out
        have CD : Hid (∀ W, W.rowIs b 3 m fk → Calls Try.prog 96 #[fv g.length (colsOf g) (.slice (some ⟨b, 0, none⟩) N cap), .agg #[.int .i64 R, .int .i64 C, .int .i64 O, .int .i64 V]] W fun e w' => e = .returned (.bool (decide (Can (doneUp g l k) (R, C, O, V)))) ∧ Below W.heap.size W w') := fun W h => by
          have := doable_any (doneUp g l k) b cap m fk R C O V W hg'.1 h (by rw [hg'.2.1, hg'.2.2, ← HN.out]; exact HFK.out)
          rw [hg'.2.1, hg'.2.2, ← HN.out] at this
          exact this
        have HG' := Lib.hid hg'
        have hW1s : W1.heap.size = H + 1 := by rw [hW1, hH]; simp
        have HR1 : Hid (W1.rowIs b 3 m fk) := by rw [hW1]; exact HRK.out.alloc _
        have HB1 : Hid (Box3 W1 F (.int .i64 g.length) (.int .i64 (colsOf g)) (.slice (some ⟨b, 0, none⟩) N cap)) := by rw [hW1]; exact HBX.out.block (Below.heap_alloc wr _ F hFw)
        have HZ1 : Hid (W1.rowIs (w.heap.size + 1) 64 3 (f3 (.int .i64 0) (.int .i64 0) (.slice none 0 0))) := by rw [hW1]; exact HZK.out.alloc _
        have HBK1 : Hid (Below w.heap.size w W1) := by rw [hW1]; exact HBK.out.alloc HBK.out.size _
        have HT1 : Hid (W1.heap[H]? = some (.cells #[.int .i64 R, .int .i64 C, .int .i64 O, .int .i64 V, .iface T u] 109 (0, 0))) := by rw [hW1, hH]; exact World.alloc_heap_new wr _
        have hFH : F < H := by rw [hH]; exact hFw
        have hbH : b < H := by rw [hH]; exact HRK.out.lt
        have hz1 : w.heap.size + 2 ≤ H := by omega
        rw [← hW1, ← hH]
        clear hg' hW1 hH k0 k1 k2
        refine (CD.out W1 HR1.out).mono ?_
        rintro e w1 ⟨rfl, hb1⟩
        have hz2 := hb1.size
        have HR2 := Lib.hid (HR1.out.of_block (hb1.block _ HR1.out.lt))
        have HB2 := Lib.hid (HB1.out.block (hb1.block F (by omega)))
        have HZ2 := Lib.hid (HZ1.out.of_block (hb1.block _ HZ1.out.lt))
        have HBK2 := Lib.hid (HBK1.out.trans (hb1.mono HBK1.out.size))
        have HT2 := Lib.hid ((hb1.block H (by omega)).trans HT1.out)
        clear hb1
        by_cases hc : Can (doneUp g l k) (R, C, O, V)
        · rw [decide_eq_true hc]
          have HC := Lib.hid hc
          have h1 : (0 : Int) ≤ R := hc.1
          have h2 : R < ((doneUp g l k).length : Int) := hc.2.1
          have h3 : (0 : Int) ≤ C := hc.2.2.1
          have h4 : C < (colsOf (doneUp g l k) : Int) := hc.2.2.2.1
          rw [HG'.out.2.1] at h2
          rw [HG'.out.2.2] at h4
          clear hc
          obtain ⟨i, rfl⟩ : ∃ i : Nat, R = (i : Int) := ⟨R.toNat, by omega⟩
          obtain ⟨j, rfl⟩ : ∃ j : Nat, C = (j : Int) := ⟨C.toNat, by omega⟩
          have hi : i < g.length := by omega
          have hj : j < colsOf g := by omega
          have hgl2 := HG.out.2.1
          have hca2 := HG.out.2.2.2.1
          have hidx := idx_lt hi hj
          rw [← HN.out] at hidx
          obtain ⟨n, hn⟩ : ∃ n, n = i * colsOf g + j := ⟨_, rfl⟩
          rw [← hn] at hidx
          have HNN := Lib.hid hn
          obtain ⟨k0, k1, k2⟩ := HB2.out
          have hT := HT2.out
          have t0 : w1.cell? ⟨H, 0, none⟩ = some (.int .i64 i) := by simp [World.cell?, hT]
          have t1 : w1.cell? ⟨H, 1, none⟩ = some (.int .i64 j) := by simp [World.cell?, hT]
          have t3 : w1.cell? ⟨H, 3, none⟩ = some (.int .i64 V) := by simp [World.cell?, hT]
          have T4 : Hid (w1.cell? ⟨H, 4, none⟩ = some (.iface T u)) := by show _ = _; simp [World.cell?, hT]
          have ix1 : (0 : Int) ≤ (n : Int) := by omega
          have ix2 : (n : Int) < (N : Int) := by exact_mod_cast hidx
          have hF1' : F < w1.heap.size := by omega
          have hH1' : H < w1.heap.size := by omega
          have hne2 : H ≠ b := by omega
          have hmm : n < m := by have := HFK.out.1; omega
          have CX : Hid (∀ W, Calls Try.prog 47 #[fv g.length (colsOf g) (.slice (some ⟨b, 0, none⟩) N cap), .int .i64 i, .int .i64 j] W fun e w' => e = .returned (.int .i64 n) ∧ Below W.heap.size W w') := fun W => index_any _ (colsOf g) i j n _ ⟨_, _, _, rfl⟩ W (by omega) (by omega) (by omega) HNN.out
          clear h1 h2 h3 h4 hT hn
          go_wp2_with fail
          go_region_held3 (fun w' => w'.cell? ⟨F, 0, none⟩ = some (.int .i64 g.length) ∧ w'.cell? ⟨F, 1, none⟩ = some (.int .i64 (colsOf g)) ∧ w'.cell? ⟨F, 2, none⟩ = some (.slice (some ⟨b, 0, none⟩) N cap) ∧ w'.cell? ⟨H, 0, none⟩ = some (.int .i64 i) ∧ w'.cell? ⟨H, 1, none⟩ = some (.int .i64 j) ∧ w'.cell? ⟨H, 3, none⟩ = some (.int .i64 V))
            (first | exact ⟨k0, k1, k2, t0, t1, t3⟩ | exact ⟨g0, g1, g2, g3, g4, g5⟩ | exact ⟨(World.cell?_of_block (blk_setCell_other _ _ _ _ hFb)).trans g0, (World.cell?_of_block (blk_setCell_other _ _ _ _ hFb)).trans g1, (World.cell?_of_block (blk_setCell_other _ _ _ _ hFb)).trans g2, (World.cell?_of_block (blk_setCell_other _ _ _ _ hne2)).trans g3, (World.cell?_of_block (blk_setCell_other _ _ _ _ hne2)).trans g4, (World.cell?_of_block (blk_setCell_other _ _ _ _ hne2)).trans g5⟩ | go_keep)
            (first | (go_at_call 47; (with_reducible refine (CX.out _).mono ?_); rintro e w7 ⟨rfl, hb7⟩; have g0 := (hb7.cell (p := ⟨F, 0, none⟩) hF1').trans k0; have g1 := (hb7.cell (p := ⟨F, 1, none⟩) hF1').trans k1; have g2 := (hb7.cell (p := ⟨F, 2, none⟩) hF1').trans k2; have g3 := (hb7.cell (p := ⟨H, 0, none⟩) hH1').trans t0; have g4 := (hb7.cell (p := ⟨H, 1, none⟩) hH1').trans t1; have g5 := (hb7.cell (p := ⟨H, 3, none⟩) hH1').trans t3; have HR7 := Lib.hid (HR2.out.drew.of_block (hb7.block _ HR2.out.lt)); have r1 := HR7.out.cell hmm; have r2 := HR7.out.frozen n; have HB7 := Lib.hid hb7) | fail)
          have z7 : w1.heap.size ≤ w7.heap.size := HB7.out.size
          have x4 : (w7.setCell ⟨b, n, none⟩ (.int .i64 V)).cell? ⟨H, 4, none⟩ = some (.iface T u) := (World.cell?_of_block (blk_setCell_other _ _ _ _ hne2)).trans ((HB7.out.cell (p := ⟨H, 4, none⟩) hH1').trans T4.out)
          have HR8 : Hid ((w7.setCell ⟨b, n, none⟩ (.int .i64 V)).rowIs b 3 m (fun x => if x = n then .int .i64 V else fk x)) := HR7.out.set _ _
          have HB8 : Hid (Box3 (w7.setCell ⟨b, n, none⟩ (.int .i64 V)) F (.int .i64 g.length) (.int .i64 (colsOf g)) (.slice (some ⟨b, 0, none⟩) N cap)) := Box3.other (p := ⟨b, n, none⟩) ⟨g0, g1, g2⟩ hFb (.int .i64 V)
          have HZ8 : Hid ((w7.setCell ⟨b, n, none⟩ (.int .i64 V)).rowIs (w.heap.size + 1) 64 3 (f3 (.int .i64 0) (.int .i64 0) (.slice none 0 0))) := (HZ2.out.drew.of_block (HB7.out.block _ HZ2.out.lt)).setOther (a := ⟨b, n, none⟩) (by show w.heap.size + 1 ≠ b; omega) _
          have HBK8 : Hid (Below w.heap.size w (w7.setCell ⟨b, n, none⟩ (.int .i64 V))) := (HBK2.out.drew.trans (HB7.out.mono HBK2.out.size)).setCell (p := ⟨b, n, none⟩) (by show w.heap.size ≤ b; omega) _
          have hs8 : F < (w7.setCell ⟨b, n, none⟩ (.int .i64 V)).heap.size := by simp [World.setCell]; omega
          have HFK8 : Hid (FldOk N cap m (fun x => if x = n then .int .i64 V else fk x) (cellOf (doneUp g l (k + 1)))) := by
            obtain ⟨a1, a2, a3, a4⟩ := HFK.out
            refine ⟨a1, a2, a3, fun x hx => ?_⟩
            have hg' := HG'.out
            rw [doneUp_succ hlt, ← HQ.out, put_cell hg'.1 HC.out (by rw [hg'.2.1, hg'.2.2, ← HN.out]; exact hx), hg'.2.2]
            show _ = Value.int .i64 (if x = i * colsOf g + j then V else _)
            rw [← HNN.out]
            by_cases e : x = n
            · simp [e]
            · simp [e, a4 x hx]
          have HCAN8 : Hid (CanUp g l (k + 1)) := canUp_succ HCAN.out (by rw [← HQ.out]; exact HC.out)
          obtain ⟨w8, hw8⟩ : ∃ w8, w8 = w7.setCell ⟨b, n, none⟩ (.int .i64 V) := ⟨_, rfl⟩
          rw [← hw8] at x4 HR8 HB8 HZ8 HBK8 hs8 ⊢
          clear hw8 k0 k1 k2 t0 t1 t3 g0 g1 g2 g3 g4 g5 r1 r2 hb7
          go_wp2_with fail
          go_roundw
          case rel => exact ⟨k + 1, _, by omega, HU.out.symm, HCAN8.out, HB8.out, hs8, HR8.out, HFK8.out, HZ8.out, HBK8.out⟩
          case measure => have := HSZ.out; rw [HU.out] at this; exact this
        · rw [decide_eq_false hc]
          have HNO : Hid (¬ CanUp g l l.length) := fun h => hc (by have := h k hlt; rw [← HQ.out] at this; exact this)
          have s0 := HZ2.out.cell (i := 0) (by decide)
          have s1 := HZ2.out.cell (i := 1) (by decide)
          have s2 := HZ2.out.cell (i := 2) (by decide)
          have u0 := HZ2.out.frozen 0
          have u1 := HZ2.out.frozen 1
          have u2 := HZ2.out.frozen 2
          clear hc
          go_wp2_with fail
          have r1 := ((HZ2.out.set 0 (.int .i64 0)).set 1 (.int .i64 0)).set 2 (.slice none 0 0)
          refine bodyPost_ret (v := .tuple #[fv 0 0 (.slice none 0 0), .bool false]) ?_ rfl ?_
          · rw [results_cell_tmp rfl]
            exact field_result r1 rfl rfl rfl _
          · exact ⟨fun h => (HNO.out h).elim, fun _ => rfl, ((HBK2.out.setCell (by simp) _).setCell (by simp) _).setCell (by simp) _⟩
      · obtain rfl : k = l.length := by omega
        have hsv : serv (l.drop l.length) = .iface 112 (.agg #[]) := by rw [List.drop_length]; rfl
        have HBX := Lib.hid hbx
        have HRK := Lib.hid hrk
        have HFK := Lib.hid hfk
        have HZK := Lib.hid hzk
        have HBK := Lib.hid hbk
        have HCAN := Lib.hid hcan
        have hz8 := hzk.alloc (.cells #[] 112)
        have HZ8 := Lib.hid hz8
        have HR8 := Lib.hid (hrk.alloc (.cells #[] 112))
        have HBK8 := Lib.hid (hbk.alloc hbk.size (.cells #[] 112))
        obtain ⟨k0, k1, k2⟩ := hbx.block (Below.heap_alloc wr (.cells #[] 112) F hFw)
        have s0 := hz8.cell (i := 0) (by decide)
        have s1 := hz8.cell (i := 1) (by decide)
        have s2 := hz8.cell (i := 2) (by decide)
        have u0 := hz8.frozen 0
        have u1 := hz8.frozen 1
        have u2 := hz8.frozen 2
        rw [hsv]
        clear hsv hcan hrk hfk hzk hbk hz8 hbx
        go_wp2_with fail
        have r1 := ((HZ8.out.set 0 (.int .i64 g.length)).set 1 (.int .i64 (colsOf g))).set 2 (.slice (some ⟨b, 0, none⟩) N cap)
        refine bodyPost_ret (v := .tuple #[fv g.length (colsOf g) (.slice (some ⟨b, 0, none⟩) N cap), .bool true]) ?_ rfl ?_
        · rw [results_cell_tmp rfl]
          exact field_result r1 rfl rfl rfl _
        · refine ⟨fun _ => ⟨b, cap, m, fk, rfl, by omega, ?_, HFK.out⟩, fun h => (h HCAN.out).elim, ((HBK8.out.setCell (by simp) _).setCell (by simp) _).setCell (by simp) _⟩
          exact ((HR8.out.setOther (a := ⟨w.heap.size + 1, 0, none⟩) (by show b ≠ w.heap.size + 1; omega) _).setOther (a := ⟨w.heap.size + 1, 1, none⟩) (by show b ≠ w.heap.size + 1; omega) _).setOther (a := ⟨w.heap.size + 1, 2, none⟩) (by show b ≠ w.heap.size + 1; omega) _
end Go.Proofs.Ytdelcebkpdnnjaa
