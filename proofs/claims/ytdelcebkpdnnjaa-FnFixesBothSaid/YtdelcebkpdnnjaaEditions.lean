/-
  editions: the field of lists and its edition. No condition but that the slices read as the lists, and a size.
-/
import Derived.Test.YtdelcebkpdnnjaaEdit
namespace Go.Proofs.Ytdelcebkpdnnjaa
open Go.RowKit Go.Deep Go.Sort BigFrame

abbrev zf : Nat → Value := f3 (.int .i64 0) (.int .i64 0) (.slice none 0 0)
/-- what a field of the edition is, if there is one -/
def EdOut (g : Rows) (l : List Quad) (N B : Nat) (W : World) (r c : Int) (ad : Option Addr) (n cap : Nat) : Prop :=
  CanUp g l l.length → r = g.length ∧ c = colsOf g ∧ n = N ∧ ∃ b m f, ad = some ⟨b, 0, none⟩ ∧ B ≤ b ∧ W.rowIs b 3 m f ∧ FldOk N cap m f (cellOf (doneUp g l l.length))
theorem edited_any2 (g : Rows) (l : List Quad) (a cap0 m0 : Nat) (f0 : Nat → Value) (w : World) (hg : GridOk g) (hr : w.rowIs a 3 m0 f0) (hfo : FldOk (g.length * colsOf g) cap0 m0 f0 (cellOf g)) :
    Calls Try.prog 79 #[fv g.length (colsOf g) (.slice (some ⟨a, 0, none⟩) (g.length * colsOf g) cap0), serv l] w fun e w' =>
      ∃ r c ad n cap, e = .returned (.tuple #[fv r c (.slice ad n cap), .bool (decide (CanUp g l l.length))]) ∧ EdOut g l (g.length * colsOf g) w.heap.size w' r c ad n cap ∧ Below w.heap.size w w' := by
  refine (edited_any g l a cap0 m0 f0 w hg hr hfo).mono fun e w' ⟨h1, h2, h3⟩ => ?_
  by_cases hc : CanUp g l l.length
  · obtain ⟨b, cap, m, f, he, hb, hrow, hf⟩ := h1 hc
    exact ⟨_, _, _, _, _, by rw [decide_eq_true hc]; exact he, fun _ => ⟨rfl, rfl, rfl, b, m, f, rfl, hb, hrow, hf⟩, h3⟩
  · exact ⟨_, _, _, _, _, by rw [decide_eq_false hc]; exact h2 hc, fun h => (hc h).elim, h3⟩

/-- what holds where both fields have been laid -/
def EdMid (w : World) (g : Rows) (l : List Quad) (N A F : Nat) (s8 s9 : Value) (wx : World) : Prop :=
  ∃ G r c ad n cap, s8 = .bool (decide (CanUp g l l.length)) ∧ s9 = .pointer (some ⟨G, 0, none⟩) ∧ Box3 wx G (.int .i64 r) (.int .i64 c) (.slice ad n cap) ∧ w.heap.size + 2 ≤ G ∧
    EdOut g l N (w.heap.size + 2) wx r c ad n cap ∧ Box3 wx F (.int .i64 g.length) (.int .i64 (colsOf g)) (.slice (some ⟨A, 0, none⟩) N N) ∧ wx.rowIs A 3 N (fun i => .int .i64 (cellOf g i)) ∧
    wx.rowIs w.heap.size 64 3 zf ∧ wx.rowIs (w.heap.size + 1) 64 3 zf ∧ Below w.heap.size w wx
theorem edMid_of {w W0 wx : World} {g : Rows} {l : List Quad} {N A F G : Nat} {r c : Int} {ad : Option Addr} {n cap : Nat} (hz0 : w.heap.size + 2 ≤ W0.heap.size) (hb0 : Below w.heap.size w W0)
    (hF : F < W0.heap.size) (hbF : Box3 W0 F (.int .i64 g.length) (.int .i64 (colsOf g)) (.slice (some ⟨A, 0, none⟩) N N)) (hA : W0.rowIs A 3 N (fun i => .int .i64 (cellOf g i)))
    (h0 : W0.rowIs w.heap.size 64 3 zf) (h1 : W0.rowIs (w.heap.size + 1) 64 3 zf) (hb : Below W0.heap.size W0 wx)
    (hG : W0.heap.size ≤ G) (hbx : Box3 wx G (.int .i64 r) (.int .i64 c) (.slice ad n cap)) (hE : EdOut g l N W0.heap.size wx r c ad n cap) :
    EdMid w g l N A F (.bool (decide (CanUp g l l.length))) (.pointer (some ⟨G, 0, none⟩)) wx := by
  refine ⟨G, r, c, ad, n, cap, rfl, rfl, hbx, by omega, fun hc => ?_, hbF.block (hb.block F hF), hA.of_block (hb.block _ hA.lt), h0.of_block (hb.block _ h0.lt), h1.of_block (hb.block _ h1.lt), hb0.trans (hb.mono (by omega))⟩
  obtain ⟨e1, e2, e3, b, m, f, e4, e5, e6, e7⟩ := hE hc
  exact ⟨e1, e2, e3, b, m, f, e4, by omega, e6, e7⟩
theorem EdOut.keep {g : Rows} {l : List Quad} {N B B' : Nat} {W W' : World} {r c : Int} {ad : Option Addr} {n cap : Nat} (h : EdOut g l N B W r c ad n cap) (hB : B' ≤ B) (hk : ∀ b, B ≤ b → b < W.heap.size → W'.heap[b]? = W.heap[b]?) : EdOut g l N B' W' r c ad n cap := fun hc => by
  obtain ⟨e1, e2, e3, b, m, f, e4, e5, e6, e7⟩ := h hc
  exact ⟨e1, e2, e3, b, m, f, e4, by omega, e6.of_block (hk b e5 e6.lt), e7⟩
/-- three stores into a box that was laid ahead -/
theorem three_sets {W w6 : World} {G : Nat} {x y z : Value} (hG : W.heap.size ≤ G) (hb : Below W.heap.size W w6) (hr : w6.rowIs G 64 3 zf) :
    Box3 (((w6.setCell ⟨G, 0, none⟩ x).setCell ⟨G, 1, none⟩ y).setCell ⟨G, 2, none⟩ z) G x y z ∧ Below W.heap.size W (((w6.setCell ⟨G, 0, none⟩ x).setCell ⟨G, 1, none⟩ y).setCell ⟨G, 2, none⟩ z) ∧
    ∀ b, b ≠ G → (((w6.setCell ⟨G, 0, none⟩ x).setCell ⟨G, 1, none⟩ y).setCell ⟨G, 2, none⟩ z).heap[b]? = w6.heap[b]? := by
  refine ⟨Box3.row (((hr.set 0 x).set 1 y).set 2 z |>.congr (g := f3 x y z) (fun i hi => by
    match i, hi with
    | 0, _ => rfl
    | 1, _ => rfl
    | 2, _ => rfl)), ((hb.setCell (p := ⟨G, 0, none⟩) hG _).setCell (p := ⟨G, 1, none⟩) hG _).setCell (p := ⟨G, 2, none⟩) hG _, fun b hne => ?_⟩
  rw [Below.heap_setCell _ _ _ _ (by simpa using hne), Below.heap_setCell _ _ _ _ (by simpa using hne), Below.heap_setCell _ _ _ _ (by simpa using hne)]

theorem three_far {w6 : World} {G F : Nat} {x y z : Value} (hne : F ≠ G) : (((w6.setCell ⟨G, 0, none⟩ x).setCell ⟨G, 1, none⟩ y).setCell ⟨G, 2, none⟩ z).heap[F]? = w6.heap[F]? := by
  rw [Below.heap_setCell _ _ _ _ (by simpa using hne), Below.heap_setCell _ _ _ _ (by simpa using hne), Below.heap_setCell _ _ _ _ (by simpa using hne)]
theorem three_cell {w6 : World} {G F i : Nat} {x y z : Value} (hne : F ≠ G) : (((w6.setCell ⟨G, 0, none⟩ x).setCell ⟨G, 1, none⟩ y).setCell ⟨G, 2, none⟩ z).cell? ⟨F, i, none⟩ = w6.cell? ⟨F, i, none⟩ := World.cell?_of_block (three_far hne)
/-- the three orders of the region that lays the edition -/
theorem edMid_1 {w W0 w5 w6 : World} {g : Rows} {l : List Quad} {N A F : Nat} {r c : Int} {ad : Option Addr} {n cap : Nat} (hz0 : w.heap.size + 2 ≤ W0.heap.size) (hb0 : Below w.heap.size w W0)
    (hF : F < W0.heap.size) (hbF : Box3 W0 F (.int .i64 g.length) (.int .i64 (colsOf g)) (.slice (some ⟨A, 0, none⟩) N N)) (hA : W0.rowIs A 3 N (fun i => .int .i64 (cellOf g i)))
    (h0 : W0.rowIs w.heap.size 64 3 zf) (h1 : W0.rowIs (w.heap.size + 1) 64 3 zf) {G : Nat} (hG : W0.heap.size ≤ G) (hb : Below W0.heap.size W0 w6) (hr : w6.rowIs G 64 3 zf) (hlt : G < w5.heap.size) (hz : W0.heap.size ≤ w5.heap.size)
    (hE : EdOut g l N w5.heap.size w6 r c ad n cap) :
    EdMid w g l N A F (.bool (decide (CanUp g l l.length))) (.pointer (some ⟨G, 0, none⟩)) (((w6.setCell ⟨G, 0, none⟩ (.int .i64 r)).setCell ⟨G, 1, none⟩ (.int .i64 c)).setCell ⟨G, 2, none⟩ (.slice ad n cap)) := by
  obtain ⟨q1, q2, q3⟩ := three_sets (x := .int .i64 r) (y := .int .i64 c) (z := .slice ad n cap) hG hb hr
  exact edMid_of hz0 hb0 hF hbF hA h0 h1 q2 hG q1 (hE.keep hz (fun b hb _ => q3 b (by omega)))
theorem edMid_3 {w W0 w5 w6 : World} {g : Rows} {l : List Quad} {N A F : Nat} {r c : Int} {ad : Option Addr} {n cap : Nat} (hz0 : w.heap.size + 2 ≤ W0.heap.size) (hb0 : Below w.heap.size w W0)
    (hF : F < W0.heap.size) (hbF : Box3 W0 F (.int .i64 g.length) (.int .i64 (colsOf g)) (.slice (some ⟨A, 0, none⟩) N N)) (hA : W0.rowIs A 3 N (fun i => .int .i64 (cellOf g i)))
    (h0 : W0.rowIs w.heap.size 64 3 zf) (h1 : W0.rowIs (w.heap.size + 1) 64 3 zf) (hb : Below W0.heap.size W0 w6) (hz : W0.heap.size ≤ w5.heap.size)
    (hE : EdOut g l N w5.heap.size w6 r c ad n cap) :
    EdMid w g l N A F (.bool (decide (CanUp g l l.length))) (.pointer (some ⟨w6.heap.size, 0, none⟩)) (w6.alloc (.cells #[.int .i64 r, .int .i64 c, .slice ad n cap] 64)) :=
  edMid_of hz0 hb0 hF hbF hA h0 h1 (hb.alloc hb.size _) hb.size (Box3.row (field_row w6 _ _ _)) (hE.keep hz (fun b _ hb => Below.heap_alloc w6 _ b hb))

set_option maxHeartbeats 4000000 in
set_option maxRecDepth 100000 in
theorem editions_go (vg vl : Value) (g : Rows) (l : List Quad) (w : World) (hG : Grid w vg g) (hL : Quads w vl l) (hg : GridOk g) (hl : l.length ≤ 60) :
    Calls Try.prog 46 #[vg, vl] w fun e w' =>
      (EdOk g l → ∃ a b cap m f, e = .returned (.tuple #[fv g.length (colsOf g) (.slice (some ⟨a, 0, none⟩) (g.length * colsOf g) (g.length * colsOf g)), fv g.length (colsOf g) (.slice (some ⟨b, 0, none⟩) (g.length * colsOf g) cap), .bool true]) ∧
        w.heap.size ≤ a ∧ w.heap.size ≤ b ∧ w'.rowIs a 3 (g.length * colsOf g) (fun i => .int .i64 (cellOf g i)) ∧ w'.rowIs b 3 m f ∧ FldOk (g.length * colsOf g) cap m f (cellOf (edition g l))) ∧
      (¬ EdOk g l → e = noPair) ∧ Below w.heap.size w w' := by
  have B0 := Lib.hid (((Below.refl w.heap.size w).alloc (Nat.le_refl _) (.cells #[.int .i64 0, .int .i64 0, .slice none 0 0] 64)).alloc (by simp) (.cells #[.int .i64 0, .int .i64 0, .slice none 0 0] 64))
  have HG := Lib.hid (show GridB w.heap.size w vg g from hG)
  have HL := Lib.hid hL.quadsB
  have C : Hid (∀ W, GridB w.heap.size W vg g → w.heap.size ≤ W.heap.size → _) := fun W h1 hz => fieldOf_yes vg g W (h1.grid hz) hg
  have HGO := Lib.hid hg
  obtain ⟨la, lc, rfl, _, _, _⟩ := hL
  obtain ⟨N, hN⟩ : ∃ N, N = g.length * colsOf g := ⟨_, rfl⟩
  rw [← hN] at C ⊢
  have HN := Lib.hid hN
  have t1 : decide ((60 : Int) < (l.length : Int)) = false := decide_eq_false (by omega)
  clear hN hG hg
  go_enter Try.func46, Try.ntmps46
  go_wp2_with fail
  refine (C.out _ (HG.out.below B0.out (Nat.le_refl _)) (by simp; omega)).mono ?_
  rintro e w1 ⟨A, rfl, hA1, hra, hbel⟩
  go_upto_region 4 with fail
  obtain ⟨W0, hW0⟩ : ∃ W0, W0 = w1.alloc (.cells #[.int .i64 g.length, .int .i64 (colsOf g), .slice (some ⟨A, 0, none⟩) N N] 64) := ⟨_, rfl⟩
  obtain ⟨F, hF⟩ : ∃ F, F = w1.heap.size := ⟨_, rfl⟩
  have hz1 : w.heap.size + 2 ≤ w1.heap.size := by have := hbel.size; simp at this; omega
  have hz0 : W0.heap.size = F + 1 := by rw [hW0, hF]; simp
  have HB0 : Hid (Below w.heap.size w W0) := by rw [hW0]; exact (B0.out.trans (hbel.mono (by simp; omega))).alloc (by omega) _
  have HBF : Hid (Box3 W0 F (.int .i64 g.length) (.int .i64 (colsOf g)) (.slice (some ⟨A, 0, none⟩) N N)) := by rw [hW0, hF]; exact Box3.row (field_row w1 _ _ _)
  have HRA : Hid (W0.rowIs A 3 N (fun i => .int .i64 (cellOf g i))) := by rw [hW0]; exact hra.alloc _
  have HR0 : Hid (W0.rowIs w.heap.size 64 3 zf) := by
    rw [hW0]
    have := (field_row w (.int .i64 0) (.int .i64 0) (.slice none 0 0)).alloc (.cells #[.int .i64 0, .int .i64 0, .slice none 0 0] 64)
    exact (this.of_block (hbel.block _ this.lt)).alloc _
  have HR1 : Hid (W0.rowIs (w.heap.size + 1) 64 3 zf) := by
    rw [hW0]
    have := field_row (w.alloc (.cells #[.int .i64 0, .int .i64 0, .slice none 0 0] 64)) (.int .i64 0) (.int .i64 0) (.slice none 0 0)
    rw [World.size_alloc] at this
    exact (this.of_block (hbel.block _ this.lt)).alloc _
  have CS : Hid (∀ W, Below W0.heap.size W0 W → Calls Try.prog 80 #[.slice la l.length lc] W fun e w' => e = .returned (serv l) ∧ Below W.heap.size W w') := fun W hW =>
    seriesOf_any _ l W ((HL.out.below (HB0.out.trans (hW.mono HB0.out.size)) (Nat.le_refl _)).quads (by have := HB0.out.size; have := hW.size; omega)) (by omega)
  have CE : Hid (∀ W, Below W0.heap.size W0 W → Calls Try.prog 79 #[fv g.length (colsOf g) (.slice (some ⟨A, 0, none⟩) N N), serv l] W fun e w' => ∃ r c ad n cap, e = .returned (.tuple #[fv r c (.slice ad n cap), .bool (decide (CanUp g l l.length))]) ∧ EdOut g l N W.heap.size w' r c ad n cap ∧ Below W.heap.size W w') := fun W hW => by
    have hs := small_cells HGO.out
    have := edited_any2 g l A N N (fun i => .int .i64 (cellOf g i)) W HGO.out (HRA.out.of_block (hW.block _ HRA.out.lt)) ⟨by rw [HN.out]; exact Nat.le_refl _, by rw [HN.out]; exact Nat.le_refl _, by rw [HN.out]; omega, fun _ _ => rfl⟩
    rw [← HN.out] at this
    exact this
  have hFW : F < W0.heap.size := by omega
  have hz2 : w.heap.size + 2 ≤ W0.heap.size := by omega
  obtain ⟨k0, k1, k2⟩ := HBF.out
  obtain ⟨S, hS⟩ : ∃ S, S = serv l := ⟨_, rfl⟩
  rw [← hS] at CS CE
  rw [← hW0, ← hF]
  clear hW0 hra hbel C B0 hS
  have HFX := Lib.hid hF
  clear hF
  clear hz0
  go_cut [8, 9] (fun s8 s9 wx => EdMid w g l N A F s8 s9 wx)
  case first =>
    have HZA : Hid ((W0.alloc (.cells #[.int .i64 0, .int .i64 0, .slice none 0 0] 64)).drew.rowIs W0.heap.size 64 3 zf) := (field_row W0 _ _ _).drew
    have HBA : Hid (Below W0.heap.size W0 (W0.alloc (.cells #[.int .i64 0, .int .i64 0, .slice none 0 0] 64)).drew) := ((Below.refl W0.heap.size W0).alloc (Nat.le_refl _) _).drew
    have hza : (W0.alloc (.cells #[.int .i64 0, .int .i64 0, .slice none 0 0] 64)).drew.heap.size = W0.heap.size + 1 := by show (W0.alloc _).heap.size = _; simp
    have HZS := Lib.hid hza
    clear hza
    go_region_held3 (fun w' => w'.cell? ⟨F, 0, none⟩ = some (.int .i64 g.length) ∧ w'.cell? ⟨F, 1, none⟩ = some (.int .i64 (colsOf g)) ∧ w'.cell? ⟨F, 2, none⟩ = some (.slice (some ⟨A, 0, none⟩) N N))
      (first | exact ⟨k0, k1, k2⟩ | exact ⟨g0, g1, g2⟩ | exact ⟨e0, e1, e2⟩ | with_reducible exact ⟨(three_cell (by omega)).trans e0, (three_cell (by omega)).trans e1, (three_cell (by omega)).trans e2⟩ | go_keep)
      (first
        | (go_at_call 80; (with_reducible refine (CS.out _ ((Below.refl W0.heap.size W0).drew)).mono ?_); rintro e w5 ⟨rfl, hb5⟩; have P5 := Lib.hid ((Below.refl W0.heap.size W0).drew.trans hb5); obtain ⟨g0, g1, g2⟩ := HBF.out.block (P5.out.block F hFW); have z5 : W0.heap.size ≤ w5.heap.size := P5.out.size; clear hb5)
        | (go_at_call 80; (with_reducible refine (CS.out _ HBA.out).mono ?_); rintro e w5 ⟨rfl, hb5⟩; have P5 := Lib.hid (HBA.out.trans (hb5.mono HBA.out.size)); obtain ⟨g0, g1, g2⟩ := HBF.out.block (P5.out.block F hFW); have z5 : W0.heap.size + 1 ≤ w5.heap.size := (by have := hb5.size; have := HZS.out; omega); have HZ5 := Lib.hid (HZA.out.of_block (hb5.block _ HZA.out.lt)); clear hb5)
        | (go_at_call 79; have hx := HZ5.out; (with_reducible refine (CE.out _ P5.out).mono ?_); rintro e w6 ⟨r, c, ad, n, cap, rfl, hE, hb6⟩; have P6 := Lib.hid (P5.out.trans (hb6.mono P5.out.size)); have HZ6 := Lib.hid (hx.of_block (hb6.block _ hx.lt)); obtain ⟨e0, e1, e2⟩ := HBF.out.block (P6.out.block F hFW); have E6 := Lib.hid hE; have x0 := HZ6.out.cell (i := 0) (by decide); have x1 := HZ6.out.cell (i := 1) (by decide); have x2 := HZ6.out.cell (i := 2) (by decide); have x3 := HZ6.out.frozen 0; have x4 := HZ6.out.frozen 1; have x5 := HZ6.out.frozen 2; clear hb6 hE hx)
        | (go_at_call 79; (with_reducible refine (CE.out _ P5.out).mono ?_); rintro e w6 ⟨r, c, ad, n, cap, rfl, hE, hb6⟩; have P6 := Lib.hid (P5.out.trans (hb6.mono P5.out.size)); obtain ⟨e0, e1, e2⟩ := HBF.out.block (P6.out.block F hFW); have E6 := Lib.hid hE; clear hb6 hE)
        | (go_at_call 79; (with_reducible refine (CE.out _ (P5.out.alloc P5.out.size _)).mono ?_); rintro e w6 ⟨r, c, ad, n, cap, rfl, hE, hb6⟩; have P6 := Lib.hid ((P5.out.alloc P5.out.size (.cells #[.int .i64 0, .int .i64 0, .slice none 0 0] 64)).trans (hb6.mono (by simp; omega))); have HZ6 := Lib.hid ((field_row w5 (.int .i64 0) (.int .i64 0) (.slice none 0 0)).of_block (hb6.block _ (by simp))); obtain ⟨e0, e1, e2⟩ := HBF.out.block (P6.out.block F hFW); have E6 := Lib.hid hE; have x0 := HZ6.out.cell (i := 0) (by decide); have x1 := HZ6.out.cell (i := 1) (by decide); have x2 := HZ6.out.cell (i := 2) (by decide); have x3 := HZ6.out.frozen 0; have x4 := HZ6.out.frozen 1; have x5 := HZ6.out.frozen 2; clear hb6 hE)
        | fail)
    all_goals (go_wp2_with fail)
    all_goals go_meet
    all_goals first
      | with_reducible exact edMid_3 (w5 := w5) hz2 HB0.out hFW HBF.out HRA.out HR0.out HR1.out P6.out z5 E6.out
      | with_reducible exact edMid_1 (w5 := w5) hz2 HB0.out hFW HBF.out HRA.out HR0.out HR1.out (Nat.le_refl _) P6.out HZ6.out (by omega) (by omega) E6.out
      | with_reducible exact edMid_1 (w5 := w5.alloc (.cells #[.int .i64 0, .int .i64 0, .slice none 0 0] 64)) hz2 HB0.out hFW HBF.out HRA.out HR0.out HR1.out z5 P6.out HZ6.out (by simp) (by simp; omega) E6.out
  case rest =>
    obtain ⟨G, r, c, ad, n, cap, rfl, rfl, hbG, hG2, hE, hbF, hrA, hr0, hr1, hbel⟩ := hcut
    have hFh : w.heap.size + 2 ≤ F := by have := HFX.out; omega
    have s0 := hr0.cell (i := 0) (by decide)
    have s1 := hr0.cell (i := 1) (by decide)
    have s2 := hr0.cell (i := 2) (by decide)
    have u0 := hr0.frozen 0
    have u1 := hr0.frozen 1
    have u2 := hr0.frozen 2
    have t0 := hr1.cell (i := 0) (by decide)
    have t1 := hr1.cell (i := 1) (by decide)
    have t2 := hr1.cell (i := 2) (by decide)
    have v0 := hr1.frozen 0
    have v1 := hr1.frozen 1
    have v2 := hr1.frozen 2
    have HR0' := Lib.hid hr0
    have HR1' := Lib.hid hr1
    have HRA' := Lib.hid hrA
    have HB' := Lib.hid hbel
    have HE := Lib.hid hE
    have HA1 := Lib.hid hA1
    clear k0 k1 k2 hr0 hr1 hrA hbel hE hA1
    by_cases hc : CanUp g l l.length
    · rw [decide_eq_true hc]
      obtain ⟨f0, f1, f2⟩ := hbF
      obtain ⟨rfl, rfl, rfl, b, m, f, rfl, hb1, hrb, hfo⟩ := HE.out hc
      obtain ⟨g0, g1, g2⟩ := hbG
      have HOK : Hid (EdOk g l) := ⟨HGO.out, hl, hc⟩
      have HRB := Lib.hid hrb
      have HFO := Lib.hid hfo
      have HLA := Lib.hid HRA'.out.lt
      have hAw : w.heap.size + 2 ≤ A := by have := HA1.out; simpa using this
      clear hc hrb hfo HE
      go_wp2_with fail
      go_region
      go_wp2
      have r1 := (((((HR0'.out.set 0 (.int .i64 g.length)).set 1 (.int .i64 (colsOf g))).set 2 (.slice (some ⟨A, 0, none⟩) n n)).setOther (a := ⟨w.heap.size + 1, 0, none⟩) (by simp) (.int .i64 g.length)).setOther (a := ⟨w.heap.size + 1, 1, none⟩) (by simp) (.int .i64 (colsOf g))).setOther (a := ⟨w.heap.size + 1, 2, none⟩) (by simp) (.slice (some ⟨b, 0, none⟩) n cap)
      have r2 := (((((HR1'.out.setOther (a := ⟨w.heap.size, 0, none⟩) (by simp) (.int .i64 g.length)).setOther (a := ⟨w.heap.size, 1, none⟩) (by simp) (.int .i64 (colsOf g))).setOther (a := ⟨w.heap.size, 2, none⟩) (by simp) (.slice (some ⟨A, 0, none⟩) n n)).set 0 (.int .i64 g.length)).set 1 (.int .i64 (colsOf g))).set 2 (.slice (some ⟨b, 0, none⟩) n cap)
      refine bodyPost_ret (v := .tuple #[fv g.length (colsOf g) (.slice (some ⟨A, 0, none⟩) n n), fv g.length (colsOf g) (.slice (some ⟨b, 0, none⟩) n cap), .bool true]) ?_ rfl ?_
      · rw [results_cct rfl]
        exact field_result2 r1.drew rfl rfl rfl r2.drew rfl rfl rfl _
      · have q1 := ((((((HRA'.out.setOther (a := ⟨w.heap.size, 0, none⟩) (by show A ≠ w.heap.size; omega) (.int .i64 g.length)).setOther (a := ⟨w.heap.size, 1, none⟩) (by show A ≠ w.heap.size; omega) (.int .i64 (colsOf g))).setOther (a := ⟨w.heap.size, 2, none⟩) (by show A ≠ w.heap.size; omega) (.slice (some ⟨A, 0, none⟩) n n)).setOther (a := ⟨w.heap.size + 1, 0, none⟩) (by show A ≠ w.heap.size + 1; omega) (.int .i64 g.length)).setOther (a := ⟨w.heap.size + 1, 1, none⟩) (by show A ≠ w.heap.size + 1; omega) (.int .i64 (colsOf g))).setOther (a := ⟨w.heap.size + 1, 2, none⟩) (by show A ≠ w.heap.size + 1; omega) (.slice (some ⟨b, 0, none⟩) n cap)).drew
        have q2 := ((((((HRB.out.setOther (a := ⟨w.heap.size, 0, none⟩) (by show b ≠ w.heap.size; omega) (.int .i64 g.length)).setOther (a := ⟨w.heap.size, 1, none⟩) (by show b ≠ w.heap.size; omega) (.int .i64 (colsOf g))).setOther (a := ⟨w.heap.size, 2, none⟩) (by show b ≠ w.heap.size; omega) (.slice (some ⟨A, 0, none⟩) n n)).setOther (a := ⟨w.heap.size + 1, 0, none⟩) (by show b ≠ w.heap.size + 1; omega) (.int .i64 g.length)).setOther (a := ⟨w.heap.size + 1, 1, none⟩) (by show b ≠ w.heap.size + 1; omega) (.int .i64 (colsOf g))).setOther (a := ⟨w.heap.size + 1, 2, none⟩) (by show b ≠ w.heap.size + 1; omega) (.slice (some ⟨b, 0, none⟩) n cap)).drew
        exact ⟨fun _ => ⟨A, b, cap, m, f, rfl, by omega, by omega, q1, q2, HFO.out⟩, fun h => (h HOK.out).elim, (((((((HB'.out.setCell (by simp) _).setCell (by simp) _).setCell (by simp) _).setCell (by simp) _).setCell (by simp) _).setCell (by simp) _).drew)⟩
    · rw [decide_eq_false hc]
      have HNO : Hid (¬ EdOk g l) := fun h => hc h.2.2
      clear hc hbF hbG
      go_wp2_with fail
      have r1 := (((((HR0'.out.set 0 (.int .i64 0)).set 1 (.int .i64 0)).set 2 (.slice none 0 0)).setOther (a := ⟨w.heap.size + 1, 0, none⟩) (by simp) (.int .i64 0)).setOther (a := ⟨w.heap.size + 1, 1, none⟩) (by simp) (.int .i64 0)).setOther (a := ⟨w.heap.size + 1, 2, none⟩) (by simp) (.slice none 0 0)
      have r2 := (((((HR1'.out.setOther (a := ⟨w.heap.size, 0, none⟩) (by simp) (.int .i64 0)).setOther (a := ⟨w.heap.size, 1, none⟩) (by simp) (.int .i64 0)).setOther (a := ⟨w.heap.size, 2, none⟩) (by simp) (.slice none 0 0)).set 0 (.int .i64 0)).set 1 (.int .i64 0)).set 2 (.slice none 0 0)
      refine bodyPost_ret (v := .tuple #[fv 0 0 (.slice none 0 0), fv 0 0 (.slice none 0 0), .bool false]) ?_ rfl ⟨fun h => (HNO.out h).elim, fun _ => rfl, (((((HB'.out.setCell (by simp) _).setCell (by simp) _).setCell (by simp) _).setCell (by simp) _).setCell (by simp) _).setCell (by simp) _⟩
      rw [results_cct rfl]
      exact field_result2 r1 rfl rfl rfl r2 rfl rfl rfl _

set_option maxHeartbeats 2000000 in
set_option maxRecDepth 100000 in
theorem editions_stop (vg vl : Value) (g : Rows) (l : List Quad) (w : World) (hG : Grid w vg g) (hL : Quads w vl l) (hno : ¬ (GridOk g ∧ l.length ≤ 60)) :
    Calls Try.prog 46 #[vg, vl] w fun e w' => e = noPair ∧ Below w.heap.size w w' := by
  have B0 := Lib.hid (((Below.refl w.heap.size w).alloc (Nat.le_refl _) (.cells #[.int .i64 0, .int .i64 0, .slice none 0 0] 64)).alloc (by simp) (.cells #[.int .i64 0, .int .i64 0, .slice none 0 0] 64))
  have HG := Lib.hid (show GridB w.heap.size w vg g from hG)
  have C : Hid (∀ W, GridB w.heap.size W vg g → w.heap.size ≤ W.heap.size → Calls Try.prog 78 #[vg] W fun e w' => ∃ (o : Bool) (r c : Int) (s : Option Addr) (n : Nat), e = .returned (.tuple #[fv r c (.slice s n n), .bool o]) ∧ (o = true → 60 < l.length) ∧ Below W.heap.size W w') := fun W h1 hz => by
    by_cases hp : GridOk g
    · exact (fieldOf_yes vg g W (h1.grid hz) hp).mono fun e w' ⟨b, he, _, _, hb⟩ => ⟨true, _, _, _, _, he, fun _ => Nat.lt_of_not_le fun h => hno ⟨hp, h⟩, hb⟩
    · exact (fieldOf_no vg g W (h1.grid hz) hp).mono fun e w' ⟨he, hb⟩ => ⟨false, _, _, _, _, he, (fun h => by cases h), hb⟩
  obtain ⟨la, lc, rfl, _, _, _⟩ := hL
  have HH0 : Hid (∀ w1, Below ((w.alloc (.cells #[.int .i64 0, .int .i64 0, .slice none 0 0] 64)).alloc (.cells #[.int .i64 0, .int .i64 0, .slice none 0 0] 64)).heap.size ((w.alloc (.cells #[.int .i64 0, .int .i64 0, .slice none 0 0] 64)).alloc (.cells #[.int .i64 0, .int .i64 0, .slice none 0 0] 64)) w1 → w1.rowIs w.heap.size 64 3 zf ∧ w1.rowIs (w.heap.size + 1) 64 3 zf) := fun w1 hb => by
    have h0 := (field_row w (.int .i64 0) (.int .i64 0) (.slice none 0 0)).alloc (.cells #[.int .i64 0, .int .i64 0, .slice none 0 0] 64)
    have h1 := field_row (w.alloc (.cells #[.int .i64 0, .int .i64 0, .slice none 0 0] 64)) (.int .i64 0) (.int .i64 0) (.slice none 0 0)
    rw [World.size_alloc] at h1
    exact ⟨h0.of_block (hb.block _ h0.lt), h1.of_block (hb.block _ h1.lt)⟩
  clear hG hno
  go_enter Try.func46, Try.ntmps46
  go_wp2_with fail
  refine (C.out _ (HG.out.below B0.out (Nat.le_refl _)) (by simp; omega)).mono ?_
  rintro e w1 ⟨o, r, c, s, n, rfl, ho, hbel⟩
  obtain ⟨hr0, hr1⟩ := HH0.out w1 hbel
  replace hr0 := hr0.alloc (.cells #[.int .i64 r, .int .i64 c, .slice s n n] 64)
  replace hr1 := hr1.alloc (.cells #[.int .i64 r, .int .i64 c, .slice s n n] 64)
  have hz1 : w.heap.size + 2 ≤ w1.heap.size := by have := hbel.size; simp at this; omega
  have HB' := Lib.hid ((B0.out.trans (hbel.mono (by simp; omega))).alloc (by omega) (.cells #[.int .i64 r, .int .i64 c, .slice s n n] 64))
  have s0 := hr0.cell (i := 0) (by decide)
  have s1 := hr0.cell (i := 1) (by decide)
  have s2 := hr0.cell (i := 2) (by decide)
  have u0 := hr0.frozen 0
  have u1 := hr0.frozen 1
  have u2 := hr0.frozen 2
  have t0 := hr1.cell (i := 0) (by decide)
  have t1 := hr1.cell (i := 1) (by decide)
  have t2 := hr1.cell (i := 2) (by decide)
  have v0 := hr1.frozen 0
  have v1 := hr1.frozen 1
  have v2 := hr1.frozen 2
  have HR0' := Lib.hid hr0
  have HR1' := Lib.hid hr1
  have HO := Lib.hid ho
  clear hr0 hr1 hbel ho C HH0
  obtain ⟨W0, hW0⟩ : ∃ W0, W0 = w1.alloc (.cells #[.int .i64 r, .int .i64 c, .slice s n n] 64) := ⟨_, rfl⟩
  rw [← hW0] at s0 s1 s2 u0 u1 u2 t0 t1 t2 v0 v1 v2 HR0' HR1' HB'
  have HW := Lib.hid hW0.symm
  rw [hW0] at s0 s1 s2 u0 u1 u2 t0 t1 t2 v0 v1 v2
  clear hW0
  cases o
  · go_wp2_with fail
    rw [HW.out]
    have r1 := (((((HR0'.out.set 0 (.int .i64 0)).set 1 (.int .i64 0)).set 2 (.slice none 0 0)).setOther (a := ⟨w.heap.size + 1, 0, none⟩) (by simp) (.int .i64 0)).setOther (a := ⟨w.heap.size + 1, 1, none⟩) (by simp) (.int .i64 0)).setOther (a := ⟨w.heap.size + 1, 2, none⟩) (by simp) (.slice none 0 0)
    have r2 := (((((HR1'.out.setOther (a := ⟨w.heap.size, 0, none⟩) (by simp) (.int .i64 0)).setOther (a := ⟨w.heap.size, 1, none⟩) (by simp) (.int .i64 0)).setOther (a := ⟨w.heap.size, 2, none⟩) (by simp) (.slice none 0 0)).set 0 (.int .i64 0)).set 1 (.int .i64 0)).set 2 (.slice none 0 0)
    refine bodyPost_ret (v := .tuple #[fv 0 0 (.slice none 0 0), fv 0 0 (.slice none 0 0), .bool false]) ?_ rfl ⟨rfl, (((((HB'.out.setCell (by simp) _).setCell (by simp) _).setCell (by simp) _).setCell (by simp) _).setCell (by simp) _).setCell (by simp) _⟩
    rw [results_cct rfl]
    exact field_result2 r1 rfl rfl rfl r2 rfl rfl rfl _
  · have tt : decide ((60 : Int) < (l.length : Int)) = true := decide_eq_true (by have := HO.out rfl; omega)
    go_wp2_with fail
    rw [HW.out]
    have r1 := (((((HR0'.out.set 0 (.int .i64 0)).set 1 (.int .i64 0)).set 2 (.slice none 0 0)).setOther (a := ⟨w.heap.size + 1, 0, none⟩) (by simp) (.int .i64 0)).setOther (a := ⟨w.heap.size + 1, 1, none⟩) (by simp) (.int .i64 0)).setOther (a := ⟨w.heap.size + 1, 2, none⟩) (by simp) (.slice none 0 0)
    have r2 := (((((HR1'.out.setOther (a := ⟨w.heap.size, 0, none⟩) (by simp) (.int .i64 0)).setOther (a := ⟨w.heap.size, 1, none⟩) (by simp) (.int .i64 0)).setOther (a := ⟨w.heap.size, 2, none⟩) (by simp) (.slice none 0 0)).set 0 (.int .i64 0)).set 1 (.int .i64 0)).set 2 (.slice none 0 0)
    refine bodyPost_ret (v := .tuple #[fv 0 0 (.slice none 0 0), fv 0 0 (.slice none 0 0), .bool false]) ?_ rfl ⟨rfl, (((((HB'.out.setCell (by simp) _).setCell (by simp) _).setCell (by simp) _).setCell (by simp) _).setCell (by simp) _).setCell (by simp) _⟩
    rw [results_cct rfl]
    exact field_result2 r1 rfl rfl rfl r2 rfl rfl rfl _

theorem editions_yes (vg vl : Value) (g : Rows) (l : List Quad) (w : World) (hG : Grid w vg g) (hL : Quads w vl l) (h : EdOk g l) :
    Calls Try.prog 46 #[vg, vl] w fun e w' =>
      ∃ a b cap m f, e = .returned (.tuple #[fv g.length (colsOf g) (.slice (some ⟨a, 0, none⟩) (g.length * colsOf g) (g.length * colsOf g)), fv g.length (colsOf g) (.slice (some ⟨b, 0, none⟩) (g.length * colsOf g) cap), .bool true]) ∧
        w.heap.size ≤ a ∧ w.heap.size ≤ b ∧ w'.rowIs a 3 (g.length * colsOf g) (fun i => .int .i64 (cellOf g i)) ∧ w'.rowIs b 3 m f ∧ FldOk (g.length * colsOf g) cap m f (cellOf (edition g l)) ∧ Below w.heap.size w w' :=
  (editions_go vg vl g l w hG hL h.1 h.2.1).mono fun e w' ⟨h1, _, h3⟩ => by
    obtain ⟨a, b, cap, m, f, q1, q2, q3, q4, q5, q6⟩ := h1 h
    exact ⟨a, b, cap, m, f, q1, q2, q3, q4, q5, q6, h3⟩
theorem editions_no (vg vl : Value) (g : Rows) (l : List Quad) (w : World) (hG : Grid w vg g) (hL : Quads w vl l) (h : ¬ EdOk g l) :
    Calls Try.prog 46 #[vg, vl] w fun e w' => e = noPair ∧ Below w.heap.size w w' := by
  by_cases hc : GridOk g ∧ l.length ≤ 60
  · exact (editions_go vg vl g l w hG hL hc.1 hc.2).mono fun e w' ⟨_, h2, h3⟩ => ⟨h2 h, h3⟩
  · exact editions_stop vg vl g l w hG hL hc
end Go.Proofs.Ytdelcebkpdnnjaa
