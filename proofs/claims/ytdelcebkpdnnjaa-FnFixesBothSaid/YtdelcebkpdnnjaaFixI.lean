/-
  FixesValid, FixesRise and FixesDo of the program. No condition but that the slices read as the lists.
-/
import Derived.Test.YtdelcebkpdnnjaaEditions
namespace Go.Proofs.Ytdelcebkpdnnjaa
open Go.RowKit Go.Deep Go.Sort BigFrame

theorem EdOk.heights {g : Rows} {l : List Quad} (h : EdOk g l) {k : Nat} (hk : k < l.length) :
    0 ≤ (l[k]?.getD q0).2.2.1 ∧ (l[k]?.getD q0).2.2.1 ≤ 99 ∧ 0 ≤ (l[k]?.getD q0).2.2.2 ∧ (l[k]?.getD q0).2.2.2 ≤ 99 := by
  have hg := doneUp_grid h.1 k (by omega) (h.2.2.less (by omega))
  obtain ⟨h1, h2, h3, h4, h5, h6, h7, _⟩ := h.2.2 k hk
  have := hg.1.cell (i := (l[k]?.getD q0).1.toNat) (j := (l[k]?.getD q0).2.1.toNat) (by omega) (by omega)
  unfold at2 at h5
  rw [h5] at this
  exact ⟨this.1, this.2, h6, h7⟩
def riseUp (l : List Quad) : Nat → Int
  | 0 => 0
  | k + 1 => riseUp l k + ((l[k]?.getD q0).2.2.2 - (l[k]?.getD q0).2.2.1)
def riseOf (g : Rows) (l : List Quad) : Int := if EdOk g l then riseUp l l.length else 0
theorem riseOf_yes {g : Rows} {l : List Quad} (h : EdOk g l) : riseOf g l = riseUp l l.length := if_pos h
theorem riseOf_no {g : Rows} {l : List Quad} (h : ¬ EdOk g l) : riseOf g l = 0 := if_neg h
theorem rise_small {g : Rows} {l : List Quad} (h : EdOk g l) : ∀ k, k ≤ l.length → -(99 * (k : Int)) ≤ riseUp l k ∧ riseUp l k ≤ 99 * (k : Int) := by
  intro k
  induction k with
  | zero => intro _; simp [riseUp]
  | succ k ih =>
    intro hk
    have h1 := ih (by omega)
    have h2 := h.heights (show k < l.length by omega)
    rw [riseUp]
    omega

set_option maxHeartbeats 1000000 in
set_option maxRecDepth 100000 in
theorem FixesValid_any (vg vl : Value) (g : Rows) (l : List Quad) (w : World) (hG : Grid w vg g) (hL : Quads w vl l) :
    Calls Try.prog 72 #[vg, vl] w fun e w' => e = .returned (.bool (decide (EdOk g l))) ∧ Below w.heap.size w w' := by
  by_cases h : EdOk g l
  · have C := Lib.hid (editions_yes vg vl g l w hG hL h)
    rw [decide_eq_true h]
    clear hG hL h
    go_enter Try.func72, Try.ntmps72
    go_wp2_with fail
    refine C.out.mono ?_
    rintro e w1 ⟨a, b, cap, m, f, rfl, _, _, _, _, _, hb⟩
    go_wp2
    go_ret
    exact ⟨rfl, (hb.alloc hb.size _).alloc (by have := hb.size; simp; omega) _⟩
  · have C := Lib.hid (editions_no vg vl g l w hG hL h)
    rw [decide_eq_false h]
    clear hG hL h
    go_enter Try.func72, Try.ntmps72
    go_wp2_with fail
    refine C.out.mono ?_
    rintro e w1 ⟨rfl, hb⟩
    go_wp2
    go_ret
    exact ⟨rfl, (hb.alloc hb.size _).alloc (by have := hb.size; simp; omega) _⟩

set_option maxHeartbeats 1000000 in
set_option maxRecDepth 100000 in
theorem FixesDo_any (vg vl : Value) (g : Rows) (l : List Quad) (w : World) (hG : Grid w vg g) (hL : Quads w vl l) :
    Calls Try.prog 20 #[vg, vl] w fun e w' => ∃ v, e = .returned (.tuple #[v, .bool (decide (EdOk g l))]) ∧ OwnG w.heap.size w'.heap.size w' v (edAll g l) ∧ Below w.heap.size w w' := by
  by_cases h : EdOk g l
  · have C := Lib.hid (editions_yes vg vl g l w hG hL h)
    have HS : Hid (rowsOf (cellOf (edition g l)) g.length (colsOf g) = edition g l) := by
      show _ = _
      rw [← h.grid.2.1, ← h.grid.2.2]
      exact rowsOf_self h.grid.1
    have hgl := h.1.2.1
    have hca := h.1.2.2.1
    have hca2 := h.1.2.2.2.1
    rw [decide_eq_true h, edAll_yes h]
    clear hG hL h
    go_enter Try.func20, Try.ntmps20
    go_wp2_with fail
    refine C.out.mono ?_
    rintro e w1 ⟨a, b, cap, m, f, rfl, _, _, _, hrow, hfo, hb⟩
    have hz := hb.size
    have HR := Lib.hid ((hrow.alloc (.cells #[.int .i64 g.length, .int .i64 (colsOf g), .slice (some ⟨a, 0, none⟩) (g.length * colsOf g) (g.length * colsOf g)] 64)).alloc (.cells #[.int .i64 g.length, .int .i64 (colsOf g), .slice (some ⟨b, 0, none⟩) (g.length * colsOf g) cap] 64))
    have HB := Lib.hid ((hb.alloc hb.size (.cells #[.int .i64 g.length, .int .i64 (colsOf g), .slice (some ⟨a, 0, none⟩) (g.length * colsOf g) (g.length * colsOf g)] 64)).alloc (by simp; omega) (.cells #[.int .i64 g.length, .int .i64 (colsOf g), .slice (some ⟨b, 0, none⟩) (g.length * colsOf g) cap] 64))
    have HF := Lib.hid hfo
    clear hrow hb hfo C
    go_wp2_with fail
    refine (lists_row g.length (colsOf g) b cap m f (cellOf (edition g l)) _ (by omega) (by omega) hca HR.out HF.out).mono ?_
    rintro e w2 ⟨v, rfl, hO, hb2⟩
    have HO := Lib.hid hO
    have HB2 := Lib.hid (HB.out.trans (hb2.mono (by simp; omega)))
    clear hO hb2
    go_wp2
    go_ret2
    exact ⟨v, rfl, by rw [← HS.out]; exact HO.out.mono (by simp; omega) (Nat.le_refl _), HB2.out⟩
  · have C := Lib.hid (editions_no vg vl g l w hG hL h)
    rw [decide_eq_false h, edAll_no h]
    clear hG hL h
    go_enter Try.func20, Try.ntmps20
    go_wp2_with fail
    refine C.out.mono ?_
    rintro e w1 ⟨rfl, hb⟩
    go_wp2
    go_ret2
    exact ⟨_, rfl, .inl ⟨rfl, none, 0, rfl, by omega⟩, (hb.alloc hb.size _).alloc (by have := hb.size; simp; omega) _⟩

set_option maxHeartbeats 1000000 in
set_option maxRecDepth 100000 in
theorem FixesRise_any (vg vl : Value) (g : Rows) (l : List Quad) (w : World) (hG : Grid w vg g) (hL : Quads w vl l) :
    Calls Try.prog 41 #[vg, vl] w fun e w' => e = .returned (.tuple #[.int .i64 (riseOf g l), .bool (decide (EdOk g l))]) ∧ Below w.heap.size w w' := by
  have C := Lib.hid (FixesValid_any vg vl g l w hG hL)
  have HL := Lib.hid hL.quadsB
  obtain ⟨la, lc, rfl, q1, q2, q3⟩ := hL
  by_cases h : EdOk g l
  · rw [decide_eq_true h] at C ⊢
    rw [riseOf_yes h]
    have HH := Lib.hid (fun k => EdOk.heights (k := k) h)
    have HS := Lib.hid (rise_small h)
    have hl60 := h.2.1
    have HR : Hid (∀ k, riseUp l (k + 1) = riseUp l k + ((l[k]?.getD q0).2.2.2 - (l[k]?.getD q0).2.2.1)) := fun _ => rfl
    have HR0 : Hid (riseUp l 0 = 0) := rfl
    have HQ := Lib.hid q3
    clear hG h q3
    go_enter Try.func41, Try.ntmps41
    go_wp2_with fail
    refine C.out.mono ?_
    rintro e w1 ⟨rfl, hb⟩
    have HB := Lib.hid hb
    clear hb C
    go_wp2_with fail
    go_loopw [6, 8, 15] (fun s _ i wr => ∃ k : Nat, k ≤ l.length ∧ i = .int .i64 k ∧ s = .int .i64 (riseUp l k) ∧ Below w.heap.size w wr) (fun _ _ i _ => l.length - (intOf i).toNat)
    case atStart => exact ⟨0, Nat.zero_le _, rfl, by rw [HR0.out], HB.out⟩
    case round =>
      obtain ⟨k, hk, rfl, rfl, hbel⟩ := hrel
      have HB2 := Lib.hid hbel
      have hz := hbel.size
      by_cases hlt : k < l.length
      · obtain ⟨b, off, hae, hbb, hq⟩ := HQ.out (by omega)
        subst hae
        obtain ⟨c0, c1, c2, c3⟩ := (hq k hlt).below hbel hbb
        have hh := HH.out k hlt
        have hs := HS.out k hk
        have hs2 := HS.out (k + 1) hlt
        rw [HR.out] at hs2
        obtain ⟨x0, x1, x2, x3, hx⟩ : ∃ x0 x1 x2 x3, (x0, x1, x2, x3) = l[k]?.getD q0 := ⟨_, _, _, _, rfl⟩
        rw [← hx] at c0 c1 c2 c3 hh hs2
        dsimp only at c0 c1 c2 c3 hh hs2
        have HX : Hid (riseUp l (k + 1) = riseUp l k + (x3 - x2)) := by show _ = _; rw [HR.out, ← hx]
        obtain ⟨R, hR⟩ : ∃ R, R = riseUp l k := ⟨_, rfl⟩
        rw [← hR] at HX hs hs2 ⊢
        have w1' := wrap_small (x := x3 - x2) (by omega) (by omega)
        have w2' := wrap_small (x := R + (x3 - x2)) (by omega) (by omega)
        clear hq hx hbel hR
        go_wp2
        go_roundw
        case rel => exact ⟨k + 1, by omega, by go_num, by rw [HX.out], HB2.out.alloc hz _⟩
        case measure => simp [intOf]; omega
      · obtain rfl : k = l.length := by omega
        clear hbel
        go_wp2
        go_ret2
        exact ⟨rfl, HB2.out⟩
  · rw [decide_eq_false h] at C ⊢
    rw [riseOf_no h]
    clear hG h
    go_enter Try.func41, Try.ntmps41
    go_wp2_with fail
    refine C.out.mono ?_
    rintro e w1 ⟨rfl, hb⟩
    go_wp2
    go_ret2
    exact ⟨rfl, hb⟩
end Go.Proofs.Ytdelcebkpdnnjaa
