/-
  A fresh matrix of ints: each row in blocks of its own; the laws' marks on it. Conditions: sizes as small as stated.
-/
import Derived.Test.YtdelcebkpdnnjaaField3
namespace Go.Proofs.Ytdelcebkpdnnjaa
open Go.RowKit Go.Deep

/-- v is a matrix made by the call: its blocks lie in [lo, hi), its rows in windows that do not meet -/
def OwnG (lo hi : Nat) (w : World) (v : Value) (g : Rows) : Prop :=
  (g = [] ∧ ∃ a cap, v = .slice a 0 cap ∧ cap ≤ 9223372036854775807) ∨
  ∃ b off cap t n f, ∃ bs es : Nat → Nat, v = .slice (some ⟨b, off, none⟩) g.length cap ∧ g.length ≤ cap ∧ cap ≤ 9223372036854775807 ∧ lo ≤ b ∧ b < hi ∧
    w.rowIs b t n f ∧ off + g.length ≤ n ∧ (∀ j, j < g.length → (lo ≤ bs j ∧ es j ≤ hi ∧ (b < bs j ∨ es j ≤ b)) ∧ Own (bs j) (es j) w (f (off + j)) (g[j]?.getD [])) ∧
    ∀ i j, i < g.length → j < g.length → i ≠ j → es i ≤ bs j ∨ es j ≤ bs i

theorem OwnG.gridB {lo hi : Nat} {w : World} {v : Value} {g : Rows} (h : OwnG lo hi w v g) : GridB hi w v g := by
  rcases h with ⟨rfl, a, cap, rfl, hc⟩ | ⟨b, off, cap, t, n, f, bs, es, rfl, h1, h2, h3, h4, h5, h6, h7, h8⟩
  · exact ⟨a, cap, rfl, Nat.zero_le _, hc, fun h => absurd h (by simp)⟩
  · exact ⟨_, cap, rfl, h1, h2, fun _ => ⟨b, off, rfl, h4, fun j hj => ⟨_, h5.cell (by omega), (h7 j hj).2.intsB.mono (h7 j hj).1.2.1⟩⟩⟩
theorem OwnG.grid {lo hi : Nat} {w : World} {v : Value} {g : Rows} (h : OwnG lo hi w v g) (hh : hi ≤ w.heap.size) : Grid w v g := h.gridB.mono hh
theorem OwnG.touch {lo hi lo' hi' : Nat} {w w' : World} {v : Value} {g : Rows} (h : OwnG lo hi w v g) (ht : Touch lo' hi' w w') (hd : hi ≤ lo' ∨ hi' ≤ lo) : OwnG lo hi w' v g := by
  rcases h with h | ⟨b, off, cap, t, n, f, bs, es, rfl, h1, h2, h3, h4, h5, h6, h7, h8⟩
  · exact .inl h
  · exact .inr ⟨b, off, cap, t, n, f, bs, es, rfl, h1, h2, h3, h4, h5.of_block (ht.block b h5.lt (by omega)), h6, fun j hj => ⟨(h7 j hj).1, (h7 j hj).2.touch ht (by have := (h7 j hj).1; omega)⟩, h8⟩
theorem OwnG.below {lo hi B : Nat} {w w' : World} {v : Value} {g : Rows} (h : OwnG lo hi w v g) (hb : Below B w w') (hd : hi ≤ B) : OwnG lo hi w' v g := by
  rcases h with h | ⟨b, off, cap, t, n, f, bs, es, rfl, h1, h2, h3, h4, h5, h6, h7, h8⟩
  · exact .inl h
  · exact .inr ⟨b, off, cap, t, n, f, bs, es, rfl, h1, h2, h3, h4, h5.of_block (hb.block b (by omega)), h6, fun j hj => ⟨(h7 j hj).1, (h7 j hj).2.below hb (by have := (h7 j hj).1; omega)⟩, h8⟩
theorem OwnG.mono {lo hi lo' hi' : Nat} {w : World} {v : Value} {g : Rows} (h : OwnG lo hi w v g) (h1 : lo' ≤ lo) (h2 : hi ≤ hi') : OwnG lo' hi' w v g := by
  rcases h with h | ⟨b, off, cap, t, n, f, bs, es, rfl, g1, g2, h3, h4, h5, h6, h7, h8⟩
  · exact .inl h
  · exact .inr ⟨b, off, cap, t, n, f, bs, es, rfl, g1, g2, by omega, by omega, h5, h6, fun j hj => ⟨by have := (h7 j hj).1; omega, (h7 j hj).2⟩, h8⟩

theorem setR_get {g : Rows} {r j : Nat} {l : List Int} (hr : r < g.length) : (g.set r l)[j]?.getD [] = if j = r then l else g[j]?.getD [] := by
  by_cases e : j = r
  · subst e; simp [hr]
  · rw [if_neg e, List.getElem?_set_ne (by omega)]
theorem setI_get {l : List Int} {c j : Nat} {x : Int} (hc : c < l.length) : (l.set c x)[j]?.getD 0 = if j = c then x else l[j]?.getD 0 := by
  by_cases e : j = c
  · subst e; simp [hc]
  · rw [if_neg e, List.getElem?_set_ne (by omega)]

/-- a cell of a matrix made by the call: where it lies, and that it can be written -/
theorem OwnG.cell {lo hi : Nat} {w : World} {v : Value} {g : Rows} (h : OwnG lo hi w v g) {r c : Nat} (hr : r < g.length) (hc : c < (g[r]?.getD []).length) :
    ∃ b off cap b2 off2 cap2, v = .slice (some ⟨b, off, none⟩) g.length cap ∧ w.cell? ⟨b, off + r, none⟩ = some (.slice (some ⟨b2, off2, none⟩) (g[r]?.getD []).length cap2) ∧
      w.cell? ⟨b2, off2 + c, none⟩ = some (.int .i64 ((g[r]?.getD [])[c]?.getD 0)) ∧ w.frozen? ⟨b2, off2 + c, none⟩ = false ∧ lo ≤ b2 ∧ b2 < hi ∧
      (g[r]?.getD []).length ≤ cap2 ∧ cap2 ≤ 9223372036854775807 ∧
      ∀ x, OwnG lo hi (w.setCell ⟨b2, off2 + c, none⟩ (.int .i64 x)) v (g.set r ((g[r]?.getD []).set c x)) := by
  rcases h with ⟨rfl, _⟩ | ⟨b, off, cap, t, n, f, bs, es, rfl, g1, g2, h3, h4, h5, h6, h7, h8⟩
  · exact absurd hr (by simp)
  · obtain ⟨⟨k1, k2, k3⟩, k4⟩ := h7 r hr
    rcases k4 with ⟨e, _⟩ | ⟨b2, off2, cap2, t2, n2, f2, e2, m1, m2, m3, m4, m5, m6, m7⟩
    · rw [e] at hc; exact absurd hc (by simp)
    · refine ⟨b, off, cap, b2, off2, cap2, rfl, by rw [h5.cell (by omega), e2], by rw [m5.cell (by omega), m7 c hc], m5.frozen _, by omega, by omega, m1, m2, fun x => .inr ⟨b, off, cap, t, n, f, bs, es, by rw [List.length_set], by rw [List.length_set]; exact g1, g2, h3, h4, h5.setOther (by show b ≠ b2; omega) _, by rw [List.length_set]; exact h6, fun j hj => ?_, by rw [List.length_set]; exact h8⟩⟩
      rw [List.length_set] at hj
      refine ⟨(h7 j hj).1, ?_⟩
      rw [setR_get hr]
      by_cases e : j = r
      · subst e
        rw [if_pos rfl]
        refine .inr ⟨b2, off2, cap2, t2, n2, _, by rw [List.length_set]; exact e2, by rw [List.length_set]; exact m1, m2, m3, m4, m5.set (off2 + c) _, by rw [List.length_set]; exact m6, fun i hi => ?_⟩
        rw [List.length_set] at hi
        rw [setI_get hc]
        by_cases e3 : i = c
        · subst e3; rw [if_pos rfl, if_pos rfl]
        · rw [if_neg (by omega), if_neg e3]; exact m7 i hi
      · rw [if_neg e]
        exact (h7 j hj).2.touch ((Touch.refl b2 (b2 + 1) w).setCell (by simp) (by simp) _) (by have := h8 j r hj hr e; omega)

/-- how many numbers lie in the first rows -/
def tot (g : Rows) : Nat → Nat
  | 0 => 0
  | j + 1 => tot g j + (g[j]?.getD []).length
def marksR (k0 : Int) (g : Rows) : Rows := (List.range g.length).map fun j => marks (k0 + (tot g j : Int)) (g[j]?.getD []).length
theorem marksR_length (k0 : Int) (g : Rows) : (marksR k0 g).length = g.length := by simp [marksR]
theorem marksR_get (k0 : Int) (g : Rows) (j : Nat) (h : j < g.length) : (marksR k0 g)[j]?.getD [] = marks (k0 + (tot g j : Int)) (g[j]?.getD []).length := by simp [marksR, h]
theorem tot_le {g : Rows} {m : Nat} (h : ∀ j, j < g.length → (g[j]?.getD []).length ≤ m) : ∀ k, k ≤ g.length → tot g k ≤ k * m := by
  intro k
  induction k with
  | zero => intro _; simp [tot]
  | succ k ih =>
    intro hk
    have := ih (by omega)
    have := h k (by omega)
    rw [tot, Nat.add_mul, Nat.one_mul]
    omega

set_option maxHeartbeats 1000000 in
set_option maxRecDepth 100000 in
theorem markIntSS_any (v : Value) (g : Rows) (k0 : Int) (lo hi : Nat) (w : World) (h : OwnG lo hi w v g) (hn : g.length ≤ 1048576) (hr : ∀ j, j < g.length → (g[j]?.getD []).length ≤ 1048576) (h0 : 0 ≤ k0) (h1 : k0 ≤ 4398046511104) :
    Calls Try.prog 28 #[v, .int .i64 k0] w fun e w' => e = .returned (.int .i64 (k0 + (tot g g.length : Int))) ∧ OwnG lo hi w' v (marksR k0 g) ∧ Touch lo hi w w' := by
  have HT := Lib.hid (tot_le hr)
  have HR := Lib.hid hr
  clear hr
  rcases h with ⟨rfl, a, cap, rfl, hc⟩ | ⟨b, off, cap, t, n, f, bs, es, rfl, hc1, hc2, hlo, hb0, hrow, hoff, hown, hdis⟩
  · go_enter Try.func28, Try.ntmps28
    go_wp2
    refine wp_loop_rounds 1 ?_
    rw [rounds_succ]
    go_wp2
    go_ret
    exact ⟨ret_int (by simp [tot]), .inl ⟨rfl, a, cap, rfl, hc⟩, Touch.refl _ _ _⟩
  · have HD := Lib.hid hdis
    have HO := Lib.hid hown
    have HW := Lib.hid hrow
    clear hown hdis
    go_enter Try.func28, Try.ntmps28
    go_wp2
    go_loopw [1, 5] (fun q i wr => ∃ k : Nat, k ≤ g.length ∧ i = .int .i64 k ∧ q = .int .i64 (k0 + (tot g k : Int)) ∧ wr.rowIs b t n f ∧
        (∀ j, j < g.length → Own (bs j) (es j) wr (f (off + j)) (if j < k then marks (k0 + (tot g j : Int)) (g[j]?.getD []).length else g[j]?.getD [])) ∧ Touch lo hi w wr) (fun _ i _ => g.length - (intOf i).toNat)
    case atStart => exact ⟨0, Nat.zero_le _, rfl, by simp [tot], HW.out, fun j hj => by simpa using (HO.out j hj).2, Touch.refl _ _ _⟩
    case round =>
      obtain ⟨k, hk, rfl, rfl, hrow1, hall, htou⟩ := hrel
      by_cases hlt : k < g.length
      · have hx := hrow1.cell (show off + k < n by omega)
        obtain ⟨hm1, hm2, hm3⟩ := (HO.out k hlt).1
        have hok := hall k hlt
        rw [if_neg (by omega)] at hok
        have htk := HT.out k (by omega)
        have htk2 := Nat.mul_le_mul_right 1048576 (show k ≤ 1048576 by omega)
        have hrk := HR.out k hlt
        have HALL := Lib.hid hall
        have HTO := Lib.hid htou
        have HOK := Lib.hid hok
        have HR1 := Lib.hid hrow1
        obtain ⟨xa, xn, xc, hxs⟩ := hok.intsB.slice
        rw [hxs] at hx
        have HXS := Lib.hid hxs
        clear hall htou hok hrow1 hxs
        have hokk := HOK.out
        rw [HXS.out] at hokk
        have HOK2 := Lib.hid hokk
        clear hokk
        go_wp2_with (refine (markIntS_any _ _ _ _ _ _ HOK2.out (by omega) (by omega) (by omega)).mono ?_; rintro e w1 ⟨rfl, hO, ht1⟩; have HO1 := Lib.hid hO; have HT1 := Lib.hid ht1; clear hO ht1)
        go_roundw
        case rel =>
          refine ⟨k + 1, by omega, by go_num, by rw [tot, getR_eq hlt]; exact congrArg _ (by omega), HR1.out.of_block (HT1.out.block b HR1.out.lt (by omega)), fun j hj => ?_, HTO.out.trans (HT1.out.mono (by omega) (by omega))⟩
          by_cases e : j = k
          · subst e
            rw [if_pos (by omega), HXS.out]
            exact HO1.out
          · have hj2 := (HALL.out j hj).touch HT1.out (by have := HD.out j k hj hlt e; omega)
            by_cases e2 : j < k
            · rw [if_pos e2] at hj2; rw [if_pos (by omega)]; exact hj2
            · rw [if_neg e2] at hj2; rw [if_neg (by omega)]; exact hj2
        case measure => simp [intOf]; omega
      · obtain rfl : k = g.length := by omega
        go_wp2
        go_ret
        refine ⟨rfl, .inr ⟨b, off, cap, t, n, f, bs, es, by rw [marksR_length], by rw [marksR_length]; exact hc1, hc2, hlo, hb0, hrow1, by rw [marksR_length]; exact hoff, fun j hj => ?_, by rw [marksR_length]; exact HD.out⟩, htou⟩
        rw [marksR_length] at hj
        have := hall j hj
        rw [if_pos hj] at this
        rw [marksR_get _ _ _ hj]
        exact ⟨(HO.out j hj).1, this⟩

theorem mono_steps {bs : Nat → Nat} {n : Nat} (h : ∀ j, j < n → bs j ≤ bs (j + 1)) : ∀ i j, i ≤ j → j ≤ n → bs i ≤ bs j := by
  intro i j hij
  induction hij with
  | refl => intro _; exact Nat.le_refl _
  | step hm ih => intro hj; exact Nat.le_trans (ih (by omega)) (h _ (by omega))
/-- rows made one behind the other, the outer block ahead of them -/
theorem OwnG_steps {lo hi b n : Nat} {t : TypeId} {f : Nat → Value} {w : World} {g : Rows} {bs : Nat → Nat} (hlo : lo ≤ b) (hb : b < bs 0) (hhi : bs g.length ≤ hi) (hst : ∀ j, j < g.length → bs j ≤ bs (j + 1))
    (hrow : w.rowIs b t n f) (hn : g.length ≤ n) (hc : n ≤ 9223372036854775807) (ho : ∀ j, j < g.length → Own (bs j) (bs (j + 1)) w (f j) (g[j]?.getD [])) (k : Nat) (hk : k = g.length) : OwnG lo hi w (.slice (some ⟨b, 0, none⟩) k n) g := by
  subst hk
  have hm := mono_steps hst
  have hz := hm 0 g.length (Nat.zero_le _) (Nat.le_refl _)
  refine .inr ⟨b, 0, n, t, n, f, bs, fun j => bs (j + 1), rfl, hn, hc, hlo, by omega, hrow, by omega, fun j hj => ⟨?_, by rw [Nat.zero_add]; exact ho j hj⟩, fun i j hi hj hne => ?_⟩
  · have h1 := hm 0 j (Nat.zero_le _) (by omega)
    have h2 := hm (j + 1) g.length (by omega) (Nat.le_refl _)
    dsimp only
    exact ⟨by omega, by omega, by omega⟩
  · rcases Nat.lt_or_ge i j with hl | hl
    · exact .inl (hm (i + 1) j (by omega) (by omega))
    · exact .inr (hm (j + 1) i (by omega) (by omega))

set_option maxHeartbeats 1000000 in
set_option maxRecDepth 100000 in
/-- the laws' copy of a matrix: it can be written -/
theorem toIntSS_own (v : Value) (g : Rows) (w : World) (h : Grid w v g) (hn : g.length ≤ 1048576) (hs : ∀ j, j < g.length → (g[j]?.getD []).length ≤ 1048576) :
    Calls Try.prog 24 #[v] w fun e w' => ∃ v', e = .returned v' ∧ OwnG w.heap.size w'.heap.size w' v' g ∧ Below w.heap.size w w' := by
  obtain ⟨a, cap, rfl, hc1, hc2, hc3⟩ := h
  have hmk := run_make_row' (P := Try.prog) 23 27 (.slice none 0 0) 24 Try.underlying23 info_islice rfl .i64 .i64 g.length (by omega) (by omega)
  have HS := Lib.hid hs
  have HC := Lib.hid hc3
  clear hs hc3
  go_enter Try.func24, Try.ntmps24
  go_wp2
  go_loopw [4] (fun i wr => ∃ k : Nat, k ≤ g.length ∧ i = .int .i64 k ∧ (∃ f, ∃ bs : Nat → Nat, wr.rowIs w.heap.size 27 g.length f ∧ w.heap.size < bs 0 ∧ bs k ≤ wr.heap.size ∧ (∀ j, j < k → bs j ≤ bs (j + 1)) ∧ ∀ j, j < k → Own (bs j) (bs (j + 1)) wr (f j) (g[j]?.getD [])) ∧ Below w.heap.size w wr) (fun i _ => g.length - (intOf i).toNat)
  case atStart => exact ⟨0, Nat.zero_le _, rfl, ⟨_, fun _ => w.heap.size + 1, World.rowIs_made w (.slice none 0 0) g.length 27, Nat.lt_succ_self _, by simp, fun j hj => by omega, fun j hj => by omega⟩, (Below.refl _ _).alloc (Nat.le_refl _) _⟩
  case round =>
    obtain ⟨k, hk, rfl, ⟨f, bs, hrow, hb0, hbk, hst, hf⟩, hbel⟩ := hrel
    by_cases hlt : k < g.length
    · obtain ⟨b, off, rfl, hb, hcell⟩ := HC.out (by omega)
      obtain ⟨r, hr, hi⟩ := hcell k hlt
      have hr' : wr.cell? ⟨b, off + k, none⟩ = some r := (hbel.cell (p := ⟨b, off + k, none⟩) hb).trans hr
      have HI := Lib.hid (hi.below hbel (Nat.le_refl _))
      have HR := Lib.hid hrow
      have HF := Lib.hid hf
      have HB := Lib.hid hbel
      have HM := Lib.hid (mono_steps hst)
      have HST := Lib.hid hst
      have hz := HM.out 0 k (Nat.zero_le _) (Nat.le_refl _)
      have hsz := hbel.size
      have hlo := hrow.lt
      obtain ⟨ra, rl, rc, rfl⟩ := hi.slice
      clear hrow hf hbel hcell hi hr hmk hst
      go_wp2_with (refine (toIntS_any _ _ _ (HI.out.ints hsz) (by have := HS.out k hlt; omega)).mono ?_; rintro e w1 ⟨v1, rfl, hO, hb1⟩; have HO := Lib.hid hO; have HB1 := Lib.hid hb1; have hs1 := hb1.size; have HR1 := Lib.hid (HR.out.of_block (hb1.block _ hlo)); have hd := HR1.out.cell hlt; have hfr := HR1.out.frozen k; obtain ⟨va, vl, vc, rfl⟩ := hO.intsB.slice; clear hO hb1)
      go_roundw
      case rel =>
        refine ⟨k + 1, by omega, by go_num, ⟨_, fun j => if j ≤ k then bs j else w1.heap.size, HR1.out.set k _, by dsimp only; rw [if_pos (Nat.zero_le _)]; exact hb0, by dsimp only; rw [if_neg (by omega)]; simp, fun j hj => ?_, fun j hj => ?_⟩, (HB.out.trans (HB1.out.mono (by omega))).setCell (by simp) _⟩
        · dsimp only
          by_cases e : j = k
          · subst e; rw [if_pos (Nat.le_refl _), if_neg (by omega)]; omega
          · rw [if_pos (by omega), if_pos (by omega)]; exact HST.out j (by omega)
        · dsimp only
          have hT := (Touch.refl w.heap.size (w.heap.size + 1) w1).setCell (p := ⟨w.heap.size, k, none⟩) (by simp) (by simp) (.slice va vl vc)
          by_cases e : j = k
          · subst e
            rw [if_pos rfl, if_pos (Nat.le_refl _), if_neg (by omega)]
            exact (HO.out.mono hbk (Nat.le_refl _)).touch hT (by omega)
          · have h1 := HM.out 0 j (Nat.zero_le _) (by omega)
            have h2 := HM.out (j + 1) k (by omega) (Nat.le_refl _)
            rw [if_neg e, if_pos (by omega), if_pos (by omega)]
            exact ((HF.out j (by omega)).below HB1.out (by omega)).touch hT (by omega)
      case measure => simp [intOf]; omega
    · obtain rfl : k = g.length := by omega
      clear hmk
      go_wp2
      go_ret
      exact ⟨_, rfl, OwnG_steps (Nat.le_refl _) hb0 hbk hst hrow (Nat.le_refl _) (by omega) hf _ rfl, hbel⟩
end Go.Proofs.Ytdelcebkpdnnjaa
