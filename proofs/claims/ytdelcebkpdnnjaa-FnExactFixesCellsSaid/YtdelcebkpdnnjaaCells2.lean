/-
  FixesCells, the reference's. No condition but that the slices read as the lists.
-/
import Derived.Test.YtdelcebkpdnnjaaCells
namespace Go.Proofs.Ytdelcebkpdnnjaa
open Go.RowKit Go.Deep Go.Sort

def HitC (c : Nat) (l : List Quad) (i : Nat) : Prop := ∃ k, k < l.length ∧ idxQ c (l[k]?.getD q0) = (i : Int)
instance (c : Nat) (l : List Quad) (i : Nat) : Decidable (HitC c l i) := by unfold HitC; infer_instance
def specUp (c : Nat) (l : List Quad) : Nat → List Int
  | 0 => []
  | m + 1 => specUp c l m ++ if HitC c l m then [(m : Int)] else []
theorem specUp_len (c : Nat) (l : List Quad) : ∀ m, (specUp c l m).length ≤ m := by
  intro m
  induction m with
  | zero => exact Nat.le_refl _
  | succ m ih =>
    show (specUp c l m ++ _).length ≤ _
    rw [List.length_append]
    split <;> simp <;> omega
theorem specUp_asc (c : Nat) (l : List Quad) : ∀ m, (specUp c l m).Pairwise (· < ·) ∧ ∀ x, x ∈ specUp c l m ↔ ∃ i : Nat, i < m ∧ x = (i : Int) ∧ HitC c l i := by
  intro m
  induction m with
  | zero => exact ⟨List.Pairwise.nil, fun x => ⟨fun h => by simp [specUp] at h, fun ⟨i, hi, _⟩ => by omega⟩⟩
  | succ m ih =>
    show (specUp c l m ++ _).Pairwise _ ∧ ∀ x, x ∈ specUp c l m ++ _ ↔ _
    by_cases hh : HitC c l m
    · rw [if_pos hh]
      refine ⟨List.pairwise_append.2 ⟨ih.1, List.pairwise_singleton _ _, fun x hx y hy => ?_⟩, fun x => ?_⟩
      · rw [List.mem_singleton] at hy
        obtain ⟨i, hi, rfl, _⟩ := (ih.2 x).1 hx
        omega
      · rw [List.mem_append, List.mem_singleton, ih.2]
        constructor
        · rintro (⟨i, hi, e⟩ | e)
          · exact ⟨i, by omega, e⟩
          · exact ⟨m, by omega, e, hh⟩
        · rintro ⟨i, hi, e, h2⟩
          by_cases ei : i = m
          · subst ei; exact .inr e
          · exact .inl ⟨i, by omega, e, h2⟩
    · rw [if_neg hh, List.append_nil]
      refine ⟨ih.1, fun x => ?_⟩
      rw [ih.2]
      constructor
      · rintro ⟨i, hi, e⟩; exact ⟨i, by omega, e⟩
      · rintro ⟨i, hi, e, h2⟩
        by_cases ei : i = m
        · subst ei; exact absurd h2 hh
        · exact ⟨i, by omega, e, h2⟩
theorem fix_in {g : Rows} {l : List Quad} (h : EdOk g l) {k : Nat} (hk : k < l.length) : ∃ i j : Nat, (l[k]?.getD q0).1 = (i : Int) ∧ (l[k]?.getD q0).2.1 = (j : Int) ∧ i < g.length ∧ j < colsOf g := by
  have cn := h.2.2 k hk
  have d := doneUp_grid h.1 k (by omega) (h.2.2.less (by omega))
  have a1 := cn.1
  have a2 := cn.2.1
  have a3 := cn.2.2.1
  have a4 := cn.2.2.2.1
  rw [d.2.1] at a2
  rw [d.2.2] at a4
  exact ⟨(l[k]?.getD q0).1.toNat, (l[k]?.getD q0).2.1.toNat, by omega, by omega, by omega, by omega⟩
theorem specUp_all {g : Rows} {l : List Quad} (h : EdOk g l) : specUp (colsOf g) l (g.length * colsOf g) = cellsOut g l := by
  rw [cellsOut_yes h]
  have a := specUp_asc (colsOf g) l (g.length * colsOf g)
  have b := cellsL_asc (l.map (idxQ (colsOf g)))
  refine asc_ext _ _ a.1 b.1 fun x => ?_
  rw [a.2, b.2, List.mem_map]
  constructor
  · rintro ⟨i, hi, rfl, k, hk, e⟩
    exact ⟨_, List.getElem_mem hk, by rw [← e, getQ_eq hk]⟩
  · rintro ⟨q, hq, rfl⟩
    obtain ⟨k, hk, rfl⟩ := List.mem_iff_getElem.1 hq
    obtain ⟨i, j, e1, e2, hi, hj⟩ := fix_in h hk
    rw [getQ_eq hk] at e1 e2
    have e : idxQ (colsOf g) l[k] = ((i * colsOf g + j : Nat) : Int) := by unfold idxQ; rw [e1, e2]; simp
    refine ⟨i * colsOf g + j, ?_, e, k, hk, by rw [getQ_eq hk]; exact e⟩
    have := Nat.mul_le_mul_right (colsOf g) (show i + 1 ≤ g.length by omega)
    rw [Nat.succ_mul] at this
    omega
theorem cellsOut_len (g : Rows) (l : List Quad) : (cellsOut g l).length ≤ 1099511627776 := by
  by_cases h : EdOk g l
  · rw [← specUp_all h]
    have := specUp_len (colsOf g) l (g.length * colsOf g)
    have := small_cells h.1
    omega
  · rw [cellsOut_no h]; exact Nat.zero_le _

set_option maxHeartbeats 1000000 in
theorem l2Cells_any (v : Value) (g : Rows) (w : World) (h : Grid w v g) (hg : GridOk g) :
    Calls Try.prog 51 #[v] w fun e w' => e = .returned (.int .i64 ((g.length * colsOf g : Nat) : Int)) ∧ Below w.heap.size w w' := by
  obtain ⟨ga, gc, rfl, g1, g2, g3⟩ := h
  obtain ⟨gb, go, rfl, gb1, hcc⟩ := g3 (by have := hg.1; omega)
  obtain ⟨r, hr, a2, c2, rfl, r1, r2, r3⟩ := hcc 0 (by have := hg.1; omega)
  rw [(hg.2.2.2.2 0 (by have := hg.1; omega)).1, Nat.add_zero] at hr
  have hgl := hg.1
  have hgl2 := hg.2.1
  have hca := hg.2.2.1
  have hca2 := hg.2.2.2.1
  have hsm := small_cells hg
  have e0 : ((g.length * colsOf g : Nat) : Int) = (g.length : Int) * (colsOf g : Int) := by simp
  have e1 : 0 ≤ (g.length : Int) * (colsOf g : Int) ∧ (g.length : Int) * (colsOf g : Int) ≤ 49 := by rw [← e0]; omega
  have w1 := wrap_small (x := (g.length : Int) * (colsOf g : Int)) (by omega) (by omega)
  obtain ⟨n, hn⟩ : ∃ n, n = g.length := ⟨_, rfl⟩
  obtain ⟨c, hc⟩ : ∃ n, n = colsOf g := ⟨_, rfl⟩
  rw [← hn, ← hc] at w1
  rw [← hn] at hgl hgl2 g1 ⊢
  rw [← hc] at hca hr ⊢
  have n1 : (0 : Int) < (n : Int) := by omega
  have n2 : 0 < n := by omega
  clear hcc hg e0 e1 hsm hn hc g3 r3 r1 r2
  go_enter Try.func51, Try.ntmps51
  go_wp2
  go_ret
  exact ⟨ret_int (by simp), below_n (Below.refl _ _) 0⟩

set_option maxHeartbeats 4000000 in
set_option maxRecDepth 100000 in
theorem specFixesCells_any (vg vl : Value) (g : Rows) (l : List Quad) (w : World) (hG : Grid w vg g) (hL : Quads w vl l) :
    Calls Try.prog 11 #[vg, vl] w fun e w' => ∃ v, e = .returned v ∧ Own w.heap.size w'.heap.size w' v (cellsOut g l) ∧ Below w.heap.size w w' := by
  have HGR := Lib.hid (show GridB w.heap.size w vg g from hG)
  have HL := Lib.hid hL.quadsB
  have CV : Hid (∀ W, Below w.heap.size w W → Calls Try.prog 50 #[vg, vl] W fun e w' => e = .returned (.bool (decide (EdOk g l))) ∧ Below W.heap.size W w') := fun W hb => specFixesValid_any vg vl g l W ((HGR.out.below hb (Nat.le_refl _)).grid hb.size) ((HL.out.below hb (Nat.le_refl _)).quads hb.size)
  have HB0 := Lib.hid ((Below.refl w.heap.size w).alloc (Nat.le_refl _) (.cells #[] 3))
  have HM : Hid ((w.alloc (.cells #[] 3)).ownsRow w.heap.size 3 1 (.slice (some ⟨w.heap.size, 0, none⟩) 0 0) 0 []) := World.ownsRow_made w #[] 0 (Nat.le_refl _) (by decide) rfl
  by_cases h : EdOk g l
  · rw [decide_eq_true h] at CV
    obtain ⟨la, lc, rfl, q1, q2, q3⟩ := hL
    have HQ := Lib.hid q3
    have hl60 := h.2.1
    have hgl := h.1.2.1
    have hgl1 := h.1.1
    have hca := h.1.2.2.2.1
    have hca1 := h.1.2.2.1
    have HIN : Hid (∀ k, k < l.length → ∃ i j : Nat, (l[k]?.getD q0).1 = (i : Int) ∧ (l[k]?.getD q0).2.1 = (j : Int) ∧ i < g.length ∧ j < colsOf g) := fun k hk => fix_in h hk
    have HALL := Lib.hid (specUp_all h)
    have sm := small_cells h.1
    obtain ⟨ga, gc, rfl, g1, g2, g3⟩ := HGR.out
    obtain ⟨gb, go, rfl, gb1, hcc⟩ := g3 (by omega)
    obtain ⟨r, hr, a2, c2, rfl, r1, r2, r3⟩ := hcc 0 (by omega)
    rw [(h.1.2.2.2.2 0 (by omega)).1, Nat.add_zero] at hr
    have HR := Lib.hid hr
    obtain ⟨c, hc⟩ : ∃ c, c = colsOf g := ⟨_, rfl⟩
    obtain ⟨R, hR⟩ : ∃ R, R = g.length := ⟨_, rfl⟩
    rw [← hc] at HIN HALL HR hca hca1 sm
    rw [← hR] at HIN HALL hgl hgl1 sm CV HGR g1 ⊢
    obtain ⟨N, hN⟩ : ∃ N, N = R * c := ⟨_, rfl⟩
    rw [← hN] at HALL sm
    have eN : (R : Int) * (c : Int) = (N : Int) := by rw [hN]; simp
    have wN := IntWalk.i64_in (N : Int) (by omega)
    have HNR := Lib.hid hN
    have CC : Hid (∀ W, Below w.heap.size w W → Calls Try.prog 51 #[.slice (some ⟨gb, go, none⟩) R gc] W fun e w' => e = .returned (.int .i64 (N : Int)) ∧ Below W.heap.size W w') := by
      intro W hb
      have := l2Cells_any (.slice (some ⟨gb, go, none⟩) R gc) g W ((HGR.out.below hb (Nat.le_refl _)).grid hb.size) h.1
      rw [← hR, ← hc, ← hN] at this
      exact this
    clear hG q3 h hcc r3 r1 r2 g3 hr hc hR hN
    go_enter Try.func11, Try.ntmps11
    go_wp2_with fail
    refine (CV.out _ HB0.out).mono ?_
    rintro e w1 ⟨rfl, hb1⟩
    have HB1 := Lib.hid (HB0.out.trans (hb1.mono (by simp)))
    have HM1 := Lib.hid (ownsRow_blk HM.out (fun k e => hb1.block k (HM.out.lt k e).2))
    have z1 := HB1.out.size
    clear hb1
    go_wp2_with fail
    go_loopw [5, 6, 7] (fun v s _ wr => ∃ m : Nat, m ≤ N ∧ s = .int .i64 m ∧ wr.ownsRow w.heap.size 3 1 v (specUp c l m).length ((specUp c l m).map (Value.int .i64)) ∧ Below w.heap.size w wr) (fun _ s _ _ => N - (intOf s).toNat)
    case atStart => exact ⟨0, Nat.zero_le _, rfl, HM1.out, HB1.out⟩
    case round =>
      obtain ⟨m, hm, rfl, hown, hbel⟩ := hrel
      obtain ⟨ra, rc, rfl⟩ := ownsRow_sl hown
      have HO := Lib.hid hown
      have HBE := Lib.hid hbel
      clear hown hbel
      obtain ⟨S, hS⟩ : ∃ S, S = (specUp c l m).length := ⟨_, rfl⟩
      rw [← hS] at HO ⊢
      have HSL := Lib.hid hS
      clear hS
      go_wp2_with fail
      refine (CC.out _ HBE.out).mono ?_
      rintro e w2 ⟨rfl, hb2⟩
      have HB2 := Lib.hid (HBE.out.trans (hb2.mono HBE.out.size))
      have HO2 := Lib.hid (ownsRow_blk HO.out (fun k e => hb2.block k (HO.out.lt k e).2))
      clear hb2
      by_cases hmN : m < N
      · have hx0 := (HB2.out.cell (p := ⟨gb, go, none⟩) gb1).trans HR.out
        have hmI : (m : Int) < (N : Int) := by omega
        go_wp2_with fail
        go_loopw [5, 7] (fun u s wi => ∃ k n : Nat, k ≤ l.length ∧ s = .int .i64 k ∧ u = .slice ra S rc ∧ wi = w2.drewN n ∧ ∀ j, j < k → idxQ c (l[j]?.getD q0) ≠ (m : Int)) (fun _ s _ => l.length - (intOf s).toNat)
        case atStart => exact ⟨0, 0, Nat.zero_le _, rfl, rfl, rfl, fun j hj => absurd hj (Nat.not_lt_zero _)⟩
        case round =>
          obtain ⟨k, n, hk, rfl, rfl, rfl, hno⟩ := hrel
          have HNO := Lib.hid hno
          clear hno
          by_cases hlt : k < l.length
          · obtain ⟨bb, off, hae, hbb, hq⟩ := HQ.out (by omega)
            subst hae
            obtain ⟨d0, d1, d2, d3⟩ := (hq k hlt).below HB2.out hbb
            obtain ⟨i, j, ei, ej, hi, hj⟩ := HIN.out k hlt
            have hidx : idxQ c (l[k]?.getD q0) = (i : Int) * (c : Int) + (j : Int) := by unfold idxQ; rw [ei, ej]
            rw [ei] at d0
            rw [ej] at d1
            have ms := mul_small i c (by omega) (by omega)
            have v1 := wrap_small (x := (i : Int) * (c : Int)) (by omega) (by omega)
            have v2 := wrap_small (x := (i : Int) * (c : Int) + (j : Int)) (by omega) (by omega)
            have HID := Lib.hid hidx
            clear hq ei ej hidx d2 d3
            by_cases he : (i : Int) * (c : Int) + (j : Int) = (m : Int)
            · have te : ((i : Int) * (c : Int) + (j : Int) == (m : Int)) = true := by simp [he]
              have HS : Hid (specUp c l (m + 1) = specUp c l m ++ [(m : Int)]) := by show specUp c l m ++ _ = _; rw [if_pos ⟨k, hlt, by rw [HID.out]; exact he⟩]
              have HLN := Lib.hid (specUp_len c l m)
              obtain ⟨L, hL⟩ : ∃ L, L = specUp c l m := ⟨_, rfl⟩
              rw [← hL] at HS HO2
              have HO2' : Hid (w2.ownsRow w.heap.size 3 1 (.slice ra S rc) L.length (L.map (Value.int .i64))) := by
                show World.ownsRow _ _ _ _ _ _ _
                rw [show L.length = S by rw [hL]; exact HSL.out.symm]
                exact HO2.out
              have hLn : L.length ≤ 1000 := by rw [hL]; have := HLN.out; omega
              clear he hL
              go_wp2_with fail
              go_quiet (fail)
              have HD := Lib.hid (below_n (Below.refl w2.heap.size w2) (n + nq))
              have HO3 := Lib.hid ((ownsRow_blk HO2'.out (fun k e => HD.out.block k (HO2'.out.lt k e).2)).alloc (.cells #[.int .i64 (m : Int)] 3))
              have HB3 := Lib.hid ((HB2.out.trans (HD.out.mono HB2.out.size)).alloc (by exact (HB2.out.trans (HD.out.mono HB2.out.size)).size) (.cells #[.int .i64 (m : Int)] 3))
              go_wp2_with (at_builtin; refine app_ints _ rfl _ _ rfl w.heap.size _ L _ [(m : Int)] HO3.out (ints_single (by simp)) rfl rfl (by simp; omega) HB3.out.size ?_; intro v9 w9 hown9 hg9; have HO9 := Lib.hid hown9; have HB9 := Lib.hid (HB3.out.grown hg9 HB3.out.size (fun k e => (HO3.out.lt k e).1)); clear hown9 hg9)
              go_roundw
              case rel => exact ⟨m + 1, by omega, by go_num, by rw [HS.out]; exact HO9.out, HB9.out⟩
              case measure => simp [intOf]; omega
            · have te : ((i : Int) * (c : Int) + (j : Int) == (m : Int)) = false := by simp [he]
              have HNE := Lib.hid he
              clear he
              go_wp2_with fail
              go_quiet (fail)
              go_wp2_with fail
              go_roundw
              case rel =>
                refine ⟨k + 1, n + nq, by omega, by go_num, rfl, rfl, fun j' hj' => ?_⟩
                by_cases e : j' = k
                · subst e; rw [HID.out]; exact HNE.out
                · exact HNO.out j' (by omega)
              case measure => simp [intOf]; omega
          · obtain rfl : k = l.length := by omega
            have HS : Hid (specUp c l (m + 1) = specUp c l m) := by show specUp c l m ++ _ = _; rw [if_neg (fun ⟨k, hk, e⟩ => HNO.out k hk e), List.append_nil]
            go_wp2_with fail
            go_roundw
            case rel => exact ⟨m + 1, by omega, by go_num, by rw [HS.out, ← HSL.out]; exact ownsRow_blk HO2.out (fun k e => (below_n (Below.refl w2.heap.size w2) n).block k (HO2.out.lt k e).2), below_n HB2.out _⟩
            case measure => simp [intOf]; omega
      · obtain rfl : m = N := by omega
        have hmI : ¬ (m : Int) < (m : Int) := by omega
        go_wp2_with fail
        go_ret
        exact ⟨_, rfl, by have h9 := HO2.out; rw [HSL.out] at h9 ⊢; rw [← HALL.out]; exact own_of_ownsRow h9 (Nat.le_refl _), HB2.out⟩
  · rw [decide_eq_false h] at CV
    rw [cellsOut_no h]
    clear hG hL h
    go_enter Try.func11, Try.ntmps11
    go_wp2_with fail
    refine (CV.out _ HB0.out).mono ?_
    rintro e w1 ⟨rfl, hb1⟩
    have HB1 := Lib.hid (HB0.out.trans (hb1.mono (by simp)))
    clear hb1
    go_wp2_with fail
    go_ret
    exact ⟨_, rfl, .inl ⟨rfl, _, 0, rfl, by omega⟩, HB1.out⟩
end Go.Proofs.Ytdelcebkpdnnjaa
