/-
  l91Rough: a drawn list of rows. Conditions: up to eight rows and columns; the reader has picked fewer than a hundred thousand times.
-/
import Derived.Test.YtdelcebkpdnnjaaDrawG
namespace Go.Proofs.Ytdelcebkpdnnjaa
open Go.RowKit Go.Deep

theorem rowIs_tag {w w' : World} {lo b n m : Nat} {u : Value} {f : Nat → Value} {zs : List Value} (h : w.rowIs b 3 n f) (hu : w.ownsRow lo 27 1 u m zs) (hg : w.grownBy w' u.ownBlock) : w'.rowIs b 3 n f :=
  h.of_block (hg.block b h.lt (fun e => by
    rcases hu.2 with ⟨rfl, _⟩ | ⟨g', cap', cur', rfl, _, hh', _⟩
    · cases e
    · have hgg : b = g' := by simpa [Value.ownBlock] using e
      obtain ⟨c, hc, _⟩ := h
      rw [hgg, hh'] at hc
      have : (27 : TypeId) = 3 := by injection hc with h1; injection h1
      exact absurd this (by decide)))
theorem Touch.new {lo hi : Nat} {a b c : World} (h : Touch lo hi a b) (k : Below b.heap.size b c) : Touch lo hi a c := h.then (k.mono h.size)
theorem ownsRow_tag2 {w w' : World} {lo base n m : Nat} {v u : Value} {xs zs : List Value} (h : w.ownsRow base 27 1 v n xs) (hu : w.ownsRow lo 3 1 u m zs) (hg : w.grownBy w' u.ownBlock) : w'.ownsRow base 27 1 v n xs :=
  h.kept hg (by
    rcases h.2 with ⟨rfl, _⟩ | ⟨g, cap, cur, rfl, _, hh, _⟩
    · exact .inl rfl
    · right
      intro e
      rcases hu.2 with ⟨rfl, _⟩ | ⟨g', cap', cur', rfl, _, hh', _⟩
      · cases e
      · have hgg : g = g' := by simpa [Value.ownBlock] using e
        rw [hgg, hh'] at hh
        have : (3 : TypeId) = 27 := by injection hh with h1; injection h1
        exact absurd this (by decide))
theorem Touch.both {lo hi : Nat} {a b : World} (h : Touch lo hi a b) (p : Addr) (v : Value) : Touch lo hi (a.setCell p v) (b.setCell p v) := by
  refine ⟨h.os, h.tape, h.output, by simpa [World.setCell] using h.size, fun k hk hn => ?_⟩
  have hk' : k < a.heap.size := by simpa [World.setCell] using hk
  have e := h.block k hk' hn
  simp only [World.setCell, Array.getElem?_modify]
  rw [e]
theorem lit3 (w : World) (a0 a1 a2 : Int) : (w.alloc (.cells #[.int .i64 a0, .int .i64 a1, .int .i64 a2] 3)).rowIs w.heap.size 3 3 (fun i => .int .i64 ([a0, a1, a2][i]?.getD 0)) :=
  World.rowIs_alloc w #[.int .i64 a0, .int .i64 a1, .int .i64 a2] 3 _ (fun i hi => by
    simp at hi
    match i, hi with
    | 0, _ => rfl
    | 1, _ => rfl
    | 2, _ => rfl)
theorem RowsW.tag {lo M m : Nat} {w w' : World} {xs zs : List Value} {g : Rows} {u : Value} (h : RowsW lo M w xs g) (hu : w.ownsRow lo 27 1 u m zs) (hg : w.grownBy w' u.ownBlock) : RowsW lo M w' xs g :=
  ⟨h.1, fun j hj => ⟨ownsRow_tag (h.2.1 j hj).1 hu hg, (h.2.1 j hj).2⟩, h.2.2⟩
theorem setV_get {xs : List Value} {m j : Nat} {v : Value} (hm : m < xs.length) : (xs.set m v)[j]?.getD undef = if j = m then v else xs[j]?.getD undef := by
  by_cases e : j = m
  · subst e; simp [hm]
  · rw [if_neg e, List.getElem?_set_ne (by omega)]
/-- one row was appended to: it lies where it lay, or in a new block -/
theorem RowsW.replace {lo M H m g' cap : Nat} {w w' : World} {xs : List Value} {g : Rows} {l : List Int} (h : RowsW lo M w xs g) (hm : m < g.length) (hg : w.grownBy w' (xs[m]?.getD undef).ownBlock) (hM : M ≤ H) (hH : H < w'.heap.size ∨ H ≤ w.heap.size)
    (hn : w'.ownsRow lo 3 1 (.slice (some ⟨g', 0, none⟩) l.length cap) l.length (l.map (Value.int .i64))) (hat : (xs[m]?.getD undef).ownBlock = some g' ∨ g' = H) (hlt : g' < w'.heap.size) : RowsW lo w'.heap.size w' (xs.set m (.slice (some ⟨g', 0, none⟩) l.length cap)) (g.set m l) := by
  obtain ⟨h1, h2, h3⟩ := h
  have hMw : M ≤ w'.heap.size := by have := hg.size; omega
  have hxl : m < xs.length := by omega
  have ne : ∀ j, j < g.length → j ≠ m → ∀ b, (xs[j]?.getD undef).ownBlock = some b → b ≠ g' := fun j hj hne b hb => by
    rcases hat with e | e
    · intro hbg
      rcases h3 j m hj hm hne with e2 | e2
      · rw [hb] at e2; cases e2
      · exact e2 (by rw [hb, e, hbg])
    · have := (h2 j hj).2 b hb
      omega
  refine ⟨by simp [h1], fun j hj => ?_, fun i j hi hj hne => ?_⟩
  · rw [List.length_set] at hj
    rw [setV_get hxl, setR_get hm]
    by_cases e : j = m
    · rw [if_pos e, if_pos e]
      exact ⟨hn, fun b hb => by have : b = g' := by simpa [Value.ownBlock] using hb.symm
                                omega⟩
    · rw [if_neg e, if_neg e]
      exact ⟨(h2 j hj).1.kept hg (h3 j m hj hm e), fun b hb => Nat.lt_of_lt_of_le ((h2 j hj).2 b hb) hMw⟩
  · rw [List.length_set] at hi hj
    rw [setV_get hxl, setV_get hxl]
    by_cases ei : i = m
    · rw [if_pos ei]
      right
      rw [if_neg (by omega)]
      intro e
      exact ne j hj (by omega) g' e.symm rfl
    · rw [if_neg ei]
      by_cases ej : j = m
      · rw [if_pos ej]
        cases hb : (xs[i]?.getD undef).ownBlock with
        | none => exact .inl rfl
        | some b =>
          right
          intro e
          have : b = g' := by simpa [Value.ownBlock] using e
          exact ne i hi ei b hb this
      · rw [if_neg ej]; exact h3 i j hi hj hne
theorem lit8 (w : World) (a0 a1 a2 a3 a4 a5 a6 a7 : Int) : (w.alloc (.cells #[.int .i64 a0, .int .i64 a1, .int .i64 a2, .int .i64 a3, .int .i64 a4, .int .i64 a5, .int .i64 a6, .int .i64 a7] 3)).rowIs w.heap.size 3 8 (fun i => .int .i64 ([a0, a1, a2, a3, a4, a5, a6, a7][i]?.getD 0)) :=
  World.rowIs_alloc w #[.int .i64 a0, .int .i64 a1, .int .i64 a2, .int .i64 a3, .int .i64 a4, .int .i64 a5, .int .i64 a6, .int .i64 a7] 3 _ (fun i hi => by
    simp at hi
    match i, hi with
    | 0, _ => rfl
    | 1, _ => rfl
    | 2, _ => rfl
    | 3, _ => rfl
    | 4, _ => rfl
    | 5, _ => rfl
    | 6, _ => rfl
    | 7, _ => rfl)

set_option maxHeartbeats 4000000 in
set_option maxRecDepth 100000 in
theorem l91Rough_any (R P rows cols : Nat) (w : World) (h : Rd w R P) (hP : P ≤ 100000) (hr1 : 1 ≤ rows) (hr : rows ≤ 8) (hc1 : 1 ≤ cols) (hc : cols ≤ 8) :
    Calls Try.prog 89 #[.pointer (some ⟨R, 0, none⟩), .int .i64 rows, .int .i64 cols] w fun e w' => ∃ v g P', e = .returned v ∧ OwnG w.heap.size w'.heap.size w' v g ∧ g.length = rows ∧ (∀ j, j < rows → 1 ≤ (g[j]?.getD []).length ∧ (g[j]?.getD []).length ≤ 9) ∧ Rd w' R P' ∧ P' ≤ P + 100 ∧ Touch R (R + 1) w w' := by
  have hRw := h.lt
  have HR0 := Lib.hid h
  clear h
  have B1 := Lib.hid ((Below.refl w.heap.size w).alloc (Nat.le_refl _) (.cells #[.int .i64 1, .int .i64 2, .int .i64 3, .int .i64 4, .int .i64 6, .int .i64 9, .int .i64 5, .int .i64 2] 3))
  go_enter Try.func89, Try.ntmps89
  go_wp2_with fail
  refine (pick_i R P _ _ (HR0.out.below B1.out hRw) (by omega) (by omega) (by omega)).mono ?_
  rintro e w1 ⟨c0, rfl, hc00, hc01, hrd1, ht1⟩
  have HRD1 := Lib.hid hrd1
  have HT1 := Lib.hid (((Touch.refl R (R + 1) w).then B1.out).trans ht1)
  have hz1 := ht1.size
  simp at hz1
  have HH1 := (lit8 w 1 2 3 4 6 9 5 2).of_block (ht1.block w.heap.size (by simp) (by omega))
  clear hrd1 ht1
  by_cases e0 : c0 = 0
  · subst e0
    have HH2 := Lib.hid ((lit8 w1 0 10 25 40 55 70 99 12).alloc (.cells #[] 27))
    have B2 := Lib.hid ((Below.refl w1.heap.size w1).alloc (Nat.le_refl _) (.cells #[.int .i64 0, .int .i64 10, .int .i64 25, .int .i64 40, .int .i64 55, .int .i64 70, .int .i64 99, .int .i64 12] 3))
    have B3 := Lib.hid (B2.out.alloc (by simp) (.cells #[] 27))
    have HO0 := Lib.hid (World.ownsRow_made (base := w.heap.size) (e := 27) (size := 1) (w1.alloc (.cells #[.int .i64 0, .int .i64 10, .int .i64 25, .int .i64 40, .int .i64 55, .int .i64 70, .int .i64 99, .int .i64 12] 3)) #[] 0 (by simp; omega) (by decide) rfl)
    clear HH1
    go_wp2_with fail
    obtain ⟨W0, hW0⟩ : ∃ W, W = (w1.alloc (.cells #[.int .i64 0, .int .i64 10, .int .i64 25, .int .i64 40, .int .i64 55, .int .i64 70, .int .i64 99, .int .i64 12] 3)).alloc (.cells #[] 27) := ⟨_, rfl⟩
    have HRD2 := Lib.hid (HRD1.out.below B3.out (by omega))
    have HT2 := Lib.hid (HT1.out.then (B3.out.mono (by omega)))
    obtain ⟨hh, hhh⟩ : ∃ h, h = w1.heap.size := ⟨_, rfl⟩
    obtain ⟨f, hf⟩ : ∃ f : Nat → Int, f = (fun i => [0, 10, 25, 40, 55, 70, 99, 12][i]?.getD 0) := ⟨_, rfl⟩
    have HHX : Hid (W0.rowIs hh 3 8 (fun i => .int .i64 (f i))) := by rw [hW0, hhh, hf]; exact HH2.out
    have HOX : Hid (W0.ownsRow w.heap.size 27 1 (.slice (some ⟨w1.heap.size + 1, 0, none⟩) 0 0) 0 []) := by rw [hW0]; have h0 := HO0.out; (try simp only [World.size_alloc] at h0); exact h0
    rw [← hW0] at HRD2 HT2 ⊢
    have hlo : w.heap.size ≤ hh := by omega
    clear HH2 HO0 B2 B3 hf
    go_loopw [8, 9, 10, 11] (fun v i _ _ wr => ∃ (k P' : Nat) (xs : List Value) (g : Rows), k ≤ rows ∧ i = .int .i64 k ∧ wr.ownsRow w.heap.size 27 1 v k xs ∧ RowsW w.heap.size wr.heap.size wr xs g ∧ g.length = k ∧ (∀ j, j < k → (g[j]?.getD []).length = cols) ∧ wr.rowIs hh 3 8 (fun i => .int .i64 (f i)) ∧ Rd wr R P' ∧ P' ≤ P + 1 + 8 * k ∧ Touch R (R + 1) w wr) (fun _ i _ _ _ => rows - (intOf i).toNat)
    case atStart => exact ⟨0, P + 1, [], [], Nat.zero_le _, rfl, HOX.out, ⟨rfl, fun j hj => absurd hj (Nat.not_lt_zero _), fun i j hi => absurd hi (Nat.not_lt_zero _)⟩, rfl, fun j hj => absurd hj (Nat.not_lt_zero _), HHX.out, HRD2.out, by omega, HT2.out⟩
    case round =>
      obtain ⟨k, P', xs, g, hk, rfl, hout, hrows, hgl, hlens, hhr, hrd, hP', ht⟩ := hrel
      have HO := Lib.hid hout
      have HRW := Lib.hid hrows
      have HL := Lib.hid hlens
      have HHR := Lib.hid hhr
      have HRD := Lib.hid hrd
      have HT := Lib.hid ht
      have hsz := ht.size
      have hhl := hhr.lt
      have hRr := hrd.lt
      obtain ⟨oa, oc, rfl⟩ := ownsRow_sl hout
      clear hout hrows hlens hhr hrd ht
      by_cases hlt : k < rows
      · have BA := Lib.hid ((Below.refl wr.heap.size wr).alloc (Nat.le_refl _) (.cells #[] 3))
        have HV0 := Lib.hid (World.ownsRow_made (base := wr.heap.size) (e := 3) (size := 1) wr #[] 0 (Nat.le_refl _) (by decide) rfl)
        have BO : Hid (∀ b, (Value.slice oa k oc).ownBlock = some b → b < wr.heap.size) := fun b hb => (HO.out.lt b hb).2
        obtain ⟨M, hM⟩ : ∃ M, M = wr.heap.size := ⟨_, rfl⟩
        go_wp2
        obtain ⟨wo, rfl⟩ : ∃ wo : World, wo = wr := ⟨_, rfl⟩
        have HMM := Lib.hid hM
        rw [← hM] at hsz hhl HRW HV0 BO ⊢
        clear hM
        go_loopw [10, 11] (fun v i wi => ∃ (j P'' : Nat) (l : List Int), j ≤ cols ∧ i = .int .i64 j ∧ l.length = j ∧ wi.ownsRow M 3 1 v l.length (l.map (Value.int .i64)) ∧ wi.ownsRow w.heap.size 27 1 (.slice oa k oc) k xs ∧ RowsW w.heap.size M wi xs g ∧ M ≤ wi.heap.size ∧ wi.rowIs hh 3 8 (fun i => .int .i64 (f i)) ∧ Rd wi R P'' ∧ P'' ≤ P' + j ∧ Touch R (R + 1) w wi) (fun _ i _ => cols - (intOf i).toNat)
        case atStart => exact ⟨0, P', [], Nat.zero_le _, rfl, rfl, HV0.out, ownsRow_bel HO.out BA.out, HRW.out.below BA.out, by rw [HMM.out]; simp, HHR.out.alloc _, HRD.out.below BA.out hRr, Nat.le_refl _, HT.out.new BA.out⟩
        case round =>
          obtain ⟨wi, rfl⟩ : ∃ wi : World, wi = wr := ⟨_, rfl⟩
          obtain ⟨j, P'', l, hj, rfl, hll, hv, hout, hrows, hMi, hhr, hrd, hP'', ht⟩ := hrel
          have HV := Lib.hid hv
          have HO2 := Lib.hid hout
          have HRW2 := Lib.hid hrows
          have HHR2 := Lib.hid hhr
          have HRD2' := Lib.hid hrd
          have HT2' := Lib.hid ht
          have hs2 := ht.size
          have hhl2 := hhr.lt
          obtain ⟨va, vc, rfl⟩ := ownsRow_sl hv
          have hl8 : l.length ≤ 8 := by omega
          have HLL := Lib.hid hll
          clear hll hv hout hrows hhr hrd ht
          by_cases hjl : j < cols
          · go_wp2_with fail
            refine (pick_i R P'' _ _ HRD2'.out (by omega) (by omega) (by omega)).mono ?_
            rintro e w5 ⟨d, rfl, hd0, hd1, hrd5, ht5⟩
            obtain ⟨dn, rfl⟩ : ∃ n : Nat, d = (n : Int) := ⟨d.toNat, by omega⟩
            have HRD5 := Lib.hid hrd5
            have HT5 := Lib.hid (HT2'.out.trans ht5)
            have hs5 := ht5.size
            have HV5 := Lib.hid (ownsRow_pick HV.out ht5 (by omega))
            have HO5 := Lib.hid (ownsRow_pick HO2.out ht5 hRw)
            have HRW5 := Lib.hid (HRW2.out.pick ht5 hRw)
            have hh5 := HHR2.out.of_block (ht5.block hh hhl2 (by omega))
            have HHR5 := Lib.hid hh5
            have hcell := hh5.cell (i := dn) (by omega)
            have jd1 : (0 : Int) ≤ (dn : Int) := by omega
            have jd2 : (dn : Int) < 8 := by omega
            have jd3 : dn < 8 := by omega
            obtain ⟨x, hx⟩ : ∃ x, x = f dn := ⟨_, rfl⟩
            rw [← hx, hhh] at hcell
            clear hrd5 ht5 hh5 hx
            go_wp2_with (at_builtin; refine app_ints _ rfl _ _ rfl M _ l _ [x] (HV5.out.alloc _) ints_one rfl rfl (by simp; omega) (by simp; omega) ?_; intro v6 w6 hown6 hg6; have HV6 := Lib.hid hown6; have HG6 := Lib.hid hg6; clear hown6 hg6)
            go_roundw
            case rel =>
              have BB := (Below.refl w5.heap.size w5).alloc (Nat.le_refl _) (.cells #[.int .i64 x] 3)
              have hrow : ∀ b, (Value.slice va l.length vc).ownBlock = some b → M ≤ b := fun b hb => (HV5.out.lt b hb).1
              have hz6 := HG6.out.size
              simp at hz6
              refine ⟨j + 1, P'' + 1, l ++ [x], by omega, by go_num, by rw [List.length_append, HLL.out]; rfl, HV6.out, ownsRow_tag2 (ownsRow_bel HO5.out BB) (HV5.out.alloc _) HG6.out, (HRW5.out.below BB).far HG6.out hrow, by omega, (HHR5.out.alloc _).of_block (HG6.out.block hh (by simp; omega) (fun e => by have := hrow hh e.symm; omega)), ?_, by omega, (HT5.out.new BB).grown HG6.out (fun b hb => by have := hrow b hb; omega)⟩
              exact (HRD5.out.below BB HRD5.out.lt).below (B := M) ((Below.refl M _).grown HG6.out (by simp; omega) hrow) (by omega)
            case measure => simp [intOf]; omega
          · obtain rfl : j = cols := by omega
            have HX := Lib.hid (show (wi.alloc (.cells #[.slice va l.length vc] 27)).cell? ⟨wi.heap.size, 0, none⟩ = some (.slice va l.length vc) from by simp)
            have HO6 := Lib.hid (HO2.out.alloc (.cells #[.slice va l.length vc] 27))
            go_wp2_with (at_builtin; refine app_row _ rfl _ _ rfl w.heap.size _ k xs wi.heap.size _ _ _ HO6.out HX.out rfl rfl (by omega) (by simp; omega) ?_; intro v7 w7 hown7 hg7; have HO7 := Lib.hid hown7; have HG7 := Lib.hid hg7; clear hown7 hg7)
            go_roundw
            case rel =>
              have BB := (Below.refl wi.heap.size wi).alloc (Nat.le_refl _) (.cells #[.slice va l.length vc] 27)
              have hz7 := HG7.out.size
              simp at hz7
              have hblk : ∀ b, (Value.slice oa k oc).ownBlock = some b → w.heap.size ≤ b := fun b hb => (HO6.out.lt b hb).1
              refine ⟨k + 1, P'', xs ++ [.slice va l.length vc], g ++ [l], by omega, by go_num, HO7.out, (HRW2.out.below BB).snoc (l := l) ((ownsRow_lower HV.out (by omega)).alloc _) (fun b hb => ⟨(HV.out.lt b hb).1, by have := (HV.out.lt b hb).2; omega⟩) (by omega) HO6.out HG7.out, by simp [hgl], fun i hi => ?_, rowIs_tag (HHR2.out.alloc _) HO6.out HG7.out, ?_, by omega, (HT2'.out.new BB).grown HG7.out hblk⟩
              · rw [getR_app]
                by_cases e : i < g.length
                · rw [if_pos e]; exact HL.out i (by omega)
                · rw [if_neg e, if_pos (by omega)]; exact HLL.out
              · exact (HRD2'.out.below BB HRD2'.out.lt).below (B := w.heap.size) ((Below.refl w.heap.size _).grown HG7.out (by simp; omega) hblk) hRw
            case measure => simp [intOf]; omega
      · obtain rfl : k = rows := by omega
        go_wp2_with fail
        refine (pick_i R P' _ _ HRD.out (by omega) (by omega) (by omega)).mono ?_
        rintro e w5 ⟨d, rfl, hd0, hd1, hrd5, ht5⟩
        have HRD5 := Lib.hid hrd5
        have HT5 := Lib.hid (HT.out.trans ht5)
        have hs5 := ht5.size
        have HO5 := Lib.hid (ownsRow_pick HO.out ht5 hRw)
        have HRW5 := Lib.hid ((HRW.out.pick ht5 hRw).mono hs5)
        clear hrd5 ht5
        by_cases d0 : d = 0
        · subst d0
          have hG5 := HRW5.out.ownG (v := .slice oa k oc) (by rw [hgl]; exact HO5.out) (Nat.le_refl _)
          obtain ⟨bO, oO, cO, b2, o2, c2, hform, s1, s2, s3, s4, s5, s6, s7, s8⟩ := hG5.cell (r := 0) (c := 0) (by omega) (by have := HL.out 0 (by omega); omega)
          rw [hgl] at hform
          obtain ⟨rfl, rfl⟩ : oa = some ⟨bO, oO, none⟩ ∧ oc = cO := by simp at hform; exact hform
          have hbO : w.heap.size ≤ bO ∧ bO < w5.heap.size := by
            obtain ⟨b9, c9, q1, q2, q3⟩ := HO5.out.form (by omega)
            have : bO = b9 := by simp at q1; exact q1.1.1
            omega
          have hneb : bO ≠ b2 := by
            intro e
            obtain ⟨b9, c9, q1, q2, q3⟩ := HO5.out.form (by omega)
            obtain ⟨rfl, rfl, rfl⟩ : bO = b9 ∧ oO = 0 ∧ oc = c9 := by simp at q1; exact ⟨q1.1.1, q1.1.2, q1.2⟩
            have c1 := HO5.out.cellAt 0 (by omega)
            rw [Nat.add_zero] at s1
            rw [s1] at c1
            have hrow := (HRW5.out.2.1 0 (by omega)).1
            rw [← c1] at hrow
            rcases hrow.2 with ⟨h8, _⟩ | ⟨g8, c8, r8, h8, _, hh8, _⟩
            · simp at h8
            · have e8 : b2 = g8 := by simp at h8; exact h8.1.1
              rcases HO5.out.2 with ⟨h7, _⟩ | ⟨g7, c7, r7, h7, _, hh7, _⟩
              · simp at h7
              · have e7 : bO = g7 := by simp at h7; exact h7.1
                rw [← e8, ← e] at hh8
                rw [← e7, hh8] at hh7
                have : (3 : TypeId) = 27 := by injection hh7 with h1; injection h1
                exact absurd this (by decide)
          have hlen0 := HL.out 0 (by omega)
          rw [hlen0] at s1 s6
          rw [Nat.add_zero] at s1 s2 s3
          have S8 := Lib.hid s8
          obtain ⟨u, hu⟩ : ∃ u, u = (g[0]?.getD [])[0]?.getD 0 := ⟨_, rfl⟩
          rw [← hu] at s2
          have BB := Lib.hid ((Below.refl w5.heap.size w5).alloc (Nat.le_refl _) (.cells #[.int .i64 (-1), .int .i64 100, .int .i64 99] 3))
          have L3 := Lib.hid (lit3 w5 (-1) 100 99)
          have HRD6 : Hid (Rd (w5.alloc (.cells #[.int .i64 (-1), .int .i64 100, .int .i64 99] 3)).drew R (P' + 1)) := (HRD5.out.below BB.out HRD5.out.lt).below ((Below.refl (w5.alloc (.cells #[.int .i64 (-1), .int .i64 100, .int .i64 99] 3)).heap.size _).drew) (by have := HRD5.out.lt; simp; omega)
          have jk : (0 : Int) < (k : Int) := by omega
          have jk2 : 0 < k := by omega
          have jc : (0 : Int) < (cols : Int) := by omega
          have jc2 : 0 < cols := by omega
          clear hG5 s8 hu hform
          go_wp2
          have KA1 : Hid ((w5.alloc (.cells #[.int .i64 (-1), .int .i64 100, .int .i64 99] 3)).drew.cell? ⟨bO, oO, none⟩ = some (.slice (some ⟨b2, o2, none⟩) cols c2)) := (World.cell?_of_block (a := ⟨bO, oO, none⟩) (BB.out.block bO hbO.2)).trans s1
          have KA2 : Hid ((w5.alloc (.cells #[.int .i64 (-1), .int .i64 100, .int .i64 99] 3)).drew.cell? ⟨b2, o2, none⟩ = some (.int .i64 u)) := (World.cell?_of_block (a := ⟨b2, o2, none⟩) (BB.out.block b2 s5)).trans s2
          have KA3 : Hid ((w5.alloc (.cells #[.int .i64 (-1), .int .i64 100, .int .i64 99] 3)).drew.frozen? ⟨b2, o2, none⟩ = false) := (World.frozen?_of_block (a := ⟨b2, o2, none⟩) (BB.out.block b2 s5)).trans s3
          have hRlo : R + 1 ≤ w.heap.size := by omega
          have FIN : Hid (∀ (W : World) (y : Int), Touch R (R + 1) w5 W → Rd W R (P' + 1 + 1) → ∃ v g P'', Ending.returned (.slice (some ⟨bO, oO, none⟩) k oc) = .returned v ∧ OwnG w.heap.size (W.setCell ⟨b2, o2, none⟩ (.int .i64 y)).heap.size (W.setCell ⟨b2, o2, none⟩ (.int .i64 y)) v g ∧ g.length = k ∧ (∀ j, j < k → 1 ≤ (g[j]?.getD []).length ∧ (g[j]?.getD []).length ≤ 9) ∧ Rd (W.setCell ⟨b2, o2, none⟩ (.int .i64 y)) R P'' ∧ P'' ≤ P + 100 ∧ Touch R (R + 1) w (W.setCell ⟨b2, o2, none⟩ (.int .i64 y))) := fun W y hT hR => by
            have hz : w5.heap.size ≤ W.heap.size := hT.size
            have hzs : (W.setCell ⟨b2, o2, none⟩ (.int .i64 y)).heap.size = W.heap.size := by simp [World.setCell]
            have hg : OwnG w.heap.size w5.heap.size (W.setCell ⟨b2, o2, none⟩ (.int .i64 y)) (.slice (some ⟨bO, oO, none⟩) k oc) (g.set 0 ((g[0]?.getD []).set 0 y)) := OwnG.touch (S8.out y) (hT.both ⟨b2, o2, none⟩ (.int .i64 y)) (.inr hRlo)
            refine ⟨_, _, _, rfl, hg.mono (Nat.le_refl _) (by omega), by rw [List.length_set]; exact hgl, fun j hj => ?_, hR.below (B := w.heap.size) ((Below.refl w.heap.size W).setCell s4 _) hRw, by omega, (HT5.out.trans hT).then ((Below.refl w.heap.size W).setCell s4 _)⟩
            rw [setR_get (by omega)]
            have h0 := HL.out 0 (by omega)
            have hj' := HL.out j hj
            by_cases e : j = 0
            · rw [if_pos e, List.length_set]; omega
            · rw [if_neg e]; omega
          have PB : P' + 1 ≤ 1000000 ∧ (1 : Int) ≤ 3 ∧ (3 : Int) ≤ 1000000 := ⟨by omega, by omega, by omega⟩
          have HRD5d : Hid (Rd w5.drew R (P' + 1)) := HRD5.out.below ((Below.refl w5.heap.size w5).drew) HRD5.out.lt
          go_region_with (first | (go_at_call 77; (with_reducible refine (pick_i R (P' + 1) 3 (w5.alloc (.cells #[.int .i64 (-1), .int .i64 100, .int .i64 99] 3)).drew HRD6.out PB.1 PB.2.1 PB.2.2).mono ?_); rintro e w7 ⟨x, rfl, hx0, hx1, hrd7, ht7⟩; have hzz : (w5.alloc (.cells #[.int .i64 (-1), .int .i64 100, .int .i64 99] 3)).drew.heap.size = w5.heap.size + 1 := World.size_alloc _ _; have K1 := KA1.out; have K2 := KA2.out; have K3 := KA3.out; have hL7 := L3.out.drew.of_block (ht7.block w5.heap.size (by rw [hzz]; omega) (by omega)); obtain ⟨xn, rfl⟩ : ∃ n : Nat, x = (n : Int) := ⟨x.toNat, by omega⟩; have k1 : w7.cell? ⟨bO, oO, none⟩ = _ := (World.cell?_of_block (a := ⟨bO, oO, none⟩) (ht7.block bO (by rw [hzz]; omega) (by omega))).trans K1; have m1 : w7.cell? ⟨b2, o2, none⟩ = _ := (World.cell?_of_block (a := ⟨b2, o2, none⟩) (ht7.block b2 (by rw [hzz]; omega) (by omega))).trans K2; have m2 : w7.frozen? ⟨b2, o2, none⟩ = false := (World.frozen?_of_block (a := ⟨b2, o2, none⟩) (ht7.block b2 (by rw [hzz]; omega) (by omega))).trans K3; obtain ⟨y, hy⟩ : ∃ y : Int, y = [(-1 : Int), 100, 99][xn]?.getD 0 := ⟨_, rfl⟩; have x1 : (0 : Int) ≤ (xn : Int) := (by omega); have x2 : (xn : Int) < 3 := (by omega); have x3 : xn < 3 := (by omega); have HRD7 := Lib.hid hrd7; have HT7 := Lib.hid ht7; have m0 := hL7.cell (i := xn) x3; rw [← hy] at m0; have HA7 := Lib.hid (((Touch.refl R (R + 1) w5).new BB.out).drew.trans ht7); clear hy hL7 K1 K2 K3) | (go_at_call 77; (with_reducible refine (pick_i R (P' + 1) 3 w5.drew HRD5d.out PB.1 PB.2.1 PB.2.2).mono ?_); rintro e w7 ⟨x, rfl, hx0, hx1, hrd7, ht7⟩; have hzz : w5.drew.heap.size = w5.heap.size := rfl; have K1 := s1; have K2 := s2; have K3 := s3; obtain ⟨xn, rfl⟩ : ∃ n : Nat, x = (n : Int) := ⟨x.toNat, by omega⟩; have k1 : w7.cell? ⟨bO, oO, none⟩ = _ := (World.cell?_of_block (a := ⟨bO, oO, none⟩) (ht7.block bO (by rw [hzz]; omega) (by omega))).trans K1; have m1 : w7.cell? ⟨b2, o2, none⟩ = _ := (World.cell?_of_block (a := ⟨b2, o2, none⟩) (ht7.block b2 (by rw [hzz]; omega) (by omega))).trans K2; have m2 : w7.frozen? ⟨b2, o2, none⟩ = false := (World.frozen?_of_block (a := ⟨b2, o2, none⟩) (ht7.block b2 (by rw [hzz]; omega) (by omega))).trans K3; obtain ⟨y, hy⟩ : ∃ y : Int, y = [(-1 : Int), 100, 99][xn]?.getD 0 := ⟨_, rfl⟩; have x1 : (0 : Int) ≤ (xn : Int) := (by omega); have x2 : (xn : Int) < 3 := (by omega); have x3 : xn < 3 := (by omega); have HRD7 := Lib.hid hrd7; have HT7 := Lib.hid ht7; have hL7 := lit3 w7 (-1) 100 99; have m0 := hL7.cell (i := xn) x3; rw [← hy] at m0; have z7 : w5.heap.size ≤ w7.heap.size := ht7.size; have BB7 := (Below.refl w7.heap.size w7).alloc (Nat.le_refl _) (.cells #[.int .i64 (-1), .int .i64 100, .int .i64 99] 3); have k1b := (World.cell?_of_block (a := ⟨bO, oO, none⟩) (BB7.block bO (by omega))).trans k1; have m1b := (World.cell?_of_block (a := ⟨b2, o2, none⟩) (BB7.block b2 (by omega))).trans m1; have HA7 := Lib.hid ((Touch.refl R (R + 1) w5).drew.trans ht7); have HB7 := Lib.hid (((Touch.refl R (R + 1) w5).drew.trans ht7).new BB7); have HRDB := Lib.hid (hrd7.below BB7 hrd7.lt); have m2b := (World.frozen?_of_block (a := ⟨b2, o2, none⟩) (BB7.block b2 (by omega))).trans m2; clear BB7 hy hL7 K1 K2 K3) | fail)
          all_goals (go_wp2; go_ret; first | exact FIN.out w7 y HA7.out HRD7.out | exact FIN.out _ y HB7.out HRDB.out)
        · have q0 : (d == 0) = false := by simp [d0]
          by_cases d1 : d = 1
          · subst d1
            obtain ⟨m, rfl⟩ : ∃ m, k = m + 1 := ⟨k - 1, by omega⟩
            obtain ⟨bO, cO, hform, hbO, hbOl⟩ := HO5.out.form (by omega)
            obtain ⟨rfl, rfl⟩ : oa = some ⟨bO, 0, none⟩ ∧ oc = cO := by simp at hform; exact hform
            have hxl : xs.length = m + 1 := HRW5.out.1.trans hgl
            have c1 := HO5.out.cellAt m (by omega)
            have hxm : xs[m]? = some (xs[m]?.getD undef) := by simp [hxl]
            rw [hxm] at c1
            have f1 := HO5.out.frozenAt m
            have hrow := (HRW5.out.2.1 m (by omega)).1
            have hlm := HL.out m (by omega)
            obtain ⟨u, hu⟩ : ∃ u, u = xs[m]?.getD undef := ⟨_, rfl⟩
            obtain ⟨l, hl⟩ : ∃ l, l = g[m]?.getD [] := ⟨_, rfl⟩
            rw [← hl] at hrow hlm
            rw [← hu] at c1 hrow
            obtain ⟨ua, uc, hus⟩ := ownsRow_sl hrow
            have hbu : Hid (∀ b, u.ownBlock = some b → b ≠ bO ∧ w.heap.size ≤ b) := fun b hb => by
              refine ⟨fun e => ?_, (hrow.lt b hb).1⟩
              rcases hrow.2 with ⟨rfl, _⟩ | ⟨g9, c9, r9, rfl, _, hh9, _⟩
              · cases hb
              · have e9 : g9 = bO := by have : b = g9 := by simpa [Value.ownBlock] using hb.symm
                                        omega
                rcases HO5.out.2 with ⟨h8, _⟩ | ⟨g8, c8, r8, h8, _, hh8, _⟩
                · cases h8
                · have e8 : bO = g8 := by simp at h8; exact h8.1
                  rw [e9, e8, hh8] at hh9
                  have : (27 : TypeId) = 3 := by injection hh9 with h1; injection h1
                  exact absurd this (by decide)
            have HU := Lib.hid hu
            have HL2 := Lib.hid hl
            have HROW := Lib.hid hrow
            obtain ⟨i0, hi, hz0, hzz1, hzz2⟩ := info_parts info_int
            have HI := Lib.hid hi
            have HI0 := Lib.hid hz0
            have HI1 := Lib.hid hzz1
            have HI2 := Lib.hid hzz2
            subst hus
            have hl8 : l.length ≤ 8 := by omega
            have HLM := Lib.hid hlm
            have w1' : IntKind.i64.wrap ((m : Int) + 1 - 1) = (m : Int) := by rw [Int.add_sub_cancel]; exact IntWalk.i64_in _ (by omega)
            clear hu hl hrow hxm hi hz0 hzz1 hzz2 hlm hform
            go_wp2_with (at_builtin; refine wpList_append_lies _ rfl _ _ 27 rfl w.heap.size 3 i0 _ 1 8 Try.underlying27 HI.out HI0.out HI1.out HI2.out rfl (by decide) _ l.length _ rfl (HROW.out.alloc _) ⟨w5.heap.size, 0, none⟩ 1 1 [.int .i64 3] rfl rfl (fun j v hj => by match j, hj with | 0, hj => (simp at hj; subst hj; simp [Addr.add])) (fun v hv => by simp at hv; subst hv; rfl) (by decide) (by unfold maxLen; omega) (by omega) (by simp; omega) _ rfl ?_; intro g' cap' w6 hown6 hg6 hat6 hlt6; have HV6 := Lib.hid hown6; have HG6 := Lib.hid hg6; have HAT := Lib.hid hat6; have c6 := (World.cell?_of_block (a := ⟨bO, m, none⟩) (hg6.block bO (by simp; omega) (fun e => (hbu.out bO e.symm).1 rfl))).trans ((World.cell?_alloc_past _ _ _ hbOl).trans c1); have hO6 := ownsRow_tag2 (HO5.out.alloc (.cells #[.int .i64 3] 3)) (HROW.out.alloc _) hg6; have f6 := hO6.frozenAt m; have HO6 := Lib.hid hO6; clear hown6 hg6 hat6)
            go_ret
            have BB := (Below.refl w5.heap.size w5).alloc (Nat.le_refl _) (.cells #[.int .i64 3] 3)
            have hz6 := HG6.out.size
            simp at hz6
            have hv6 : w6.ownsRow w.heap.size 3 1 (.slice (some ⟨g', 0, none⟩) (l ++ [3]).length cap') (l ++ [3]).length ((l ++ [3]).map (Value.int .i64)) := by
              have h6 := HV6.out
              rw [List.map_append, List.length_append]
              exact h6
            have hrep := (HRW5.out.below BB).replace (m := m) (H := (w5.alloc (.cells #[.int .i64 3] 3)).heap.size) (by omega) (by rw [← HU.out]; exact HG6.out) (by simp) (.inr (Nat.le_refl _)) hv6 (by rw [← HU.out]; exact HAT.out) hlt6
            obtain ⟨st1, st2⟩ := HO6.out.stored m (.slice (some ⟨g', 0, none⟩) (l.length + 1) cap')
            have hel : (l ++ [(3 : Int)]).length = l.length + 1 := by simp
            rw [hel] at hrep
            have hrep2 := hrep.tag HO6.out st2
            have hgs : (g.set m (l ++ [3])).length = m + 1 := by rw [List.length_set]; exact hgl
            have hbb : ∀ b, (Value.slice ua l.length uc).ownBlock = some b → w.heap.size ≤ b := fun b hb => (hbu.out b hb).2
            have hsz7 := st2.size
            have hbO3 : ∀ b, some bO = some b → w.heap.size ≤ b := fun b hb => by cases hb; exact hbO
            refine ⟨_, g.set m (l ++ [3]), P' + 1, rfl, hrep2.ownG (v := .slice (some ⟨bO, 0, none⟩) (m + 1) oc) (by rw [hgs]; exact st1) (Nat.le_refl _), hgs, fun j hj => ?_, ?_, by omega, ?_⟩
            · rw [setR_get (by omega)]
              by_cases e : j = m
              · rw [if_pos e, hel, HLM.out]; omega
              · rw [if_neg e]
                have := HL.out j (by omega)
                omega
            · exact ((HRD5.out.below BB HRD5.out.lt).below (B := w.heap.size) ((Below.refl w.heap.size _).grown HG6.out (by simp; omega) hbb) hRw).below (B := w.heap.size) ((Below.refl w.heap.size _).grown st2 (by omega) hbO3) hRw
            · exact ((HT5.out.new BB).grown HG6.out hbb).grown st2 hbO3
          · have q1 : (d == 1) = false := by simp [d1]
            have HG := Lib.hid (HRW5.out.ownG (v := .slice oa k oc) (by rw [hgl]; exact HO5.out) (Nat.le_refl _))
            clear d0 d1
            go_wp2
            go_ret
            exact ⟨_, g, P' + 1, rfl, HG.out, hgl, fun j hj => by have := HL.out j hj; omega, HRD5.out, by omega, HT5.out⟩
  · have e0' : (c0 == 0) = false := by simp [e0]
    have HH2 := Lib.hid (HH1.alloc (.cells #[] 27))
    have B3 := Lib.hid ((Below.refl w1.heap.size w1).alloc (Nat.le_refl _) (.cells #[] 27))
    have B2 := B3
    have HO0 := Lib.hid (World.ownsRow_made (base := w.heap.size) (e := 27) (size := 1) w1 #[] 0 (by omega) (by decide) rfl)
    clear HH1
    go_wp2_with fail
    obtain ⟨W0, hW0⟩ : ∃ W, W = w1.alloc (.cells #[] 27) := ⟨_, rfl⟩
    have HRD2 := Lib.hid (HRD1.out.below B3.out (by omega))
    have HT2 := Lib.hid (HT1.out.then (B3.out.mono (by omega)))
    obtain ⟨hh, hhh⟩ : ∃ h, h = w.heap.size := ⟨_, rfl⟩
    obtain ⟨f, hf⟩ : ∃ f : Nat → Int, f = (fun i => [1, 2, 3, 4, 6, 9, 5, 2][i]?.getD 0) := ⟨_, rfl⟩
    have HHX : Hid (W0.rowIs hh 3 8 (fun i => .int .i64 (f i))) := by rw [hW0, hhh, hf]; exact HH2.out
    have HOX : Hid (W0.ownsRow w.heap.size 27 1 (.slice (some ⟨w1.heap.size, 0, none⟩) 0 0) 0 []) := by rw [hW0]; have h0 := HO0.out; (try simp only [World.size_alloc] at h0); exact h0
    rw [← hW0] at HRD2 HT2 ⊢
    have hlo : w.heap.size ≤ hh := by omega
    clear HH2 HO0 B2 B3 hf
    go_loopw [8, 9, 10, 11] (fun v i _ _ wr => ∃ (k P' : Nat) (xs : List Value) (g : Rows), k ≤ rows ∧ i = .int .i64 k ∧ wr.ownsRow w.heap.size 27 1 v k xs ∧ RowsW w.heap.size wr.heap.size wr xs g ∧ g.length = k ∧ (∀ j, j < k → (g[j]?.getD []).length = cols) ∧ wr.rowIs hh 3 8 (fun i => .int .i64 (f i)) ∧ Rd wr R P' ∧ P' ≤ P + 1 + 8 * k ∧ Touch R (R + 1) w wr) (fun _ i _ _ _ => rows - (intOf i).toNat)
    case atStart => exact ⟨0, P + 1, [], [], Nat.zero_le _, rfl, HOX.out, ⟨rfl, fun j hj => absurd hj (Nat.not_lt_zero _), fun i j hi => absurd hi (Nat.not_lt_zero _)⟩, rfl, fun j hj => absurd hj (Nat.not_lt_zero _), HHX.out, HRD2.out, by omega, HT2.out⟩
    case round =>
      obtain ⟨k, P', xs, g, hk, rfl, hout, hrows, hgl, hlens, hhr, hrd, hP', ht⟩ := hrel
      have HO := Lib.hid hout
      have HRW := Lib.hid hrows
      have HL := Lib.hid hlens
      have HHR := Lib.hid hhr
      have HRD := Lib.hid hrd
      have HT := Lib.hid ht
      have hsz := ht.size
      have hhl := hhr.lt
      have hRr := hrd.lt
      obtain ⟨oa, oc, rfl⟩ := ownsRow_sl hout
      clear hout hrows hlens hhr hrd ht
      by_cases hlt : k < rows
      · have BA := Lib.hid ((Below.refl wr.heap.size wr).alloc (Nat.le_refl _) (.cells #[] 3))
        have HV0 := Lib.hid (World.ownsRow_made (base := wr.heap.size) (e := 3) (size := 1) wr #[] 0 (Nat.le_refl _) (by decide) rfl)
        have BO : Hid (∀ b, (Value.slice oa k oc).ownBlock = some b → b < wr.heap.size) := fun b hb => (HO.out.lt b hb).2
        obtain ⟨M, hM⟩ : ∃ M, M = wr.heap.size := ⟨_, rfl⟩
        go_wp2
        obtain ⟨wo, rfl⟩ : ∃ wo : World, wo = wr := ⟨_, rfl⟩
        have HMM := Lib.hid hM
        rw [← hM] at hsz hhl HRW HV0 BO ⊢
        clear hM
        go_loopw [10, 11] (fun v i wi => ∃ (j P'' : Nat) (l : List Int), j ≤ cols ∧ i = .int .i64 j ∧ l.length = j ∧ wi.ownsRow M 3 1 v l.length (l.map (Value.int .i64)) ∧ wi.ownsRow w.heap.size 27 1 (.slice oa k oc) k xs ∧ RowsW w.heap.size M wi xs g ∧ M ≤ wi.heap.size ∧ wi.rowIs hh 3 8 (fun i => .int .i64 (f i)) ∧ Rd wi R P'' ∧ P'' ≤ P' + j ∧ Touch R (R + 1) w wi) (fun _ i _ => cols - (intOf i).toNat)
        case atStart => exact ⟨0, P', [], Nat.zero_le _, rfl, rfl, HV0.out, ownsRow_bel HO.out BA.out, HRW.out.below BA.out, by rw [HMM.out]; simp, HHR.out.alloc _, HRD.out.below BA.out hRr, Nat.le_refl _, HT.out.new BA.out⟩
        case round =>
          obtain ⟨wi, rfl⟩ : ∃ wi : World, wi = wr := ⟨_, rfl⟩
          obtain ⟨j, P'', l, hj, rfl, hll, hv, hout, hrows, hMi, hhr, hrd, hP'', ht⟩ := hrel
          have HV := Lib.hid hv
          have HO2 := Lib.hid hout
          have HRW2 := Lib.hid hrows
          have HHR2 := Lib.hid hhr
          have HRD2' := Lib.hid hrd
          have HT2' := Lib.hid ht
          have hs2 := ht.size
          have hhl2 := hhr.lt
          obtain ⟨va, vc, rfl⟩ := ownsRow_sl hv
          have hl8 : l.length ≤ 8 := by omega
          have HLL := Lib.hid hll
          clear hll hv hout hrows hhr hrd ht
          by_cases hjl : j < cols
          · go_wp2_with fail
            refine (pick_i R P'' _ _ HRD2'.out (by omega) (by omega) (by omega)).mono ?_
            rintro e w5 ⟨d, rfl, hd0, hd1, hrd5, ht5⟩
            obtain ⟨dn, rfl⟩ : ∃ n : Nat, d = (n : Int) := ⟨d.toNat, by omega⟩
            have HRD5 := Lib.hid hrd5
            have HT5 := Lib.hid (HT2'.out.trans ht5)
            have hs5 := ht5.size
            have HV5 := Lib.hid (ownsRow_pick HV.out ht5 (by omega))
            have HO5 := Lib.hid (ownsRow_pick HO2.out ht5 hRw)
            have HRW5 := Lib.hid (HRW2.out.pick ht5 hRw)
            have hh5 := HHR2.out.of_block (ht5.block hh hhl2 (by omega))
            have HHR5 := Lib.hid hh5
            have hcell := hh5.cell (i := dn) (by omega)
            have jd1 : (0 : Int) ≤ (dn : Int) := by omega
            have jd2 : (dn : Int) < 8 := by omega
            have jd3 : dn < 8 := by omega
            obtain ⟨x, hx⟩ : ∃ x, x = f dn := ⟨_, rfl⟩
            rw [← hx, hhh] at hcell
            clear hrd5 ht5 hh5 hx
            go_wp2_with (at_builtin; refine app_ints _ rfl _ _ rfl M _ l _ [x] (HV5.out.alloc _) ints_one rfl rfl (by simp; omega) (by simp; omega) ?_; intro v6 w6 hown6 hg6; have HV6 := Lib.hid hown6; have HG6 := Lib.hid hg6; clear hown6 hg6)
            go_roundw
            case rel =>
              have BB := (Below.refl w5.heap.size w5).alloc (Nat.le_refl _) (.cells #[.int .i64 x] 3)
              have hrow : ∀ b, (Value.slice va l.length vc).ownBlock = some b → M ≤ b := fun b hb => (HV5.out.lt b hb).1
              have hz6 := HG6.out.size
              simp at hz6
              refine ⟨j + 1, P'' + 1, l ++ [x], by omega, by go_num, by rw [List.length_append, HLL.out]; rfl, HV6.out, ownsRow_tag2 (ownsRow_bel HO5.out BB) (HV5.out.alloc _) HG6.out, (HRW5.out.below BB).far HG6.out hrow, by omega, (HHR5.out.alloc _).of_block (HG6.out.block hh (by simp; omega) (fun e => by have := hrow hh e.symm; omega)), ?_, by omega, (HT5.out.new BB).grown HG6.out (fun b hb => by have := hrow b hb; omega)⟩
              exact (HRD5.out.below BB HRD5.out.lt).below (B := M) ((Below.refl M _).grown HG6.out (by simp; omega) hrow) (by omega)
            case measure => simp [intOf]; omega
          · obtain rfl : j = cols := by omega
            have HX := Lib.hid (show (wi.alloc (.cells #[.slice va l.length vc] 27)).cell? ⟨wi.heap.size, 0, none⟩ = some (.slice va l.length vc) from by simp)
            have HO6 := Lib.hid (HO2.out.alloc (.cells #[.slice va l.length vc] 27))
            go_wp2_with (at_builtin; refine app_row _ rfl _ _ rfl w.heap.size _ k xs wi.heap.size _ _ _ HO6.out HX.out rfl rfl (by omega) (by simp; omega) ?_; intro v7 w7 hown7 hg7; have HO7 := Lib.hid hown7; have HG7 := Lib.hid hg7; clear hown7 hg7)
            go_roundw
            case rel =>
              have BB := (Below.refl wi.heap.size wi).alloc (Nat.le_refl _) (.cells #[.slice va l.length vc] 27)
              have hz7 := HG7.out.size
              simp at hz7
              have hblk : ∀ b, (Value.slice oa k oc).ownBlock = some b → w.heap.size ≤ b := fun b hb => (HO6.out.lt b hb).1
              refine ⟨k + 1, P'', xs ++ [.slice va l.length vc], g ++ [l], by omega, by go_num, HO7.out, (HRW2.out.below BB).snoc (l := l) ((ownsRow_lower HV.out (by omega)).alloc _) (fun b hb => ⟨(HV.out.lt b hb).1, by have := (HV.out.lt b hb).2; omega⟩) (by omega) HO6.out HG7.out, by simp [hgl], fun i hi => ?_, rowIs_tag (HHR2.out.alloc _) HO6.out HG7.out, ?_, by omega, (HT2'.out.new BB).grown HG7.out hblk⟩
              · rw [getR_app]
                by_cases e : i < g.length
                · rw [if_pos e]; exact HL.out i (by omega)
                · rw [if_neg e, if_pos (by omega)]; exact HLL.out
              · exact (HRD2'.out.below BB HRD2'.out.lt).below (B := w.heap.size) ((Below.refl w.heap.size _).grown HG7.out (by simp; omega) hblk) hRw
            case measure => simp [intOf]; omega
      · obtain rfl : k = rows := by omega
        go_wp2_with fail
        refine (pick_i R P' _ _ HRD.out (by omega) (by omega) (by omega)).mono ?_
        rintro e w5 ⟨d, rfl, hd0, hd1, hrd5, ht5⟩
        have HRD5 := Lib.hid hrd5
        have HT5 := Lib.hid (HT.out.trans ht5)
        have hs5 := ht5.size
        have HO5 := Lib.hid (ownsRow_pick HO.out ht5 hRw)
        have HRW5 := Lib.hid ((HRW.out.pick ht5 hRw).mono hs5)
        clear hrd5 ht5
        by_cases d0 : d = 0
        · subst d0
          have hG5 := HRW5.out.ownG (v := .slice oa k oc) (by rw [hgl]; exact HO5.out) (Nat.le_refl _)
          obtain ⟨bO, oO, cO, b2, o2, c2, hform, s1, s2, s3, s4, s5, s6, s7, s8⟩ := hG5.cell (r := 0) (c := 0) (by omega) (by have := HL.out 0 (by omega); omega)
          rw [hgl] at hform
          obtain ⟨rfl, rfl⟩ : oa = some ⟨bO, oO, none⟩ ∧ oc = cO := by simp at hform; exact hform
          have hbO : w.heap.size ≤ bO ∧ bO < w5.heap.size := by
            obtain ⟨b9, c9, q1, q2, q3⟩ := HO5.out.form (by omega)
            have : bO = b9 := by simp at q1; exact q1.1.1
            omega
          have hneb : bO ≠ b2 := by
            intro e
            obtain ⟨b9, c9, q1, q2, q3⟩ := HO5.out.form (by omega)
            obtain ⟨rfl, rfl, rfl⟩ : bO = b9 ∧ oO = 0 ∧ oc = c9 := by simp at q1; exact ⟨q1.1.1, q1.1.2, q1.2⟩
            have c1 := HO5.out.cellAt 0 (by omega)
            rw [Nat.add_zero] at s1
            rw [s1] at c1
            have hrow := (HRW5.out.2.1 0 (by omega)).1
            rw [← c1] at hrow
            rcases hrow.2 with ⟨h8, _⟩ | ⟨g8, c8, r8, h8, _, hh8, _⟩
            · simp at h8
            · have e8 : b2 = g8 := by simp at h8; exact h8.1.1
              rcases HO5.out.2 with ⟨h7, _⟩ | ⟨g7, c7, r7, h7, _, hh7, _⟩
              · simp at h7
              · have e7 : bO = g7 := by simp at h7; exact h7.1
                rw [← e8, ← e] at hh8
                rw [← e7, hh8] at hh7
                have : (3 : TypeId) = 27 := by injection hh7 with h1; injection h1
                exact absurd this (by decide)
          have hlen0 := HL.out 0 (by omega)
          rw [hlen0] at s1 s6
          rw [Nat.add_zero] at s1 s2 s3
          have S8 := Lib.hid s8
          obtain ⟨u, hu⟩ : ∃ u, u = (g[0]?.getD [])[0]?.getD 0 := ⟨_, rfl⟩
          rw [← hu] at s2
          have BB := Lib.hid ((Below.refl w5.heap.size w5).alloc (Nat.le_refl _) (.cells #[.int .i64 (-1), .int .i64 100, .int .i64 99] 3))
          have L3 := Lib.hid (lit3 w5 (-1) 100 99)
          have HRD6 : Hid (Rd (w5.alloc (.cells #[.int .i64 (-1), .int .i64 100, .int .i64 99] 3)).drew R (P' + 1)) := (HRD5.out.below BB.out HRD5.out.lt).below ((Below.refl (w5.alloc (.cells #[.int .i64 (-1), .int .i64 100, .int .i64 99] 3)).heap.size _).drew) (by have := HRD5.out.lt; simp; omega)
          have jk : (0 : Int) < (k : Int) := by omega
          have jk2 : 0 < k := by omega
          have jc : (0 : Int) < (cols : Int) := by omega
          have jc2 : 0 < cols := by omega
          clear hG5 s8 hu hform
          go_wp2
          have KA1 : Hid ((w5.alloc (.cells #[.int .i64 (-1), .int .i64 100, .int .i64 99] 3)).drew.cell? ⟨bO, oO, none⟩ = some (.slice (some ⟨b2, o2, none⟩) cols c2)) := (World.cell?_of_block (a := ⟨bO, oO, none⟩) (BB.out.block bO hbO.2)).trans s1
          have KA2 : Hid ((w5.alloc (.cells #[.int .i64 (-1), .int .i64 100, .int .i64 99] 3)).drew.cell? ⟨b2, o2, none⟩ = some (.int .i64 u)) := (World.cell?_of_block (a := ⟨b2, o2, none⟩) (BB.out.block b2 s5)).trans s2
          have KA3 : Hid ((w5.alloc (.cells #[.int .i64 (-1), .int .i64 100, .int .i64 99] 3)).drew.frozen? ⟨b2, o2, none⟩ = false) := (World.frozen?_of_block (a := ⟨b2, o2, none⟩) (BB.out.block b2 s5)).trans s3
          have hRlo : R + 1 ≤ w.heap.size := by omega
          have FIN : Hid (∀ (W : World) (y : Int), Touch R (R + 1) w5 W → Rd W R (P' + 1 + 1) → ∃ v g P'', Ending.returned (.slice (some ⟨bO, oO, none⟩) k oc) = .returned v ∧ OwnG w.heap.size (W.setCell ⟨b2, o2, none⟩ (.int .i64 y)).heap.size (W.setCell ⟨b2, o2, none⟩ (.int .i64 y)) v g ∧ g.length = k ∧ (∀ j, j < k → 1 ≤ (g[j]?.getD []).length ∧ (g[j]?.getD []).length ≤ 9) ∧ Rd (W.setCell ⟨b2, o2, none⟩ (.int .i64 y)) R P'' ∧ P'' ≤ P + 100 ∧ Touch R (R + 1) w (W.setCell ⟨b2, o2, none⟩ (.int .i64 y))) := fun W y hT hR => by
            have hz : w5.heap.size ≤ W.heap.size := hT.size
            have hzs : (W.setCell ⟨b2, o2, none⟩ (.int .i64 y)).heap.size = W.heap.size := by simp [World.setCell]
            have hg : OwnG w.heap.size w5.heap.size (W.setCell ⟨b2, o2, none⟩ (.int .i64 y)) (.slice (some ⟨bO, oO, none⟩) k oc) (g.set 0 ((g[0]?.getD []).set 0 y)) := OwnG.touch (S8.out y) (hT.both ⟨b2, o2, none⟩ (.int .i64 y)) (.inr hRlo)
            refine ⟨_, _, _, rfl, hg.mono (Nat.le_refl _) (by omega), by rw [List.length_set]; exact hgl, fun j hj => ?_, hR.below (B := w.heap.size) ((Below.refl w.heap.size W).setCell s4 _) hRw, by omega, (HT5.out.trans hT).then ((Below.refl w.heap.size W).setCell s4 _)⟩
            rw [setR_get (by omega)]
            have h0 := HL.out 0 (by omega)
            have hj' := HL.out j hj
            by_cases e : j = 0
            · rw [if_pos e, List.length_set]; omega
            · rw [if_neg e]; omega
          have PB : P' + 1 ≤ 1000000 ∧ (1 : Int) ≤ 3 ∧ (3 : Int) ≤ 1000000 := ⟨by omega, by omega, by omega⟩
          have HRD5d : Hid (Rd w5.drew R (P' + 1)) := HRD5.out.below ((Below.refl w5.heap.size w5).drew) HRD5.out.lt
          go_region_with (first | (go_at_call 77; (with_reducible refine (pick_i R (P' + 1) 3 (w5.alloc (.cells #[.int .i64 (-1), .int .i64 100, .int .i64 99] 3)).drew HRD6.out PB.1 PB.2.1 PB.2.2).mono ?_); rintro e w7 ⟨x, rfl, hx0, hx1, hrd7, ht7⟩; have hzz : (w5.alloc (.cells #[.int .i64 (-1), .int .i64 100, .int .i64 99] 3)).drew.heap.size = w5.heap.size + 1 := World.size_alloc _ _; have K1 := KA1.out; have K2 := KA2.out; have K3 := KA3.out; have hL7 := L3.out.drew.of_block (ht7.block w5.heap.size (by rw [hzz]; omega) (by omega)); obtain ⟨xn, rfl⟩ : ∃ n : Nat, x = (n : Int) := ⟨x.toNat, by omega⟩; have k1 : w7.cell? ⟨bO, oO, none⟩ = _ := (World.cell?_of_block (a := ⟨bO, oO, none⟩) (ht7.block bO (by rw [hzz]; omega) (by omega))).trans K1; have m1 : w7.cell? ⟨b2, o2, none⟩ = _ := (World.cell?_of_block (a := ⟨b2, o2, none⟩) (ht7.block b2 (by rw [hzz]; omega) (by omega))).trans K2; have m2 : w7.frozen? ⟨b2, o2, none⟩ = false := (World.frozen?_of_block (a := ⟨b2, o2, none⟩) (ht7.block b2 (by rw [hzz]; omega) (by omega))).trans K3; obtain ⟨y, hy⟩ : ∃ y : Int, y = [(-1 : Int), 100, 99][xn]?.getD 0 := ⟨_, rfl⟩; have x1 : (0 : Int) ≤ (xn : Int) := (by omega); have x2 : (xn : Int) < 3 := (by omega); have x3 : xn < 3 := (by omega); have HRD7 := Lib.hid hrd7; have HT7 := Lib.hid ht7; have m0 := hL7.cell (i := xn) x3; rw [← hy] at m0; have HA7 := Lib.hid (((Touch.refl R (R + 1) w5).new BB.out).drew.trans ht7); clear hy hL7 K1 K2 K3) | (go_at_call 77; (with_reducible refine (pick_i R (P' + 1) 3 w5.drew HRD5d.out PB.1 PB.2.1 PB.2.2).mono ?_); rintro e w7 ⟨x, rfl, hx0, hx1, hrd7, ht7⟩; have hzz : w5.drew.heap.size = w5.heap.size := rfl; have K1 := s1; have K2 := s2; have K3 := s3; obtain ⟨xn, rfl⟩ : ∃ n : Nat, x = (n : Int) := ⟨x.toNat, by omega⟩; have k1 : w7.cell? ⟨bO, oO, none⟩ = _ := (World.cell?_of_block (a := ⟨bO, oO, none⟩) (ht7.block bO (by rw [hzz]; omega) (by omega))).trans K1; have m1 : w7.cell? ⟨b2, o2, none⟩ = _ := (World.cell?_of_block (a := ⟨b2, o2, none⟩) (ht7.block b2 (by rw [hzz]; omega) (by omega))).trans K2; have m2 : w7.frozen? ⟨b2, o2, none⟩ = false := (World.frozen?_of_block (a := ⟨b2, o2, none⟩) (ht7.block b2 (by rw [hzz]; omega) (by omega))).trans K3; obtain ⟨y, hy⟩ : ∃ y : Int, y = [(-1 : Int), 100, 99][xn]?.getD 0 := ⟨_, rfl⟩; have x1 : (0 : Int) ≤ (xn : Int) := (by omega); have x2 : (xn : Int) < 3 := (by omega); have x3 : xn < 3 := (by omega); have HRD7 := Lib.hid hrd7; have HT7 := Lib.hid ht7; have hL7 := lit3 w7 (-1) 100 99; have m0 := hL7.cell (i := xn) x3; rw [← hy] at m0; have z7 : w5.heap.size ≤ w7.heap.size := ht7.size; have BB7 := (Below.refl w7.heap.size w7).alloc (Nat.le_refl _) (.cells #[.int .i64 (-1), .int .i64 100, .int .i64 99] 3); have k1b := (World.cell?_of_block (a := ⟨bO, oO, none⟩) (BB7.block bO (by omega))).trans k1; have m1b := (World.cell?_of_block (a := ⟨b2, o2, none⟩) (BB7.block b2 (by omega))).trans m1; have HA7 := Lib.hid ((Touch.refl R (R + 1) w5).drew.trans ht7); have HB7 := Lib.hid (((Touch.refl R (R + 1) w5).drew.trans ht7).new BB7); have HRDB := Lib.hid (hrd7.below BB7 hrd7.lt); have m2b := (World.frozen?_of_block (a := ⟨b2, o2, none⟩) (BB7.block b2 (by omega))).trans m2; clear BB7 hy hL7 K1 K2 K3) | fail)
          all_goals (go_wp2; go_ret; first | exact FIN.out w7 y HA7.out HRD7.out | exact FIN.out _ y HB7.out HRDB.out)
        · have q0 : (d == 0) = false := by simp [d0]
          by_cases d1 : d = 1
          · subst d1
            obtain ⟨m, rfl⟩ : ∃ m, k = m + 1 := ⟨k - 1, by omega⟩
            obtain ⟨bO, cO, hform, hbO, hbOl⟩ := HO5.out.form (by omega)
            obtain ⟨rfl, rfl⟩ : oa = some ⟨bO, 0, none⟩ ∧ oc = cO := by simp at hform; exact hform
            have hxl : xs.length = m + 1 := HRW5.out.1.trans hgl
            have c1 := HO5.out.cellAt m (by omega)
            have hxm : xs[m]? = some (xs[m]?.getD undef) := by simp [hxl]
            rw [hxm] at c1
            have f1 := HO5.out.frozenAt m
            have hrow := (HRW5.out.2.1 m (by omega)).1
            have hlm := HL.out m (by omega)
            obtain ⟨u, hu⟩ : ∃ u, u = xs[m]?.getD undef := ⟨_, rfl⟩
            obtain ⟨l, hl⟩ : ∃ l, l = g[m]?.getD [] := ⟨_, rfl⟩
            rw [← hl] at hrow hlm
            rw [← hu] at c1 hrow
            obtain ⟨ua, uc, hus⟩ := ownsRow_sl hrow
            have hbu : Hid (∀ b, u.ownBlock = some b → b ≠ bO ∧ w.heap.size ≤ b) := fun b hb => by
              refine ⟨fun e => ?_, (hrow.lt b hb).1⟩
              rcases hrow.2 with ⟨rfl, _⟩ | ⟨g9, c9, r9, rfl, _, hh9, _⟩
              · cases hb
              · have e9 : g9 = bO := by have : b = g9 := by simpa [Value.ownBlock] using hb.symm
                                        omega
                rcases HO5.out.2 with ⟨h8, _⟩ | ⟨g8, c8, r8, h8, _, hh8, _⟩
                · cases h8
                · have e8 : bO = g8 := by simp at h8; exact h8.1
                  rw [e9, e8, hh8] at hh9
                  have : (27 : TypeId) = 3 := by injection hh9 with h1; injection h1
                  exact absurd this (by decide)
            have HU := Lib.hid hu
            have HL2 := Lib.hid hl
            have HROW := Lib.hid hrow
            obtain ⟨i0, hi, hz0, hzz1, hzz2⟩ := info_parts info_int
            have HI := Lib.hid hi
            have HI0 := Lib.hid hz0
            have HI1 := Lib.hid hzz1
            have HI2 := Lib.hid hzz2
            subst hus
            have hl8 : l.length ≤ 8 := by omega
            have HLM := Lib.hid hlm
            have w1' : IntKind.i64.wrap ((m : Int) + 1 - 1) = (m : Int) := by rw [Int.add_sub_cancel]; exact IntWalk.i64_in _ (by omega)
            clear hu hl hrow hxm hi hz0 hzz1 hzz2 hlm hform
            go_wp2_with (at_builtin; refine wpList_append_lies _ rfl _ _ 27 rfl w.heap.size 3 i0 _ 1 8 Try.underlying27 HI.out HI0.out HI1.out HI2.out rfl (by decide) _ l.length _ rfl (HROW.out.alloc _) ⟨w5.heap.size, 0, none⟩ 1 1 [.int .i64 3] rfl rfl (fun j v hj => by match j, hj with | 0, hj => (simp at hj; subst hj; simp [Addr.add])) (fun v hv => by simp at hv; subst hv; rfl) (by decide) (by unfold maxLen; omega) (by omega) (by simp; omega) _ rfl ?_; intro g' cap' w6 hown6 hg6 hat6 hlt6; have HV6 := Lib.hid hown6; have HG6 := Lib.hid hg6; have HAT := Lib.hid hat6; have c6 := (World.cell?_of_block (a := ⟨bO, m, none⟩) (hg6.block bO (by simp; omega) (fun e => (hbu.out bO e.symm).1 rfl))).trans ((World.cell?_alloc_past _ _ _ hbOl).trans c1); have hO6 := ownsRow_tag2 (HO5.out.alloc (.cells #[.int .i64 3] 3)) (HROW.out.alloc _) hg6; have f6 := hO6.frozenAt m; have HO6 := Lib.hid hO6; clear hown6 hg6 hat6)
            go_ret
            have BB := (Below.refl w5.heap.size w5).alloc (Nat.le_refl _) (.cells #[.int .i64 3] 3)
            have hz6 := HG6.out.size
            simp at hz6
            have hv6 : w6.ownsRow w.heap.size 3 1 (.slice (some ⟨g', 0, none⟩) (l ++ [3]).length cap') (l ++ [3]).length ((l ++ [3]).map (Value.int .i64)) := by
              have h6 := HV6.out
              rw [List.map_append, List.length_append]
              exact h6
            have hrep := (HRW5.out.below BB).replace (m := m) (H := (w5.alloc (.cells #[.int .i64 3] 3)).heap.size) (by omega) (by rw [← HU.out]; exact HG6.out) (by simp) (.inr (Nat.le_refl _)) hv6 (by rw [← HU.out]; exact HAT.out) hlt6
            obtain ⟨st1, st2⟩ := HO6.out.stored m (.slice (some ⟨g', 0, none⟩) (l.length + 1) cap')
            have hel : (l ++ [(3 : Int)]).length = l.length + 1 := by simp
            rw [hel] at hrep
            have hrep2 := hrep.tag HO6.out st2
            have hgs : (g.set m (l ++ [3])).length = m + 1 := by rw [List.length_set]; exact hgl
            have hbb : ∀ b, (Value.slice ua l.length uc).ownBlock = some b → w.heap.size ≤ b := fun b hb => (hbu.out b hb).2
            have hsz7 := st2.size
            have hbO3 : ∀ b, some bO = some b → w.heap.size ≤ b := fun b hb => by cases hb; exact hbO
            refine ⟨_, g.set m (l ++ [3]), P' + 1, rfl, hrep2.ownG (v := .slice (some ⟨bO, 0, none⟩) (m + 1) oc) (by rw [hgs]; exact st1) (Nat.le_refl _), hgs, fun j hj => ?_, ?_, by omega, ?_⟩
            · rw [setR_get (by omega)]
              by_cases e : j = m
              · rw [if_pos e, hel, HLM.out]; omega
              · rw [if_neg e]
                have := HL.out j (by omega)
                omega
            · exact ((HRD5.out.below BB HRD5.out.lt).below (B := w.heap.size) ((Below.refl w.heap.size _).grown HG6.out (by simp; omega) hbb) hRw).below (B := w.heap.size) ((Below.refl w.heap.size _).grown st2 (by omega) hbO3) hRw
            · exact ((HT5.out.new BB).grown HG6.out hbb).grown st2 hbO3
          · have q1 : (d == 1) = false := by simp [d1]
            have HG := Lib.hid (HRW5.out.ownG (v := .slice oa k oc) (by rw [hgl]; exact HO5.out) (Nat.le_refl _))
            clear d0 d1
            go_wp2
            go_ret
            exact ⟨_, g, P' + 1, rfl, HG.out, hgl, fun j hj => by have := HL.out j hj; omega, HRD5.out, by omega, HT5.out⟩
end Go.Proofs.Ytdelcebkpdnnjaa
