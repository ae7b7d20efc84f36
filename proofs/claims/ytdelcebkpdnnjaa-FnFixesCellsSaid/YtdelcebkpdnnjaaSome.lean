/-
  l92Some: so many corrections of a grid are drawn, seldom other ones; nothing that was there turns but the reader. Conditions: a reader; a drawn grid beside it.
-/
import Derived.Test.YtdelcebkpdnnjaaSides
import Derived.Test.YtdelcebkpdnnjaaSpecDo
import Derived.Maps.AppendAt
namespace Go.Proofs.Ytdelcebkpdnnjaa
open Go.RowKit Go.Deep Go.Sort BigFrame

theorem touch_row {w w' : World} {k : Nat} (hg : w.grownBy w' (some k)) : Touch k (k + 1) w w' :=
  ⟨hg.os, hg.tape, hg.output, hg.size, fun j hj hn => hg.block j hj (fun e => by cases e; omega)⟩
theorem touch_none {w w' : World} (hg : w.grownBy w' none) (k : Nat) : Touch k k w w' :=
  ⟨hg.os, hg.tape, hg.output, hg.size, fun j hj _ => hg.block j hj (fun e => by cases e)⟩
theorem OwnG.away {lo hi : Nat} {w w' : World} {v : Value} {g : Rows} {row : Option Nat} (h : OwnG lo hi w v g) (hg : w.grownBy w' row) (hr : ∀ k, row = some k → k < lo ∨ hi ≤ k) : OwnG lo hi w' v g := by
  cases row with
  | none => exact h.touch (touch_none hg hi) (.inl (Nat.le_refl _))
  | some k => exact h.touch (touch_row hg) (by have := hr k rfl; omega)
theorem Rd.away {w w' : World} {R P : Nat} {row : Option Nat} (h : Rd w R P) (hg : w.grownBy w' row) (hr : ∀ k, row = some k → R < k) : Rd w' R P := by
  cases row with
  | none => exact h.touch (touch_none hg (R + 1)) (by omega)
  | some k => exact h.touch (touch_row hg) (hr k rfl)
theorem cells4_at {W : World} {x0 x1 x2 x3 : Value} {t : TypeId} {N : Nat} (hN : W.heap.size = N) (j : Nat) (u : Value) (h : [x0, x1, x2, x3][j]? = some u) : (W.alloc (.cells #[x0, x1, x2, x3] t)).cell? ((⟨N, 0, none⟩ : Addr).add j) = some u := by
  subst hN
  have hj : j < 4 := by have := (List.getElem?_eq_some_iff.1 h).1; simpa using this
  match j, hj with
  | 0, _ => rw [addr_add]; simpa using h
  | 1, _ => rw [addr_add]; simpa using h
  | 2, _ => rw [addr_add]; simpa using h
  | 3, _ => rw [addr_add]; simpa using h
theorem flat_one (q : Quad) : flat [q] = [.int .i64 q.1, .int .i64 q.2.1, .int .i64 q.2.2.1, .int .i64 q.2.2.2] := by
  simp [flat, List.range_succ, qcell]
/-- append(out, q), and where the new slice lies -/
theorem app_quad_at {ops : Array Oper} {rest : List Oper} {o : Oper} {a : Act} {Q : Exit → Act → World → Prop} (W : World) (hgd : o.guard = none) (s x : Operand)
    (ho : o.op = .call { callee := .builtin .append, args := #[s, x], argTypes := #[24, 24] }) (base : Nat) (v : Value) (l : List Quad) (q : Quad)
    (hown : W.ownsRow base 41 4 v l.length (flat l)) (hs : a.eval s = v) (N : Nat) (hc : ∀ (j : Nat) (u : Value), [Value.int .i64 q.1, .int .i64 q.2.1, .int .i64 q.2.2.1, .int .i64 q.2.2.2][j]? = some u → W.cell? ((⟨N, 0, none⟩ : Addr).add j) = some u) (hx : a.eval x = .slice (some ⟨N, 0, none⟩) 1 1) (hlen : l.length ≤ 1000000) (hb : base ≤ W.heap.size)
    (h : ∀ v' w', w'.ownsRow base 41 4 v' (l ++ [q]).length (flat (l ++ [q])) → W.grownBy w' v.ownBlock → (v'.ownBlock = v.ownBlock ∨ v'.ownBlock = some W.heap.size) → wpList Try.prog ops Q rest (a.put o.dst v') w') :
    wpList Try.prog ops Q (o :: rest) a W := by
  obtain ⟨i0, hi, hz0, hz1, hz2⟩ := info_parts info_fix
  refine wpList_append_own_at _ hgd s x 24 ho base 41 i0 _ 4 32 Try.underlying24 hi hz0 hz1 hz2 rfl (by decide) v l.length _ hs hown ⟨N, 0, none⟩ 1 1 [.int .i64 q.1, .int .i64 q.2.1, .int .i64 q.2.2.1, .int .i64 q.2.2.2] hx rfl hc (by simp [Value.oneCell']) (by unfold maxLen; omega) (by omega) hb ?_
  intro v' w' r1 r2 _ r4
  exact h v' w' (by rw [flat_append, List.length_append, flat_one]; exact r1) r2 r4
theorem ownsRow_blk {W W' : World} {base n size : Nat} {e : TypeId} {v : Value} {xs : List Value} (h : W.ownsRow base e size v n xs) (hb : ∀ k, v.ownBlock = some k → W'.heap[k]? = W.heap[k]?) : W'.ownsRow base e size v n xs := by
  refine ⟨h.1, ?_⟩
  rcases h.2 with h | ⟨g, cp, cur, e1, e2, e3, e4⟩
  · exact .inl h
  · exact .inr ⟨g, cp, cur, e1, e2, (hb g (by rw [e1]; rfl)).trans e3, e4⟩
theorem ownQ_setW {w : World} {lo hi b off cap n : Nat} {t : TypeId} {l : List Quad} {f : Nat → Value} (z : Int) (hp : 0 < l.length) (h1 : l.length ≤ cap) (h2 : cap ≤ 9223372036854775807) (h3 : lo ≤ b) (h4 : b < hi) (h5 : w.rowIs b t n f) (h6 : off + l.length * 4 ≤ n)
    (h7 : ∀ j, j < l.length → f (off + j * 4) = .int .i64 (l[j]?.getD q0).1 ∧ f (off + j * 4 + 1) = .int .i64 (l[j]?.getD q0).2.1 ∧ f (off + j * 4 + 2) = .int .i64 (l[j]?.getD q0).2.2.1 ∧ f (off + j * 4 + 3) = .int .i64 (l[j]?.getD q0).2.2.2) :
    OwnQ lo hi (w.setCell ⟨b, off + 2, none⟩ (.int .i64 z)) (.slice (some ⟨b, off, none⟩) l.length cap) (l.set 0 ((l[0]?.getD q0).1, (l[0]?.getD q0).2.1, z, (l[0]?.getD q0).2.2.2)) := by
  have hl : (l.set 0 ((l[0]?.getD q0).1, (l[0]?.getD q0).2.1, z, (l[0]?.getD q0).2.2.2)).length = l.length := by simp
  refine .inr ⟨b, off, cap, t, n, _, by rw [hl], by omega, h2, h3, h4, h5.set (off + 2) (.int .i64 z), by omega, fun j hj => ?_⟩
  rw [hl] at hj
  obtain ⟨g0, g1, g2, g3⟩ := h7 j hj
  by_cases e : j = 0
  · subst e
    simp only [Nat.zero_mul, Nat.add_zero] at g0 g1 g2 g3 ⊢
    rw [List.getElem?_set_self hp]
    exact ⟨(if_neg (by omega)).trans g0, (if_neg (by omega)).trans g1, by simp, (if_neg (by omega)).trans g3⟩
  · rw [List.getElem?_set_ne (fun h => e h.symm)]
    exact ⟨(if_neg (by omega)).trans g0, (if_neg (by omega)).trans g1, (if_neg (by omega)).trans g2, (if_neg (by omega)).trans g3⟩
theorem OwnG.row0 {lo hi n cap b o : Nat} {w : World} {g : Rows} (h : OwnG lo hi w (.slice (some ⟨b, o, none⟩) n cap) g) (hp : 0 < g.length) : ∃ a2 c2, w.cell? ⟨b, o, none⟩ = some (.slice a2 (colsOf g) c2) := by
  obtain ⟨a', cap', e, _, _, h3⟩ := h.gridB
  obtain ⟨b', o', ea, _, hc⟩ := h3 hp
  obtain ⟨r, hr, a2, c2, rfl, _⟩ := hc 0 hp
  subst ea
  simp only [Value.slice.injEq, Option.some.injEq, Addr.mk.injEq] at e
  obtain ⟨⟨rfl, rfl, _⟩, _, _⟩ := e
  exact ⟨a2, c2, hr⟩

set_option maxHeartbeats 4000000 in
set_option maxRecDepth 100000 in
theorem l92Some_any (R P n lo hi : Nat) (vg : Value) (g : Rows) (w : World) (h : Rd w R P) (hP : P ≤ 10000) (hn : n ≤ 100) (hO : OwnG lo hi w vg g) (hR : R < lo) (hhi : hi ≤ w.heap.size) :
    Calls Try.prog 76 #[.pointer (some ⟨R, 0, none⟩), vg, .int .i64 n] w fun e w' => ∃ v l P', e = .returned v ∧ OwnQ w.heap.size w'.heap.size w' v l ∧ l.length ≤ n ∧ Rd w' R P' ∧ P' ≤ P + 3 * n + 1 ∧ Touch R (R + 1) w w' := by
  have hRw := h.lt
  have HR0 := Lib.hid h
  have B0 := Lib.hid ((Below.refl w.heap.size w).alloc (Nat.le_refl _) (.cells #[] 41))
  have HO0 := Lib.hid (World.ownsRow_made (base := w.heap.size) (e := 41) (size := 4) w #[] 0 (Nat.le_refl _) (by decide) rfl)
  have HG0 := Lib.hid hO
  have HG1 := Lib.hid (hO.below B0.out hhi)
  have CV := Lib.hid (specGridValid_any vg g _ (HG1.out.grid (by simp; omega)))
  obtain ⟨ga, gcap, rfl, _, _, hg3⟩ := hO.gridB
  clear h hO
  by_cases hg : GridOk g
  · rw [decide_eq_true hg] at CV
    obtain ⟨gb, go, rfl, _, _⟩ := hg3 hg.1
    clear hg3
    have hgl := hg.1
    have hgl2 := hg.2.1
    have hca := hg.2.2.1
    have hca2 := hg.2.2.2.1
    have HGO := Lib.hid hg
    have HRL : Hid (∀ k, k < g.length → (g[k]?.getD []).length ≤ 1000000) := fun k hk => by have := (hg.2.2.2.2 k hk).1; omega
    clear hg
    go_enter Try.func76, Try.ntmps76
    go_wp2_with fail
    refine CV.out.mono ?_
    rintro e w1 ⟨rfl, hb1⟩
    have z1 := hb1.size
    simp only [World.size_alloc] at z1
    have HB1 := Lib.hid (B0.out.trans (hb1.mono (by simp)))
    have HO1 := Lib.hid (ownsRow_bel HO0.out hb1)
    clear hb1 CV
    go_wp2_with fail
    refine (l1Copy_any _ g _ ((HG0.out.below HB1.out hhi).grid (by omega)) (by omega) HRL.out).mono ?_
    rintro e w2 ⟨x, rfl, hOx, hb2⟩
    have z2 := hb2.size
    have HB2 := Lib.hid (HB1.out.trans (hb2.mono (by omega)))
    have HO2 := Lib.hid (ownsRow_bel HO1.out hb2)
    have HX := Lib.hid hOx
    clear hOx hb2
    obtain ⟨L0, hL0⟩ : ∃ L, L = w1.heap.size := ⟨_, rfl⟩
    obtain ⟨L1, hL1⟩ : ∃ L, L = w2.heap.size := ⟨_, rfl⟩
    rw [← hL0, ← hL1] at HX
    rw [← hL0] at z1 z2
    rw [← hL1] at z2
    have HL1 := Lib.hid hL1
    clear hL0 hL1
    go_wp2_with fail
    go_loopw [7, 9, 10, 11] (fun v s _ _ wr => ∃ (k P' : Nat) (l : List Quad) (gx : Rows), k ≤ n ∧ s = .int .i64 k ∧ wr.ownsRow w.heap.size 41 4 v l.length (flat l) ∧ (∀ m, v.ownBlock = some m → m < L0 ∨ L1 ≤ m) ∧ l.length ≤ k ∧ Rd wr R P' ∧ P' ≤ P + 3 * k ∧ OwnG L0 L1 wr x gx ∧ gx.length = g.length ∧ (∀ i, i < g.length → (gx[i]?.getD []).length = colsOf g) ∧ L1 ≤ wr.heap.size ∧ Touch R (R + 1) w wr) (fun _ s _ _ _ => n - (intOf s).toNat)
    case atStart => exact ⟨0, P, [], g, Nat.zero_le _, rfl, HO2.out, (fun m e => .inl (by simp [Value.ownBlock] at e; omega)), Nat.le_refl _, HR0.out.below HB2.out hRw, Nat.le_refl _, HX.out, rfl, (fun i hi => (HGO.out.2.2.2.2 i hi).1), by rw [HL1.out]; exact Nat.le_refl _, (Touch.refl R (R + 1) w).then HB2.out⟩
    case round =>
      obtain ⟨k, P', l, gx, hk, rfl, hown, hfar, hlk, hrd, hPk, hOx, hgx1, hgx2, hL1w, ht⟩ := hrel
      obtain ⟨va, vc, rfl⟩ := ownsRow_sl hown
      have HO := Lib.hid hown
      have HFAR := Lib.hid hfar
      have HRD := Lib.hid hrd
      have HOX := Lib.hid hOx
      have HGX := Lib.hid hgx2
      have HT := Lib.hid ht
      have hzw := ht.size
      by_cases hlt : k < n
      · clear hown hfar hrd hOx hgx2 ht
        go_wp2_with fail
        refine (pick_i R P' _ _ HRD.out (by omega) (by omega) (by omega)).mono ?_
        rintro e w5 ⟨y, rfl, hy0, hy1, hrd5, ht5⟩
        have HR5 := Lib.hid hrd5
        have HT5 := Lib.hid ht5
        obtain ⟨a5, c5, j5⟩ := (HG0.out.touch (HT.out.trans ht5) (.inr (by omega))).row0 (by omega)
        clear hrd5 ht5
        go_wp2_with fail
        refine (pick_i R (P' + 1) _ _ HR5.out (by omega) (by omega) (by omega)).mono ?_
        rintro e w6 ⟨c, rfl, hc0, hc1, hrd6, ht6⟩
        have HR6 := Lib.hid hrd6
        have HT6 := Lib.hid (HT5.out.trans ht6)
        clear hrd6 ht6 j5
        go_wp2_with fail
        refine (pick_i R (P' + 1 + 1) _ _ HR6.out (by omega) (by omega) (by omega)).mono ?_
        rintro e w7 ⟨z, rfl, hz0, hz1, hrd7, ht7⟩
        have HR7 := Lib.hid hrd7
        have HT7 := Lib.hid (HT6.out.trans ht7)
        have z7 := HT7.out.size
        have HO7 := Lib.hid (ownsRow_pick HO.out HT7.out (by omega))
        have HX7 := Lib.hid (HOX.out.touch HT7.out (.inr (by omega)))
        have HTW := Lib.hid (HT.out.trans HT7.out)
        clear hrd7 ht7
        obtain ⟨i, rfl⟩ : ∃ i : Nat, y = (i : Int) := ⟨y.toNat, by omega⟩
        obtain ⟨j, rfl⟩ : ∃ j : Nat, c = (j : Int) := ⟨c.toNat, by omega⟩
        have hi' : i < gx.length := by omega
        have hjr := HGX.out i (by omega)
        obtain ⟨bx, ox, cx, bx2, ox2, cx2, hxv, s1, s2, s3, s4, s5, s6, s7, s8⟩ := HX7.out.cell (r := i) (c := j) hi' (by omega)
        rw [hjr] at s1
        rw [hgx1] at hxv
        subst hxv
        obtain ⟨u, hu⟩ : ∃ u, u = (gx[i]?.getD [])[j]?.getD 0 := ⟨_, rfl⟩
        rw [← hu] at s2
        have HBX := Lib.hid (QBox_new w7 ((i : Int), (j : Int), (0 : Int), z) 41)
        have hrow8 : (w7.alloc (.cells #[.int .i64 (i : Int), .int .i64 (j : Int), .int .i64 0, .int .i64 z] 41)).rowIs w7.heap.size 41 4 (fun t => (#[Value.int .i64 (i : Int), .int .i64 (j : Int), .int .i64 0, .int .i64 z] : Array Value)[t]?.getD undef) := ⟨_, heap_alloc_new w7 _, rfl, fun t ht => by
          match t, ht with
          | 0, _ => rfl
          | 1, _ => rfl
          | 2, _ => rfl
          | 3, _ => rfl⟩
        have hbw : bx ≠ w7.heap.size := by have := World.block_lt_of_cell? _ _ s1; simp only at this; omega
        have hbw2 : bx2 ≠ w7.heap.size := by omega
        have t1 := (World.cell?_alloc_old w7 (.cells #[.int .i64 (i : Int), .int .i64 (j : Int), .int .i64 0, .int .i64 z] 41) ⟨bx, ox + i, none⟩ hbw).trans s1
        have t2 := (World.cell?_alloc_old w7 (.cells #[.int .i64 (i : Int), .int .i64 (j : Int), .int .i64 0, .int .i64 z] 41) ⟨bx2, ox2 + j, none⟩ hbw2).trans s2
        obtain ⟨W8, hW8⟩ : ∃ W8, W8 = w7.alloc (.cells #[.int .i64 (i : Int), .int .i64 (j : Int), .int .i64 0, .int .i64 z] 41) := ⟨_, rfl⟩
        obtain ⟨F, hF⟩ : ∃ F, F = w7.heap.size := ⟨_, rfl⟩
        have hz8 : W8.heap.size = F + 1 := by rw [hW8, hF]; simp
        have HO8 := Lib.hid (HO7.out.alloc (.cells #[.int .i64 (i : Int), .int .i64 (j : Int), .int .i64 0, .int .i64 z] 41))
        have HX8 := Lib.hid (HX7.out.below ((Below.refl w7.heap.size w7).alloc (Nat.le_refl _) (.cells #[.int .i64 (i : Int), .int .i64 (j : Int), .int .i64 0, .int .i64 z] 41)) (by omega))
        have HB8 := Lib.hid ((Below.refl w7.heap.size w7).alloc (Nat.le_refl _) (.cells #[.int .i64 (i : Int), .int .i64 (j : Int), .int .i64 0, .int .i64 z] 41))
        have i1 : (0 : Int) ≤ (i : Int) := by omega
        have i2 : (i : Int) < (g.length : Int) := by omega
        have i3 : (0 : Int) ≤ (j : Int) := by omega
        have i4 : (j : Int) < (colsOf g : Int) := by omega
        clear s1 s2 s3 s6 s7 s8 hu
        go_wp2_with fail
        rw [← hW8] at t1 t2 hrow8 HO8 HX8 HB8 ⊢
        rw [← hF] at hrow8 hbw hbw2 HB8 z7 ⊢
        have HF := Lib.hid hF
        have HW8 := Lib.hid hW8
        have HZ8 := Lib.hid hz8
        have b0 : W8.cell? ⟨F, 0, none⟩ = some (.int .i64 (i : Int)) := hrow8.cell (i := 0) (by decide)
        have b1 : W8.cell? ⟨F, 1, none⟩ = some (.int .i64 (j : Int)) := hrow8.cell (i := 1) (by decide)
        have b2 : W8.cell? ⟨F, 2, none⟩ = some (.int .i64 0) := hrow8.cell (i := 2) (by decide)
        have b2f := hrow8.frozen 2
        have HROW := Lib.hid hrow8
        clear hF hW8 hrow8 hz8
        go_still_tail 10, (by kernel_rfl)
        change wpList _ _ _ _ _ W8.drew
        have b2' : W8.drew.cell? ⟨F, 2, none⟩ = _ := b2
        have b2f' : W8.drew.frozen? ⟨F, 2, none⟩ = _ := b2f
        clear b0 b1 b2 b2f t1 t2
        have HR9' := HROW.out.set 2 (.int .i64 u)
        have d2 : (W8.setCell ⟨F, 2, none⟩ (.int .i64 u)).cell? ⟨F, 2, none⟩ = some (.int .i64 u) := HR9'.cell (i := 2) (by decide)
        have d3 : (W8.setCell ⟨F, 2, none⟩ (.int .i64 u)).cell? ⟨F, 3, none⟩ = some (.int .i64 z) := HR9'.cell (i := 3) (by decide)
        have HR9 := Lib.hid HR9'
        clear HR9'
        have hRF : R < F := by omega
        have HVF : Hid (∀ m, (Value.slice va l.length vc).ownBlock = some m → m < F) := fun m e => by have := (HO.out.lt m e).2; have := HT7.out.size; have := HF.out; omega
        have HTF : Hid (Touch F (F + 1) W8 (W8.setCell ⟨F, 2, none⟩ (.int .i64 u)).drew) := ((Touch.refl F (F + 1) W8).setCell (p := ⟨F, 2, none⟩) (Nat.le_refl _) (by simp) _).drew
        have HO9 : Hid ((W8.setCell ⟨F, 2, none⟩ (.int .i64 u)).drew.ownsRow w.heap.size 41 4 (.slice va l.length vc) l.length (flat l)) := ownsRow_blk HO8.out fun m e => by
          have := HVF.out m e
          exact HTF.out.block m (by have := HZ8.out; omega) (by omega)
        have HX9 : Hid (OwnG L0 L1 (W8.setCell ⟨F, 2, none⟩ (.int .i64 u)).drew (.slice (some ⟨bx, ox, none⟩) g.length cx) gx) := HX8.out.touch HTF.out (.inl (by omega))
        have HB9 : Hid (Below F w7 (W8.setCell ⟨F, 2, none⟩ (.int .i64 u)).drew) := (HB8.out.setCell (p := ⟨F, 2, none⟩) (Nat.le_refl _) _).drew
        have HRD9 : Hid (Rd (W8.setCell ⟨F, 2, none⟩ (.int .i64 u)).drew R (P' + 1 + 1 + 1)) := HR7.out.below HB9.out hRF
        have HT9 : Hid (Touch R (R + 1) w (W8.setCell ⟨F, 2, none⟩ (.int .i64 u)).drew) := HTW.out.then (HB9.out.mono (by omega))
        have z9 : (W8.setCell ⟨F, 2, none⟩ (.int .i64 u)).drew.heap.size = F + 1 := by rw [← HZ8.out]; simp [World.setCell, World.drew]
        have HZ9 := Lib.hid z9
        clear z9
        by_cases huz : u = z
        · have tn : (u != z) = false := by simp [huz]
          clear huz
          go_wp2_with fail
          go_roundw
          case rel => exact ⟨k + 1, P' + 1 + 1 + 1, l, gx, by omega, by go_num, HO9.out, HFAR.out, by omega, HRD9.out, by omega, HX9.out, hgx1, HGX.out, by have := HZ9.out; omega, HT9.out⟩
          case measure => simp [intOf]; omega
        · have tn : (u != z) = true := by simp [huz]
          clear huz
          have d0 : (W8.setCell ⟨F, 2, none⟩ (.int .i64 u)).cell? ⟨F, 0, none⟩ = some (.int .i64 (i : Int)) := HR9.out.cell (i := 0) (by decide)
          have d1 : (W8.setCell ⟨F, 2, none⟩ (.int .i64 u)).cell? ⟨F, 1, none⟩ = some (.int .i64 (j : Int)) := HR9.out.cell (i := 1) (by decide)
          have HOA : Hid (((W8.setCell ⟨F, 2, none⟩ (.int .i64 u)).alloc (.cells #[.int .i64 (i : Int), .int .i64 (j : Int), .int .i64 u, .int .i64 z] 41)).drew.ownsRow w.heap.size 41 4 (.slice va l.length vc) l.length (flat l)) := (HO9.out.alloc (.cells #[.int .i64 (i : Int), .int .i64 (j : Int), .int .i64 u, .int .i64 z] 41)).drew
          have hzs : (W8.setCell ⟨F, 2, none⟩ (.int .i64 u)).heap.size = F + 1 := by rw [← HZ8.out]; simp [World.setCell]
          have HC4 : Hid (∀ (t : Nat) (y : Value), [Value.int .i64 (i : Int), .int .i64 (j : Int), .int .i64 u, .int .i64 z][t]? = some y → ((W8.setCell ⟨F, 2, none⟩ (.int .i64 u)).alloc (.cells #[.int .i64 (i : Int), .int .i64 (j : Int), .int .i64 u, .int .i64 z] 41)).drew.cell? ((⟨F + 1, 0, none⟩ : Addr).add t) = some y) := fun t y h => cells4_at hzs t y h
          have hza : ((W8.setCell ⟨F, 2, none⟩ (.int .i64 u)).alloc (.cells #[.int .i64 (i : Int), .int .i64 (j : Int), .int .i64 u, .int .i64 z] 41)).drew.heap.size = F + 2 := by show (World.alloc _ _).heap.size = _; rw [World.size_alloc, hzs]
          have HZA := Lib.hid hza
          have hlow : w.heap.size ≤ ((W8.setCell ⟨F, 2, none⟩ (.int .i64 u)).alloc (.cells #[.int .i64 (i : Int), .int .i64 (j : Int), .int .i64 u, .int .i64 z] 41)).drew.heap.size := by rw [hza]; omega
          have hl6 : l.length ≤ 1000000 := by omega
          have HBA : Hid (Below (W8.setCell ⟨F, 2, none⟩ (.int .i64 u)).drew.heap.size (W8.setCell ⟨F, 2, none⟩ (.int .i64 u)).drew ((W8.setCell ⟨F, 2, none⟩ (.int .i64 u)).alloc (.cells #[.int .i64 (i : Int), .int .i64 (j : Int), .int .i64 u, .int .i64 z] 41)).drew) := ⟨rfl, rfl, rfl, by show (W8.setCell _ _).heap.size ≤ (World.alloc _ _).heap.size; simp, fun m hm => Below.heap_alloc (W8.setCell ⟨F, 2, none⟩ (.int .i64 u)) _ m hm⟩
          have h8 := HZ8.out
          clear hza hzs
          go_wp2_with (at_builtin; refine app_quad_at _ rfl _ _ rfl w.heap.size _ l ((i : Int), (j : Int), u, z) HOA.out rfl (F + 1) HC4.out rfl hl6 hlow ?_; intro v10 w10 hown10 hg10 hat10)
          have hzd : (W8.setCell ⟨F, 2, none⟩ (.int .i64 u)).heap.size = F + 1 := by rw [← HZ8.out]; simp [World.setCell]
          have HR10 := Lib.hid (((HR9.out.alloc (.cells #[.int .i64 (i : Int), .int .i64 (j : Int), .int .i64 u, .int .i64 z] 41)).drew).of_block (hg10.block F (by rw [HZA.out]; omega) (fun e => by have := HVF.out F e.symm; omega)))
          have HX10 := Lib.hid (((HX9.out.below HBA.out (by show L1 ≤ (W8.setCell _ _).heap.size; omega)).away hg10 (fun m e => HFAR.out m e)))
          have hRk : ∀ m, (Value.slice va l.length vc).ownBlock = some m → R < m := fun m e => by have := (HO.out.lt m e).1; omega
          have HRD10 := Lib.hid ((HRD9.out.below HBA.out (by show R < (W8.setCell _ _).heap.size; omega)).away hg10 hRk)
          have HT10 := Lib.hid (Touch.grown (HT9.out.then (HBA.out.mono (by show w.heap.size ≤ (W8.setCell _ _).heap.size; omega))) hg10 (fun m e => (HO.out.lt m e).1))
          have z10 : F + 2 ≤ w10.heap.size := by have := hg10.size; rw [HZA.out] at this; exact this
          have HFR10 : Hid (∀ m, v10.ownBlock = some m → m < L0 ∨ L1 ≤ m) := fun m e => by
            rcases hat10 with h | h
            · exact HFAR.out m (h.symm.trans e)
            · rw [h, HZA.out] at e; cases e; omega
          have HO10 := Lib.hid hown10
          obtain ⟨va2, vc2, rfl⟩ := ownsRow_sl hown10
          obtain ⟨by', oy', cy, bx3, ox3, cx3, hxv, s1, s2, s3, s4', s5', s6, s7, s8⟩ := HX10.out.cell (r := i) (c := j) hi' (by rw [hjr]; omega)
          rw [hgx1] at hxv
          simp only [Value.slice.injEq, Option.some.injEq, Addr.mk.injEq] at hxv
          obtain ⟨⟨rfl, rfl, _⟩, _, rfl⟩ := hxv
          rw [hjr] at s1
          obtain ⟨y, hy⟩ : ∃ y, y = (gx[i]?.getD [])[j]?.getD 0 := ⟨_, rfl⟩
          rw [← hy] at s2
          have S8 := Lib.hid (s8 z)
          have e0 : w10.cell? ⟨F, 0, none⟩ = some (.int .i64 (i : Int)) := HR10.out.cell (i := 0) (by decide)
          have e1 : w10.cell? ⟨F, 1, none⟩ = some (.int .i64 (j : Int)) := HR10.out.cell (i := 1) (by decide)
          have e3 : w10.cell? ⟨F, 3, none⟩ = some (.int .i64 z) := HR10.out.cell (i := 3) (by decide)
          clear s8 hy d0 d1 d2 d3 hown10 hg10 hat10 hRk
          go_still_tail 10, (by kernel_rfl)
          change wpList _ _ _ _ _ w10.drew
          have t2' : w10.drew.cell? ⟨bx3, ox3 + j, none⟩ = _ := s2
          have t3' : w10.drew.frozen? ⟨bx3, ox3 + j, none⟩ = _ := s3
          go_wp2_with fail
          go_roundw
          case rel =>
            have hTB : Touch L0 L1 w10 (w10.setCell ⟨bx3, ox3 + j, none⟩ (.int .i64 z)).drew := ((Touch.refl L0 L1 w10).setCell s4' s5' _).drew
            have hzB : w10.heap.size ≤ (w10.setCell ⟨bx3, ox3 + j, none⟩ (.int .i64 z)).drew.heap.size := hTB.size
            have hO11 : (w10.setCell ⟨bx3, ox3 + j, none⟩ (.int .i64 z)).drew.ownsRow w.heap.size 41 4 (.slice va2 (l ++ [((i : Int), (j : Int), u, z)]).length vc2) (l ++ [((i : Int), (j : Int), u, z)]).length (flat (l ++ [((i : Int), (j : Int), u, z)])) := ownsRow_blk HO10.out fun m e => by
              have := HFR10.out m e
              exact hTB.block m (HO10.out.lt m e).2 (by omega)
            have hsv : Value.slice va2 (l ++ [((i : Int), (j : Int), u, z)]).length vc2 = Value.slice va2 (l.length + 1) vc2 := by simp
            refine ⟨k + 1, P' + 1 + 1 + 1, l ++ [((i : Int), (j : Int), u, z)], _, by omega, by go_num, (by rw [← hsv]; exact hO11), (by rw [← hsv]; exact HFR10.out), by rw [List.length_append]; simp only [List.length_cons, List.length_nil]; omega, HRD10.out.touch hTB (by omega), by omega, S8.out, by rw [List.length_set]; exact hgx1, fun i' hi'' => ?_, by omega, HT10.out.then (((Below.refl w.heap.size w10).setCell (p := ⟨bx3, ox3 + j, none⟩) (by show w.heap.size ≤ bx3; omega) _).drew)⟩
            rw [setR_get hi']
            by_cases e : i' = i
            · rw [if_pos e, List.length_set]; exact hjr
            · rw [if_neg e]; exact HGX.out i' hi''
          case measure => simp [intOf]; omega
      · obtain rfl : k = n := by omega
        clear hown hfar hrd hOx hgx2 ht
        by_cases hpos : 0 < l.length
        · go_wp2_with fail
          refine (pick_i R P' _ _ HRD.out (by omega) (by omega) (by omega)).mono ?_
          rintro e w4 ⟨c, rfl, hc0, hc1, hrd4, ht4⟩
          have HR4 := Lib.hid hrd4
          have HT4 := Lib.hid (HT.out.trans ht4)
          have hs4 := ht4.size
          have HO4 := Lib.hid (ownsRow_pick HO.out ht4 hRw)
          clear hrd4 ht4
          by_cases e0 : c = 0
          · have tc : (c == 0) = true := by simp [e0]
            obtain ⟨b9, off9, cap9, t9, n9, f9, hv9, hk91, hk92, hlo9, hhi9, hrow9, hlen9, hf9⟩ := (ownQ_of_ownsRow HO4.out (Nat.le_refl _)).resolve_left (fun h => by rw [h.1] at hpos; simp at hpos)
            obtain ⟨rfl, rfl⟩ : va = some ⟨b9, off9, none⟩ ∧ vc = cap9 := by simp at hv9; exact hv9
            have HROW := Lib.hid hrow9
            have HF9 := Lib.hid hf9
            have d2 := hrow9.cell (i := off9 + 2) (by omega)
            have f2 := hrow9.frozen (off9 + 2)
            have hq := (hf9 0 hpos).2.2.1
            rw [Nat.zero_mul, Nat.add_zero] at hq
            rw [hq] at d2
            obtain ⟨o, ho⟩ : ∃ o, o = (l[0]?.getD q0).2.2.1 := ⟨_, rfl⟩
            rw [← ho] at d2
            have hR4 := HR4.out.lt
            have hp1 : (0 : Int) < (l.length : Int) := by omega
            clear hrow9 hf9 hv9 hq ho e0
            go_wp2_with fail
            go_ret
            refine ⟨_, _, P' + 1, rfl, ownQ_setW (hi := (w4.setCell ⟨b9, off9 + 2, none⟩ _).heap.size) _ hpos hk91 hk92 hlo9 (by simp [World.setCell]; omega) HROW.out hlen9 HF9.out, by rw [List.length_set]; omega, HR4.out.below ((Below.refl b9 w4).setCell (p := ⟨b9, off9 + 2, none⟩) (Nat.le_refl b9) _) (by omega), by omega, HT4.out.then ((Below.refl w.heap.size w4).setCell (p := ⟨b9, off9 + 2, none⟩) hlo9 _)⟩
          · have tc : (c == 0) = false := by simp [e0]
            clear e0
            go_wp2_with fail
            go_ret
            exact ⟨_, l, P' + 1, rfl, ownQ_of_ownsRow HO4.out (Nat.le_refl _), hlk, HR4.out, by omega, HT4.out⟩
        · have hp1 : ¬ (0 : Int) < (l.length : Int) := by omega
          have hp2 : l.length = 0 := by omega
          clear hpos hp2
          go_wp2_with fail
          go_ret
          first | exact ⟨_, l, P', rfl, ownQ_of_ownsRow HO.out (Nat.le_refl _), hlk, HRD.out, by omega, HT.out⟩ | exact ⟨_, rfl, l, ownQ_of_ownsRow HO.out (Nat.le_refl _), hlk, P', HRD.out, by omega, HT.out⟩
  · rw [decide_eq_false hg] at CV
    clear hg
    go_enter Try.func76, Try.ntmps76
    go_wp2_with fail
    refine CV.out.mono ?_
    rintro e w1 ⟨rfl, hb1⟩
    have HB1 := Lib.hid (B0.out.trans (hb1.mono (by simp)))
    clear hb1 CV
    go_wp2
    go_ret
    exact ⟨_, [], P, rfl, .inl ⟨rfl, _, _, rfl, by omega⟩, Nat.zero_le _, HR0.out.below HB1.out hRw, by omega, (Touch.refl R (R + 1) w).then HB1.out⟩
end Go.Proofs.Ytdelcebkpdnnjaa
