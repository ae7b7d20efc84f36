/-
  FixesBack, the program's and the reference's. No condition but that the slices read as the lists.
-/
import Derived.Test.YtebhbcjioolpeabSeries
import Derived.Test.YtebhbcjioolpeabSpecDo
namespace Go.Proofs.Ytebhbcjioolpeab
open Go.RowKit Go.Shelf

attribute [local go_sem] Oper.semAt_some

def swapQ (q : Quad) : Quad := (q.1, q.2.1, q.2.2.2, q.2.2.1)
def backL (l : List Quad) : List Quad := l.reverse.map swapQ
def backOf (g : Rows) (l : List Quad) : List Quad := if EdOk g l then backL l else []
theorem backOf_yes {g : Rows} {l : List Quad} (h : EdOk g l) : backOf g l = backL l := if_pos h
theorem backOf_no {g : Rows} {l : List Quad} (h : ¬ EdOk g l) : backOf g l = [] := if_neg h
theorem backL_length (l : List Quad) : (backL l).length = l.length := by simp [backL]
theorem backOf_len (g : Rows) (l : List Quad) : (backOf g l).length ≤ 1099511627776 := by
  by_cases h : EdOk g l
  · rw [backOf_yes h, backL_length]; have := h.2.1; omega
  · rw [backOf_no h]; simp
def bk (pre : List (Nat × Quad)) : List Quad := pre.map fun x => swapQ x.2
theorem bk_all (l : List Quad) : bk (cameN l.length l l.length) = backL l := by
  have h := congrArg List.reverse (cameN_all l)
  rw [List.reverse_reverse] at h
  unfold bk backL
  rw [← h, List.map_map]
  rfl
theorem bk_snoc (pre : List (Nat × Quad)) (x : Nat × Quad) : bk (pre ++ [x]) = bk pre ++ [swapQ x.2] := by simp [bk]
theorem cells4_new {W : World} {x0 x1 x2 x3 : Value} {t : TypeId} {N : Nat} (hN : W.heap.size = N) (j : Nat) (u : Value) (h : [x0, x1, x2, x3][j]? = some u) : (W.alloc (.cells #[x0, x1, x2, x3] t)).cell? ((⟨N, 0, none⟩ : Addr).add j) = some u := by
  subst hN
  have hj : j < 4 := by have := (List.getElem?_eq_some_iff.1 h).1; simpa using this
  match j, hj with
  | 0, _ => rw [addr_add]; simpa using h
  | 1, _ => rw [addr_add]; simpa using h
  | 2, _ => rw [addr_add]; simpa using h
  | 3, _ => rw [addr_add]; simpa using h

theorem flat_one4 (x0 x1 x2 x3 : Int) : flat [swapQ (x0, x1, x2, x3)] = [.int .i64 x0, .int .i64 x1, .int .i64 x3, .int .i64 x2] := by
  simp [flat, swapQ, List.range_succ, qcell]
theorem ownsRow_low {w : World} {base base' n size : Nat} {e : TypeId} {v : Value} {xs : List Value} (h : w.ownsRow base e size v n xs) (hb : base' ≤ base) : w.ownsRow base' e size v n xs := by
  refine ⟨h.1, ?_⟩
  rcases h.2 with h | ⟨g, cap, cur, e, h1, h2⟩
  · exact .inl h
  · exact .inr ⟨g, cap, cur, e, by omega, h2⟩

set_option maxRecDepth 100000 in
set_option maxHeartbeats 4000000 in
theorem FixesBack_in (F : Fence) (n : Nat) (h0 : F.fn 75) (h1 : F.fn 24) (h2 : F.fn 76) (h3 : F.fn 107) (hro : F.round = none) (hn : 3 ≤ n) (vg : Value) (a : Option Addr) (cap : Nat) (l : List Quad) (w : World) (hlen : l.length ≤ 60) (hI : Quads w (.slice a l.length cap) l)
    (hFV : CallsIn F (n - 1) Try.prog 75 #[vg, .slice a l.length cap] w fun e w' => e = .returned (.bool true) ∧ Below w.heap.size w w') :
    CallsIn F n Try.prog 24 #[vg, .slice a l.length cap] w fun e W' => ∃ v, e = .returned (.tuple #[v, .bool true]) ∧ W'.ownsRow w.heap.size 62 4 v (backL l).length (flat (backL l)) ∧ Below w.heap.size w W' := by
  have hn1 : 1 ≤ n := by omega
  obtain ⟨i0, hi, hu0, hu1, hu2⟩ := info_parts info_fix
  have HI := Lib.hid hI.quadsB
  have HL := Lib.hid hlen
  clear hI
  refine callsIn_of_wp_marks Try.func24 rfl h1 ?_ hro
  simp only [Try.ntmps24, List.size_toArray, List.length_cons, List.length_nil, Nat.reduceAdd, Nat.reduceSub, Array.replicate_succ, Array.replicate_zero, List.push_toArray, List.append_toArray, List.nil_append, List.cons_append]
  gi_wp2_with (gi_at_call 75; refine hFV.mono ?_; rintro e w1 ⟨rfl, hb1⟩; have HB1 := Lib.hid hb1; clear hb1)
  have hz1 := HB1.out.size
  have bO := Boxed.new (w1.alloc (.cells #[] 62)) 24 (.slice (some ⟨w1.heap.size, 0, none⟩) 0 0)
  rw [World.size_alloc] at bO
  have bO1 := bO.alloc (.cells #[.slice a l.length cap] 24)
  have bN := Boxed.new ((w1.alloc (.cells #[] 62)).alloc (.cells #[.slice (some ⟨w1.heap.size, 0, none⟩) 0 0] 24)) 24 (.slice a l.length cap)
  simp only [World.size_alloc] at bN
  have hrow0 : (((w1.alloc (.cells #[] 62)).alloc (.cells #[.slice (some ⟨w1.heap.size, 0, none⟩) 0 0] 24)).alloc (.cells #[.slice a l.length cap] 24)).ownsRow w1.heap.size 62 4 (.slice (some ⟨w1.heap.size, 0, none⟩) 0 0) 0 [] := ((World.ownsRow_made w1 #[] 0 (Nat.le_refl _) (by decide) rfl).alloc _).alloc _
  have hB0 : Below w1.heap.size w1 (((w1.alloc (.cells #[] 62)).alloc (.cells #[.slice (some ⟨w1.heap.size, 0, none⟩) 0 0] 24)).alloc (.cells #[.slice a l.length cap] 24)) := (((Below.refl _ w1).alloc (Nat.le_refl _) _).alloc (by simp) _).alloc (by simp; omega) _
  have hsz : (((w1.alloc (.cells #[] 62)).alloc (.cells #[.slice (some ⟨w1.heap.size, 0, none⟩) 0 0] 24)).alloc (.cells #[.slice a l.length cap] 24)).heap.size = w1.heap.size + 3 := by simp
  gi_wp2_with (gi_at_call 76; refine (backward_in F (n - 1) h2 hro _ _ _ _).mono ?_; rintro e w' ⟨rfl, rfl⟩)
  obtain ⟨W0, hW0⟩ : ∃ W0, ((w1.alloc (.cells #[] 62)).alloc (.cells #[.slice (some ⟨w1.heap.size, 0, none⟩) 0 0] 24)).alloc (.cells #[.slice a l.length cap] 24) = W0 := ⟨_, rfl⟩
  rw [hW0] at bO1 bN hB0 hsz hrow0 ⊢
  clear hW0 bO
  refine wpIn_rangeFunc_ownH hro hn1 (gf := 107) (lb := #[.pointer (some ⟨w1.heap.size + 1 + 1, 0, none⟩)]) rfl h3 (enters_of Try.func107 (by kernel_rfl) rfl)
    (backward_stops F (n - 1) h3 hro (by omega) (w1.heap.size + 1 + 1) w1.heap.size w.heap.size _ l (by have := HL.out; omega) W0 (by omega) (by omega) hz1 bN.cell (HI.out.below (HB1.out.trans (hB0.mono hz1)) (Nat.le_refl _))) KpB.trans (KpB.put (by omega) (by omega)) (Below.refl _ _) (fun _ => rfl)
    (fun pre W => ((∃ v, Boxed W (w1.heap.size + 1) 24 v ∧ W.ownsRow w1.heap.size 62 4 v (bk pre).length (flat (bk pre)) ∧ True) ∧ Boxed W (w1.heap.size + 1 + 1) 24 (.slice a l.length cap)) ∧ Below w1.heap.size w1 W)
    (fun _ _ _ => False)
    (OwnFrom.and (OwnFrom.and (Own.from (holdsRow_own w1.heap.size (w1.heap.size + 1) 24 62 4 (fun pre => (bk pre).length) (fun pre => flat (bk pre)) (fun _ _ => True)) _) (Own.from (boxed_own _ _ _) _)) (ownFrom_below (Nat.le_refl _) (by omega)))
    (fun _ _ _ _ _ hs _ _ => hs)
    ⟨⟨⟨_, bO1, hrow0, trivial⟩, bN⟩, hB0⟩
    (fun x a' W => ∃ Bx v', w1.heap.size + 1 + 1 < Bx ∧ (Boxed W (w1.heap.size + 1) 24 v' ∧ v'.ownBlock ≠ some Bx) ∧ BoxC W Bx #[.int .i64 x.2.1, .int .i64 x.2.2.1, .int .i64 x.2.2.2.1, .int .i64 x.2.2.2.2] 62 ∧ a' = { tmps := #[vg, .slice a l.length cap, undef, undef, .slice none 0 0, .bool false, .pointer (some ⟨w1.heap.size + 1, 0, none⟩), undef, .pointer (some ⟨Bx, 0, none⟩), vg, .slice a l.length cap, .bool true, .bool false, .slice (some ⟨w1.heap.size, 0, none⟩) 0 0, .slice a l.length cap, .func (.func 107) #[] #[.pointer (some ⟨w1.heap.size + 1 + 1, 0, none⟩)], .int .i64 (x.1 : Int), qv x.2, undef, undef, undef, undef, undef, undef, undef, undef, undef, undef, undef], defers := [] })
    (fun x a' _ X Y row hs hg hr => by obtain ⟨Bx, v', h1, ⟨h4, h5⟩, h2, h3⟩ := hs; exact ⟨Bx, v', h1, ⟨boxed_own (w1.heap.size + 1) 24 (fun (_ : Unit) => v') () X Y row h4 hg (fun r e => (hr r e).2), h5⟩, BoxC.own Bx _ 62 () X Y row h2 hg (fun r e => (hr r e).2), h3⟩)
    ?assign ?body ?done ?stop
  case assign =>
    rintro l' pre x W K ⟨⟨⟨v, hv, hrow, _⟩, bN1⟩, hB⟩ hK
    gi_wp2
    exact hK _ _ ((KeepsOthers.alloc _ _).from _) ⟨(Below.refl _ W).alloc hB.size _, Below.heap_alloc W _ _ bN1.lt⟩ ⟨⟨⟨v, hv.alloc _, hrow.alloc _, trivial⟩, bN1.alloc _⟩, hB.alloc hB.size _⟩ ⟨W.heap.size, v, bN1.lt, ⟨hv.alloc _, fun e => by have := (hrow.lt _ e).2; omega⟩, BoxC.new W _ _, rfl⟩
  case body =>
    rintro l' pre x a' W hl ⟨r, hr⟩ ⟨⟨⟨v, hv, hrow, _⟩, bN1⟩, hB⟩ ⟨Bx, v', hBx, ⟨hv', hne'⟩, bX, rfl⟩ hlt
    obtain rfl : v = v' := by
      have := hv.symm.trans hv'
      simpa using this
    have hS := Lib.hid (bk_snoc pre x)
    have hpl : pre.length < 60 := by have := HL.out; omega
    obtain ⟨xi, x0, x1, x2, x3⟩ := x
    dsimp only at bX
    obtain ⟨c0, c1, c2, c3⟩ := BoxC.cells (q := (x0, x1, x2, x3)) bX
    have hbx : W.heap[Bx]? = _ := bX
    have f2 : W.frozen? ⟨Bx, 2, none⟩ = false := by simp [World.frozen?, hbx]
    have f3 : W.frozen? ⟨Bx, 3, none⟩ = false := by simp [World.frozen?, hbx]
    obtain ⟨W2, hW2⟩ : ∃ W2, W2 = (W.setCell ⟨Bx, 2, none⟩ (.int .i64 x3)).setCell ⟨Bx, 3, none⟩ (.int .i64 x2) := ⟨_, rfl⟩
    have hblk : ∀ k, k ≠ Bx → W2.heap[k]? = W.heap[k]? := fun k hk => by rw [hW2, Below.heap_setCell _ _ _ _ (by simpa using hk), Below.heap_setCell _ _ _ _ (by simpa using hk)]
    have hzz : W2.heap.size = W.heap.size := by rw [hW2]; simp [World.setCell]
    have hk2' : KeepsOthers W W2 := by rw [hW2]; exact (KeepsOthers.setCell _ _ _).trans (KeepsOthers.setCell _ _ _)
    have hB2' : Below w1.heap.size W W2 := by rw [hW2]; exact ((Below.refl _ W).setCell (p := ⟨Bx, 2, none⟩) (by show w1.heap.size ≤ Bx; omega) _).setCell (p := ⟨Bx, 3, none⟩) (by show w1.heap.size ≤ Bx; omega) _
    have hv2 : Boxed W2 (w1.heap.size + 1) 24 v := (hblk _ (by omega)).trans hv
    have bN2 : Boxed W2 (w1.heap.size + 1 + 1) 24 (.slice a l.length cap) := (hblk _ (by omega)).trans bN1
    have hrow2 : W2.ownsRow w1.heap.size 62 4 v (bk pre).length (flat (bk pre)) := by
      refine ⟨hrow.1, ?_⟩
      rcases hrow.2 with h | ⟨g, cp, cur, e, e1, e2, e3⟩
      · exact .inl h
      · refine .inr ⟨g, cp, cur, e, e1, (hblk g (fun eg => hne' (by rw [e, eg]; rfl))).trans e2, e3⟩
    have hbr : W.rowIs Bx 62 4 (fun i => (#[Value.int .i64 x0, .int .i64 x1, .int .i64 x2, .int .i64 x3] : Array Value)[i]?.getD undef) := ⟨_, hbx, rfl, fun i hi => by
      match i, hi with
      | 0, _ => rfl
      | 1, _ => rfl
      | 2, _ => rfl
      | 3, _ => rfl⟩
    have hbr2 := (hbr.set 2 (.int .i64 x3)).set 3 (.int .i64 x2)
    have d0 : ((W.setCell ⟨Bx, 2, none⟩ (.int .i64 x3)).setCell ⟨Bx, 3, none⟩ (.int .i64 x2)).cell? ⟨Bx, 0, none⟩ = some (.int .i64 x0) := hbr2.cell (i := 0) (by decide)
    have d1 : ((W.setCell ⟨Bx, 2, none⟩ (.int .i64 x3)).setCell ⟨Bx, 3, none⟩ (.int .i64 x2)).cell? ⟨Bx, 1, none⟩ = some (.int .i64 x1) := hbr2.cell (i := 1) (by decide)
    have d2 : ((W.setCell ⟨Bx, 2, none⟩ (.int .i64 x3)).setCell ⟨Bx, 3, none⟩ (.int .i64 x2)).cell? ⟨Bx, 2, none⟩ = some (.int .i64 x3) := hbr2.cell (i := 2) (by decide)
    have d3 : ((W.setCell ⟨Bx, 2, none⟩ (.int .i64 x3)).setCell ⟨Bx, 3, none⟩ (.int .i64 x2)).cell? ⟨Bx, 3, none⟩ = some (.int .i64 x2) := hbr2.cell (i := 3) (by decide)
    have hcv : ((W.setCell ⟨Bx, 2, none⟩ (.int .i64 x3)).setCell ⟨Bx, 3, none⟩ (.int .i64 x2)).cell? ⟨w1.heap.size + 1, 0, none⟩ = some v := by rw [← hW2]; exact hv2.cell
    clear hbr hbr2
    have hkl : (bk pre).length < 60 := by simp [bk]; omega
    have HW2 := Lib.hid hW2
    have HBLK := Lib.hid hblk
    have hlow : w1.heap.size ≤ W2.heap.size := by rw [hzz]; exact hB.size
    have HOA := Lib.hid (hrow2.alloc (.cells #[.int .i64 x0, .int .i64 x1, .int .i64 x3, .int .i64 x2] 62))
    clear hblk hbx hr hW2 hv'
    gi_wp2_with (gi_at_builtin; rw [← HW2.out]; clear d0 d1 d2 d3 hcv c0 c1 c2 c3 f2 f3; refine wpListIn_append_own _ rfl _ _ 24 rfl w1.heap.size 62 i0 (.agg #[.int .i64 0, .int .i64 0, .int .i64 0, .int .i64 0]) 4 32 Try.underlying24 hi hu0 hu1 hu2 rfl (by decide) _ _ _ rfl HOA.out ⟨W.heap.size, 0, none⟩ 1 1 [.int .i64 x0, .int .i64 x1, .int .i64 x3, .int .i64 x2] rfl rfl (cells4_new hzz) (by simp [Value.oneCell']) (by unfold maxLen; omega) (by omega) (by simp; omega) ?_; intro v' w9 hown' hgrow _; obtain ⟨g', cap', rfl⟩ := ownsRow_succ hown'; obtain ⟨hv9, hv10, hr10, hk10, hb10⟩ := hv2.appended (by decide) hrow2 hlow (by omega) hown' hgrow; have hc9 := hv9.cell; have hf9 := hv9.frozen; have bN9 := ((bN2.alloc _).kept hgrow (bN2.not_row (by decide) hrow2)).other (B' := w1.heap.size + 1) (by omega) (.slice (some ⟨g', 0, none⟩) ((bk pre).length + 1) cap'))
    have hr11 : (w9.setCell ⟨w1.heap.size + 1, 0, none⟩ (.slice (some ⟨g', 0, none⟩) ((bk pre).length + 1) cap')).ownsRow w1.heap.size 62 4 (.slice (some ⟨g', 0, none⟩) ((bk pre).length + 1) cap') (bk (pre ++ [(xi, x0, x1, x2, x3)])).length (flat (bk (pre ++ [(xi, x0, x1, x2, x3)]))) := by
      rw [hS.out, flat_append, List.length_append, flat_one4]
      exact hr10
    exact ⟨(hk2'.trans hk10).from _, ⟨hB2'.trans hb10, (show _ = _ from bN9).trans (show _ = _ from bN1).symm⟩, ⟨⟨_, hv10, hr11⟩, bN9⟩, hB.trans (hB2'.trans hb10)⟩
  case done =>
    rintro D ys W hD rfl ⟨⟨⟨v, hv, hrow, _⟩, bN1⟩, hB⟩ hK
    have hc := hv.cell
    rw [bk_all] at hrow
    obtain ⟨va, vc, rfl⟩ := ownsRow_sl hrow
    gi_wp2
    refine ⟨by simp, .inl ⟨_, _, rfl, run_takeDeferred hK, ?_⟩⟩
    refine ⟨_, results_tmp2 rfl _ _ _, _, rfl, ?_, (HB1.out.trans (hB.mono hz1)).trans (belowK_b (w := w) (Nat.le_refl _) W D _ _ (by omega) hK rfl rfl)⟩
    exact ownsRow_low (ownsRow_putObj hrow _ hK rfl) hz1
  case stop =>
    rintro D c pre W _ _ h _
    exact h.elim

set_option maxHeartbeats 1000000 in
theorem FixesBack_any (vg vl : Value) (g : Rows) (l : List Quad) (w : World) (hG : Grid w vg g) (hL : Quads w vl l) :
    Calls Try.prog 24 #[vg, vl] w fun e w' => ∃ v, e = .returned (.tuple #[v, .bool (decide (EdOk g l))]) ∧ OwnQ w.heap.size w'.heap.size w' v (backOf g l) ∧ Below w.heap.size w w' := by
  have C := FixesValid_any vg vl g l w hG hL
  obtain ⟨la, lc, rfl, q1, q2, q3⟩ := id hL
  by_cases h : EdOk g l
  · rw [decide_eq_true h] at C ⊢
    rw [backOf_yes h]
    refine (callsIn_wide.1 (FixesBack_in Fence.wide 3 trivial trivial trivial trivial rfl (Nat.le_refl _) vg la lc l w h.2.1 hL (callsIn_wide.2 C))).mono fun e w' ⟨v, he, ho, hb⟩ => ⟨v, he, ownQ_of_ownsRow ho (Nat.le_refl _), hb⟩
  · rw [decide_eq_false h] at C ⊢
    rw [backOf_no h]
    have HC := Lib.hid C
    clear C hG hL h q3
    go_enter Try.func24, Try.ntmps24
    go_wp2_with fail
    refine HC.out.mono ?_
    rintro e w1 ⟨rfl, hb⟩
    go_wp2
    go_ret2
    exact ⟨_, rfl, .inl ⟨rfl, none, 0, rfl, by omega⟩, hb⟩

def backUp (l : List Quad) (k : Nat) : List Quad := (l.reverse.take k).map swapQ
theorem backUp_succ {l : List Quad} {k m : Nat} (h : m + k + 1 = l.length) : backUp l (k + 1) = backUp l k ++ [swapQ (l[m]?.getD q0)] := by
  unfold backUp
  have hk : k < l.reverse.length := by simp; omega
  rw [List.take_succ_eq_append_getElem hk, List.map_append]
  congr 1
  have hkm : l.length - 1 - k = m := by omega
  rw [getQ_eq (by omega)]
  simp only [List.map_cons, List.map_nil, List.getElem_reverse, hkm]
theorem backUp_all (l : List Quad) : backUp l l.length = backL l := by
  unfold backUp backL
  rw [List.take_of_length_le (by simp)]
theorem backUp_len (l : List Quad) (k : Nat) : (backUp l k).length ≤ k := by simp [backUp]; omega

set_option maxHeartbeats 2000000 in
set_option maxRecDepth 100000 in
theorem specFixesBack_any (vg vl : Value) (g : Rows) (l : List Quad) (w : World) (hG : Grid w vg g) (hL : Quads w vl l) :
    Calls Try.prog 26 #[vg, vl] w fun e w' => ∃ v, e = .returned (.tuple #[v, .bool (decide (EdOk g l))]) ∧ OwnQ w.heap.size w'.heap.size w' v (backOf g l) ∧ Below w.heap.size w w' := by
  have HG := Lib.hid (show GridB w.heap.size w vg g from hG)
  have HL := Lib.hid hL.quadsB
  have hmax := hL.quadsB.len
  have CV : Hid (∀ W, Below w.heap.size w W → Calls Try.prog 72 #[vg, vl] W fun e w' => e = .returned (.bool (decide (EdOk g l))) ∧ Below W.heap.size W w') := fun W hb => specFixesValid_any vg vl g l W ((HG.out.below hb (Nat.le_refl _)).grid hb.size) ((HL.out.below hb (Nat.le_refl _)).quads hb.size)
  have B0 := Lib.hid ((Below.refl w.heap.size w).alloc (Nat.le_refl _) (.cells #[] 62))
  have HO0 := Lib.hid (World.ownsRow_made (base := w.heap.size) (e := 62) (size := 4) w #[] 0 (Nat.le_refl _) (by decide) rfl)
  obtain ⟨la, lc, rfl, q1, q2, q3⟩ := hL
  have HQ := Lib.hid q3
  by_cases h : EdOk g l
  · rw [decide_eq_true h] at CV ⊢
    rw [backOf_yes h, ← backUp_all]
    have hl60 := h.2.1
    clear hG h q3
    go_enter Try.func26, Try.ntmps26
    go_wp2_with fail
    go_loopw [6, 7, 8] (fun v s _ wr => ∃ m k : Nat, m + k = l.length ∧ s = .int .i64 ((m : Int) - 1) ∧ wr.ownsRow w.heap.size 62 4 v (backUp l k).length (flat (backUp l k)) ∧ Below w.heap.size w wr) (fun _ s _ _ => (intOf s + 1).toNat)
    case atStart => exact ⟨l.length, 0, by omega, rfl, HO0.out, B0.out⟩
    case round =>
      obtain ⟨m, k, hmk, rfl, hown, hbel⟩ := hrel
      have HO := Lib.hid hown
      have HBE := Lib.hid hbel
      have hzw := hbel.size
      cases m with
      | zero =>
        obtain rfl : k = l.length := by omega
        obtain ⟨va', vc', rfl⟩ := ownsRow_sl hown
        clear hown hbel
        go_wp2_with fail
        refine (CV.out _ HBE.out).mono ?_
        rintro e w3 ⟨rfl, hb3⟩
        have HB3 := Lib.hid (HBE.out.trans (hb3.mono hzw))
        have HO3 := Lib.hid (ownsRow_bel HO.out hb3)
        clear hb3
        go_wp2
        go_ret2
        exact ⟨_, rfl, ownQ_of_ownsRow HO3.out (Nat.le_refl _), HB3.out⟩
      | succ m =>
        obtain ⟨b, off, hae, hbb, hq⟩ := HQ.out (by omega)
        subst hae
        have e1 : ((m + 1 : Nat) : Int) - 1 = (m : Int) := by omega
        rw [e1]
        have HS := Lib.hid (backUp_succ (l := l) (k := k) (m := m) (by omega))
        have HC := Lib.hid ((hq m (by omega)).below hbel hbb)
        obtain ⟨x0, x1, x2, x3, hx⟩ : ∃ x0 x1 x2 x3, (x0, x1, x2, x3) = l[m]?.getD q0 := ⟨_, _, _, _, rfl⟩
        rw [← hx] at HS HC
        have hlen := backUp_len l k
        have hlen : (backUp l k).length ≤ 60 := by omega
        have HMK := Lib.hid hmk
        have k1 : (0 : Int) ≤ (m : Int) := by omega
        have k2 : (m : Int) < (l.length : Int) := by omega
        obtain ⟨L, hL⟩ : ∃ L, L = backUp l k := ⟨_, rfl⟩
        rw [← hL] at HO HS hlen
        clear hq hx hown hbel e1 hmk hL
        go_wp2_with fail
        refine (CV.out _ HBE.out).mono ?_
        rintro e w3 ⟨rfl, hb3⟩
        have HB3 := Lib.hid (HBE.out.trans (hb3.mono hzw))
        have HO3 := Lib.hid (ownsRow_bel HO.out hb3)
        obtain ⟨c0, c1, c2, c3⟩ := QAt.below HC.out hb3 (by omega)
        have hz3 := HB3.out.size
        have HOA := Lib.hid (HO3.out.alloc (.cells #[.int .i64 x0, .int .i64 x1, .int .i64 x2, .int .i64 x3] 62))
        have HBA := Lib.hid (HB3.out.alloc hz3 (.cells #[.int .i64 x0, .int .i64 x1, .int .i64 x2, .int .i64 x3] 62))
        clear hb3
        go_wp2_with (at_builtin; refine app_quad _ _ rfl _ _ rfl w.heap.size _ L (x0, x1, x3, x2) HOA.out rfl (w3.heap.size + 1) (by simp) rfl (by omega) (by simp; omega) HBA.out ?_; intro v9 w9 hown9 hb9; have HO9 := Lib.hid hown9; have HB9 := Lib.hid hb9; clear hown9 hb9)
        go_roundw
        case rel => exact ⟨m, k + 1, by have := HMK.out; omega, by go_num, by rw [HS.out]; exact HO9.out, HB9.out⟩
        case measure => simp [intOf]
  · rw [decide_eq_false h] at CV ⊢
    rw [backOf_no h]
    clear hG h q3
    go_enter Try.func26, Try.ntmps26
    go_wp2_with fail
    go_loopw [6, 7, 8] (fun v s _ wr => s = .int .i64 ((l.length : Int) - 1) ∧ v = .slice (some ⟨w.heap.size, 0, none⟩) 0 0 ∧ Below w.heap.size w wr) (fun _ _ _ _ => 0)
    case atStart => exact ⟨rfl, rfl, B0.out⟩
    case round =>
      obtain ⟨rfl, rfl, hbel⟩ := hrel
      have HBE := Lib.hid hbel
      have hzw := hbel.size
      clear hbel
      by_cases h0 : l.length = 0
      · have t1 : decide ((0 : Int) ≤ (l.length : Int) - 1) = false := decide_eq_false (by omega)
        have t2 : decide ((1 : Int) ≤ (l.length : Int)) = false := decide_eq_false (by omega)
        have t3 : ¬ (1 : Int) ≤ (l.length : Int) := by omega
        clear h0
        go_wp2_with fail
        refine (CV.out _ HBE.out).mono ?_
        rintro e w3 ⟨rfl, hb3⟩
        have HB3 := Lib.hid (HBE.out.trans (hb3.mono hzw))
        clear hb3
        go_wp2
        go_ret2
        exact ⟨_, rfl, .inl ⟨rfl, _, _, rfl, by omega⟩, HB3.out⟩
      · have t1 : decide ((0 : Int) ≤ (l.length : Int) - 1) = true := decide_eq_true (by omega)
        have t2 : decide ((1 : Int) ≤ (l.length : Int)) = true := decide_eq_true (by omega)
        have t3 : (1 : Int) ≤ (l.length : Int) := by omega
        clear h0
        go_wp2_with fail
        refine (CV.out _ HBE.out).mono ?_
        rintro e w3 ⟨rfl, hb3⟩
        have HB3 := Lib.hid (HBE.out.trans (hb3.mono hzw))
        have hz3 := HB3.out.size
        clear hb3
        go_wp2_with fail
        refine (CV.out _ HB3.out).mono ?_
        rintro e w4 ⟨rfl, hb4⟩
        have HB4 := Lib.hid (HB3.out.trans (hb4.mono hz3))
        clear hb4
        go_wp2
        go_ret2
        exact ⟨_, rfl, .inl ⟨rfl, _, _, rfl, by omega⟩, HB4.out⟩
end Go.Proofs.Ytebhbcjioolpeab
