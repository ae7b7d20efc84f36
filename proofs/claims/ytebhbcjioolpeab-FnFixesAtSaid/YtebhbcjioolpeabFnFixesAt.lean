/-
  FnFixesAt: for all arguments the law returns true and leaves what was there as it was. No condition.
-/
import Derived.Test.YtebhbcjioolpeabAtD
import Derived.Test.YtebhbcjioolpeabBackOk
import Derived.Test.YtebhbcjioolpeabAt
import Derived.Test.YtebhbcjioolpeabSame
import Derived.Test.YtebhbcjioolpeabFacts
import Derived.ProofKit
import Derived.OpenShut
import Derived.ShutString
import Derived.ChangeOld
import Derived.Below
import Derived.Test.YtebhbcjioolpeabFacts
import Derived.ProofKit
import Derived.OpenShut
import Derived.ShutString
import Derived.ChangeOld
import Derived.Below
namespace Go.Proofs.Ytebhbcjioolpeab
open Go.RowKit Go.Deep

/-- what a read matrix with a row holds -/
theorem GridB.open {B : Nat} {w : World} {v : Value} {g : Rows} (h : GridB B w v g) (hp : 0 < g.length) : ∃ b off cap, v = .slice (some ⟨b, off, none⟩) g.length cap ∧ g.length ≤ cap ∧ cap ≤ 9223372036854775807 ∧ b < B ∧
    ∀ k, k < g.length → ∃ a c, w.cell? ⟨b, off + k, none⟩ = some (.slice a (g[k]?.getD []).length c) ∧ (g[k]?.getD []).length ≤ c ∧ c ≤ 9223372036854775807 ∧ (0 < (g[k]?.getD []).length → ∃ b2 o2, a = some ⟨b2, o2, none⟩ ∧ b2 < B ∧ ∀ j, j < (g[k]?.getD []).length → w.cell? ⟨b2, o2 + j, none⟩ = some (.int .i64 ((g[k]?.getD [])[j]?.getD 0))) := by
  obtain ⟨a, cap, rfl, h1, h2, h3⟩ := h
  obtain ⟨b, off, rfl, hb, hc⟩ := h3 hp
  refine ⟨b, off, cap, rfl, h1, h2, hb, fun k hk => ?_⟩
  obtain ⟨r, hr, a2, c2, rfl, q1, q2, q3⟩ := hc k hk
  exact ⟨a2, c2, hr, q1, q2, q3⟩

/-- a cell's heights: first, and after each of its corrections -/
def outL (R C : Nat) : Rows → List Quad → List Int
  | g, [] => [at2 g R C]
  | g, f :: l => if f.1 = (R : Int) ∧ f.2.1 = (C : Int) then at2 g R C :: outL R C (put g f) l else outL R C (put g f) l
theorem at_put {g : Rows} {f : Quad} (h : GridOk g) (hc : Can g f) {R C : Nat} (hR : R < g.length) (hC : C < colsOf g) : at2 (put g f) R C = if f.1 = (R : Int) ∧ f.2.1 = (C : Int) then f.2.2.2 else at2 g R C := by
  rw [put_at h hc hR hC]
  have n1 := hc.1
  have n2 := hc.2.2.1
  by_cases e : f.1 = (R : Int) ∧ f.2.1 = (C : Int)
  · rw [if_pos e, if_pos (by omega)]
  · rw [if_neg e, if_neg (by omega)]
theorem outL_head {R C : Nat} : ∀ (l : List Quad) (g : Rows), GridOk g → R < g.length → C < colsOf g → CanL g l → ∃ t, outL R C g l = at2 g R C :: t
  | [], g, _, _, _, _ => ⟨[], rfl⟩
  | f :: l, g, hg, hR, hC, h => by
    show ∃ t, (if f.1 = (R : Int) ∧ f.2.1 = (C : Int) then _ else _) = _
    by_cases e : f.1 = (R : Int) ∧ f.2.1 = (C : Int)
    · rw [if_pos e]; exact ⟨_, rfl⟩
    · rw [if_neg e]
      obtain ⟨t, ht⟩ := outL_head l (put g f) (put_ok hg h.1) (by rw [put_len]; exact hR) (by rw [put_cols]; exact hC) h.2
      exact ⟨t, by rw [ht, at_put hg h.1 hR hC, if_neg e]⟩
def histL (R C : Int) : List Quad → List Int
  | [] => []
  | f :: l => stepAt f R C ++ histL R C l
theorem histL_app (R C : Int) : ∀ a b, histL R C (a ++ b) = histL R C a ++ histL R C b
  | [], _ => rfl
  | f :: a, b => by simp only [List.cons_append, histL]; rw [histL_app R C a b, List.append_assoc]
theorem hist_take (l : List Quad) (R C : Int) : ∀ k, k ≤ l.length → hist l R C k = histL R C (l.take k) := by
  intro k
  induction k with
  | zero => intro _; rfl
  | succ k ih =>
    intro hk
    have e : l.take (k + 1) = l.take k ++ [l[k]?.getD q0] := by rw [List.take_add_one, getQ_eq (show k < l.length by omega), List.getElem?_eq_getElem (by omega)]; rfl
    rw [e, histL_app, ← ih (by omega)]
    show _ = _ ++ (stepAt _ R C ++ [])
    rw [List.append_nil]
    rfl
theorem outL_hist {R C : Nat} : ∀ (l : List Quad) (g : Rows), GridOk g → R < g.length → C < colsOf g → CanL g l → outL R C g l = at2 g R C :: histL R C l
  | [], g, _, _, _, _ => rfl
  | f :: l, g, hg, hR, hC, h => by
    show (if f.1 = (R : Int) ∧ f.2.1 = (C : Int) then _ else _) = at2 g R C :: ((if f.1 = (R : Int) ∧ f.2.1 = (C : Int) then [f.2.2.2] else []) ++ histL R C l)
    have ih := outL_hist l (put g f) (put_ok hg h.1) (by rw [put_len]; exact hR) (by rw [put_cols]; exact hC) h.2
    have ap := at_put hg h.1 hR hC
    by_cases e : f.1 = (R : Int) ∧ f.2.1 = (C : Int)
    · rw [if_pos e] at ap
      rw [if_pos e, if_pos e, ih, ap]; rfl
    · rw [if_neg e] at ap
      rw [if_neg e, if_neg e, ih, ap]; rfl
theorem outL_snoc {R C : Nat} : ∀ (l : List Quad) (g : Rows) (f : Quad), GridOk g → R < g.length → C < colsOf g → CanL g (l ++ [f]) → outL R C g (l ++ [f]) = outL R C g l ++ (if f.1 = (R : Int) ∧ f.2.1 = (C : Int) then [f.2.2.2] else [])
  | [], g, f, hg, hR, hC, h => by
    show (if f.1 = (R : Int) ∧ f.2.1 = (C : Int) then [at2 g R C, at2 (put g f) R C] else [at2 (put g f) R C]) = [at2 g R C] ++ _
    rw [at_put hg h.1 hR hC]
    by_cases e : f.1 = (R : Int) ∧ f.2.1 = (C : Int)
    · rw [if_pos e, if_pos e, if_pos e]; rfl
    · rw [if_neg e, if_neg e, if_neg e]; rfl
  | f' :: l, g, f, hg, hR, hC, h => by
    have ih := outL_snoc l (put g f') f (put_ok hg h.1) (by rw [put_len]; exact hR) (by rw [put_cols]; exact hC) h.2
    show (if f'.1 = (R : Int) ∧ f'.2.1 = (C : Int) then at2 g R C :: outL R C (put g f') (l ++ [f]) else outL R C (put g f') (l ++ [f])) = (if f'.1 = (R : Int) ∧ f'.2.1 = (C : Int) then at2 g R C :: outL R C (put g f') l else outL R C (put g f') l) ++ _
    rw [ih]
    split <;> rfl
/-- taken back, a cell's heights are the same the other way round -/
theorem outL_back {R C : Nat} : ∀ (l : List Quad) (g : Rows), GridOk g → R < g.length → C < colsOf g → CanL g l → outL R C (l.foldl put g) (backL l) = (outL R C g l).reverse
  | [], _, _, _, _, _ => rfl
  | f :: l, g, hg, hR, hC, h => by
    have hg' := put_ok hg h.1
    have ih := outL_back l (put g f) hg' (by rw [put_len]; exact hR) (by rw [put_cols]; exact hC) h.2
    have all := (back_L (f :: l) g hg h).1
    have hE : EdOk g [] ∨ True := .inr trivial
    clear hE
    have lk : GridOk ((f :: l).foldl put g) ∧ ((f :: l).foldl put g).length = g.length ∧ colsOf ((f :: l).foldl put g) = colsOf g := by
      have := doneUp_grid hg (f :: l).length (Nat.le_refl _) (canL_up _ _ h)
      have e : doneUp g (f :: l) (f :: l).length = (f :: l).foldl put g := by unfold doneUp; rw [List.take_length]
      rw [e] at this
      exact this
    rw [back_cons] at all ⊢
    rw [outL_snoc _ _ _ lk.1 (by rw [lk.2.1]; exact hR) (by rw [lk.2.2]; exact hC) all]
    rw [List.foldl_cons, ih]
    show _ ++ (if f.1 = (R : Int) ∧ f.2.1 = (C : Int) then [f.2.2.1] else []) = (if f.1 = (R : Int) ∧ f.2.1 = (C : Int) then at2 g R C :: outL R C (put g f) l else outL R C (put g f) l).reverse
    by_cases e : f.1 = (R : Int) ∧ f.2.1 = (C : Int)
    · rw [if_pos e, if_pos e, List.reverse_cons]
      have := h.1.2.2.2.2.1
      rw [show f.1.toNat = R by omega, show f.2.1.toNat = C by omega] at this
      rw [this]
    · rw [if_neg e, if_neg e, List.append_nil]
/-- neighbours differ -/
theorem outL_step {R C : Nat} : ∀ (l : List Quad) (g : Rows), GridOk g → R < g.length → C < colsOf g → CanL g l → ∀ i, i + 1 < (outL R C g l).length → (outL R C g l)[i + 1]?.getD 0 ≠ (outL R C g l)[i]?.getD 0
  | [], _, _, _, _, _ => fun i hi => by simp [outL] at hi
  | f :: l, g, hg, hR, hC, h => by
    have hg' := put_ok hg h.1
    have hR' : R < (put g f).length := by rw [put_len]; exact hR
    have hC' : C < colsOf (put g f) := by rw [put_cols]; exact hC
    have ih := outL_step l (put g f) hg' hR' hC' h.2
    by_cases e : f.1 = (R : Int) ∧ f.2.1 = (C : Int)
    · have eo : outL R C g (f :: l) = at2 g R C :: outL R C (put g f) l := if_pos e
      rw [eo]
      intro i hi
      cases i with
      | zero =>
        obtain ⟨t, ht⟩ := outL_head l (put g f) hg' hR' hC' h.2
        rw [ht, at_put hg h.1 hR hC, if_pos e]
        show f.2.2.2 ≠ at2 g R C
        have := h.1.2.2.2.2.1
        rw [show f.1.toNat = R by omega, show f.2.1.toNat = C by omega] at this
        rw [this]
        exact h.1.2.2.2.2.2.2.2
      | succ i => exact ih i (by simpa using hi)
    · have eo : outL R C g (f :: l) = outL R C (put g f) l := if_neg e
      rw [eo]
      exact ih
theorem atOf_outL {g : Rows} {l : List Quad} {R C : Int} (h : AtOk g l R C) : atOf g l R C = outL R.toNat C.toNat g l := by
  have c := h.2
  unfold HasCell at c
  rw [atOf_yes h, outL_hist l g h.1.1 (by omega) (by omega) (canUp_L l g h.1.2.2), hist_take l R C _ (Nat.le_refl _), List.take_length, show ((R.toNat : Nat) : Int) = R by omega, show ((C.toNat : Nat) : Int) = C by omega]
theorem sameInts_b (va vb : Value) (la lb : List Int) (w : World) (ha : Ints w va la) (hb : Ints w vb lb) :
    Calls Try.prog 22 #[va, vb] w fun e w' => e = .returned (.bool (decide (la = lb))) ∧ Below w.heap.size w w' :=
  (sameInts_any va vb la lb w ha hb).mono fun e w' ⟨he, n, hw⟩ => ⟨he, by subst hw; exact below_n (Below.refl _ _) n⟩
theorem rev_get {l : List Int} {k : Nat} (h : k < l.length) : l.reverse[l.length - 1 - k]?.getD 0 = l[k]?.getD 0 := by
  rw [List.getElem?_reverse (by omega), show l.length - 1 - (l.length - 1 - k) = k by omega]
/-- a cell's height in a read grid -/
theorem GridB.height {B : Nat} {w : World} {v : Value} {g : Rows} (h : GridB B w v g) (hg : GridOk g) {r c : Nat} (hr : r < g.length) (hc : c < colsOf g) : ∃ b off cap b2 o2 c2, v = .slice (some ⟨b, off, none⟩) g.length cap ∧ w.cell? ⟨b, off + r, none⟩ = some (.slice (some ⟨b2, o2, none⟩) (colsOf g) c2) ∧ w.cell? ⟨b2, o2 + c, none⟩ = some (.int .i64 (at2 g r c)) := by
  obtain ⟨b, off, cap, hv, _, _, _, H⟩ := h.open (by omega)
  obtain ⟨a, c2, h1, _, _, h2⟩ := H r hr
  have e := (hg.2.2.2.2 r hr).1
  rw [e] at h1 h2
  obtain ⟨b2, o2, rfl, _, h3⟩ := h2 (by omega)
  exact ⟨b, off, cap, b2, o2, c2, hv, h1, h3 c hc⟩
theorem cells_of {B : Nat} {w : World} {a : Option Addr} {n cap : Nat} {l : List Int} (h : IntsB B w (.slice a n cap) l) (hp : 0 < l.length) : ∃ b off, a = some ⟨b, off, none⟩ ∧ ∀ j, j < l.length → w.cell? ⟨b, off + j, none⟩ = some (.int .i64 (l[j]?.getD 0)) := by
  obtain ⟨a', cap', hv, h1, h2, h3⟩ := h
  simp only [Value.slice.injEq] at hv
  obtain ⟨rfl, rfl, rfl⟩ := hv
  obtain ⟨b, off, rfl, _, hc⟩ := h3 hp
  exact ⟨b, off, rfl, fun j hj => by rw [hc j hj, getD_eq hj]⟩
set_option maxHeartbeats 4000000 in
set_option maxRecDepth 100000 in
theorem FnFixesAt_walk (v : Value) (n : Nat) (w : World) (h : Bytes w v n) :
    Calls Try.prog 3 #[v] w fun e w' => e = .returned (.bool true) ∧ Below w.heap.size w w' := by
  have CD := Lib.hid (DrawFixesAt_any v n w h)
  obtain ⟨a, cap, rfl, h1, h2, h3⟩ := h
  clear h3
  by_cases hbig : 1048576 < n
  · have hb' : (1048576 : Int) < (n : Int) := by omega
    go_enter Try.func3, Try.ntmps3
    go_wp2
    go_ret
    exact ⟨rfl, Below.refl _ _⟩
  have hb' : ¬ (1048576 : Int) < (n : Int) := by omega
  clear hbig
  go_enter Try.func3, Try.ntmps3
  go_wp2_with fail
  refine CD.out.mono ?_
  rintro e w1 ⟨va, vb, ga, l, R, C, rfl, hA, hB, dA, hl6, hb1⟩
  have B := Lib.hid hb1
  have s1 := hb1.size
  obtain ⟨bp, cp, rfl, c1, c2, c3⟩ := id hB
  clear c3
  have A := Lib.hid (show GridB w1.heap.size w1 va ga from hA)
  have L := Lib.hid (show QuadsB w1.heap.size w1 (.slice bp l.length cp) l from hB)
  clear hA hB hb1 CD
  go_wp2_with fail
  with_reducible refine (FixesAt_any va _ ga l R C w1 (A.out.grid (by omega)) (L.out.quads (by omega))).mono ?_
  rintro e w2 ⟨vo, rfl, hO, hb2⟩
  have s2 := hb2.size
  replace A := Lib.hid (A.out.below hb2 (by omega))
  replace L := Lib.hid (L.out.below hb2 (by omega))
  replace B := Lib.hid (B.out.trans (hb2.mono (by omega)))
  clear hb2
  have OI := Lib.hid (show IntsB w2.heap.size w2 vo (atOf ga l R C) from hO.intsB)
  clear hO
  go_wp2_with fail
  with_reducible refine (specFixesAt_any va _ ga l R C w2 (A.out.grid (by omega)) (L.out.quads (by omega))).mono ?_
  rintro e w3 ⟨vu, rfl, hO, hb3⟩
  have s3 := hb3.size
  replace A := Lib.hid (A.out.below hb3 (by omega))
  replace L := Lib.hid (L.out.below hb3 (by omega))
  replace OI := Lib.hid (OI.out.below hb3 (by omega))
  replace B := Lib.hid (B.out.trans (hb3.mono (by omega)))
  clear hb3
  have UI := Lib.hid (show IntsB w3.heap.size w3 vu (atOf ga l R C) from hO.intsB)
  clear hO
  obtain ⟨sl, hsl⟩ : ∃ x, x = atOf ga l R C := ⟨_, rfl⟩
  rw [← hsl] at OI UI
  by_cases hs : AtOk ga l R C
  · rw [decide_eq_true hs]
    rw [atOf_outL hs] at hsl
    have hcell := hs.2
    unfold HasCell at hcell
    obtain ⟨r, rfl⟩ : ∃ r : Nat, R = (r : Int) := ⟨R.toNat, by omega⟩
    obtain ⟨c, rfl⟩ : ∃ c : Nat, C = (c : Int) := ⟨C.toNat, by omega⟩
    rw [show ((r : Int)).toNat = r by omega, show ((c : Int)).toNat = c by omega] at hsl
    have hr : r < ga.length := by omega
    have hc : c < colsOf ga := by omega
    have hL := canUp_L l ga hs.1.2.2
    have OKG := Lib.hid hs.1.1
    have HS := Lib.hid hs
    have EL := hs.1.grid
    have BK := back_ok hs.1
    have rev : outL r c (edition ga l) (backL l) = sl.reverse := by rw [hsl, edition_fold]; exact outL_back l ga hs.1.1 hr hc hL
    have hat2 : AtOk (edition ga l) (backL l) (r : Int) (c : Int) := ⟨BK.1, by unfold HasCell; rw [EL.2.1, EL.2.2]; exact hs.2⟩
    have REV : Hid (atOf (edition ga l) (backL l) (r : Int) (c : Int) = sl.reverse) := by show _ = _; rw [atOf_outL hat2]; exact rev
    have AT2 := Lib.hid hat2
    obtain ⟨tl, htl⟩ := outL_head l ga hs.1.1 hr hc hL
    rw [← hsl] at htl
    obtain ⟨tr, htr⟩ := outL_head (backL l) (edition ga l) EL.1 (by rw [EL.2.1]; exact hr) (by rw [EL.2.2]; exact hc) (canUp_L _ _ BK.1.2.2)
    rw [rev] at htr
    have N0 : 0 < sl.length := by rw [htl]; simp
    have FIRST : Hid (sl[0]?.getD 0 = at2 ga r c) := by show _ = _; rw [htl]; rfl
    have LAST : Hid (sl[sl.length - 1]?.getD 0 = at2 (edition ga l) r c) := by show _ = _; have := rev_get (l := sl) (k := sl.length - 1) (by omega); rw [← this, show sl.length - 1 - (sl.length - 1) = 0 by omega, htr]; rfl
    have STEP : Hid (∀ i, i + 1 < sl.length → sl[i + 1]?.getD 0 ≠ sl[i]?.getD 0) := by show ∀ i, _; rw [hsl]; exact outL_step l ga hs.1.1 hr hc hL
    have ELH := Lib.hid EL
    have N60 : sl.length ≤ 1000 := by have h0 := atOf_outL hs; have h1 := atOf_yes hs; have := hist_len l (r : Int) (c : Int) l.length; rw [show ((r : Int)).toNat = r by omega, show ((c : Int)).toNat = c by omega, ← hsl] at h0; rw [← h0, h1]; simp; omega
    obtain ⟨oa, oc, rfl, o1, o2, o3⟩ := id OI.out
    clear o3 hs hsl hcell hL EL BK rev hat2 htl htr
    have CD : Hid (∀ w, Grid w va ga → Quads w (.slice bp l.length cp) l → Calls Try.prog 23 #[va, .slice bp l.length cp] w fun e w' => ∃ v, e = .returned (.tuple #[v, .bool true]) ∧ OwnG w.heap.size w'.heap.size w' v (edition ga l) ∧ Below w.heap.size w w') := by
      intro w hg hl
      have h := FixesDo_any va (.slice bp l.length cp) ga l w hg hl
      rw [decide_eq_true HS.out.1, edAll_yes HS.out.1] at h
      exact h
    have CB : Hid (∀ w, Grid w va ga → Quads w (.slice bp l.length cp) l → Calls Try.prog 24 #[va, .slice bp l.length cp] w fun e w' => ∃ v, e = .returned (.tuple #[v, .bool true]) ∧ OwnQ w.heap.size w'.heap.size w' v (backL l) ∧ Below w.heap.size w w') := by
      intro w hg hl
      have h := FixesBack_any va (.slice bp l.length cp) ga l w hg hl
      rw [decide_eq_true HS.out.1, backOf_yes HS.out.1] at h
      exact h
    have CT : Hid (∀ w vx vk, Grid w vx (edition ga l) → Quads w vk (backL l) → Calls Try.prog 20 #[vx, vk, .int .i64 (r : Int), .int .i64 (c : Int)] w fun e w' => ∃ v, e = .returned (.tuple #[v, .bool true]) ∧ Own w.heap.size w'.heap.size w' v (sl.reverse) ∧ Below w.heap.size w w') := by
      intro w vx vk hg hl
      have h := FixesAt_any vx vk _ _ (r : Int) (c : Int) w hg hl
      rw [decide_eq_true AT2.out, REV.out] at h
      exact h
    go_wp2_with fail
    with_reducible refine (sameInts_b _ vu sl sl w3 (OI.out.ints (by omega)) (UI.out.ints (by omega))).mono ?_
    rintro e w4 ⟨rfl, hb4⟩
    rw [decide_eq_true (rfl : sl = sl)]
    have s4 := hb4.size
    replace A := Lib.hid (A.out.below hb4 (by omega))
    replace L := Lib.hid (L.out.below hb4 (by omega))
    replace OI := Lib.hid (OI.out.below hb4 (by omega))
    replace UI := Lib.hid (UI.out.below hb4 (by omega))
    replace B := Lib.hid (B.out.trans (hb4.mono (by omega)))
    clear hb4
    clear UI
    go_wp2_with fail
    with_reducible refine (CD.out w4 (A.out.grid (by omega)) (L.out.quads (by omega))).mono ?_
    rintro e w5 ⟨x, rfl, hO, hb5⟩
    have s5 := hb5.size
    replace A := Lib.hid (A.out.below hb5 (by omega))
    replace L := Lib.hid (L.out.below hb5 (by omega))
    replace OI := Lib.hid (OI.out.below hb5 (by omega))
    replace B := Lib.hid (B.out.trans (hb5.mono (by omega)))
    clear hb5
    have XG := Lib.hid (show GridB w5.heap.size w5 x (edition ga l) from hO.grid (Nat.le_refl _))
    clear hO
    go_wp2_with fail
    with_reducible refine (CB.out w5 (A.out.grid (by omega)) (L.out.quads (by omega))).mono ?_
    rintro e w6 ⟨bk, rfl, hO, hb6⟩
    have s6 := hb6.size
    replace A := Lib.hid (A.out.below hb6 (by omega))
    replace L := Lib.hid (L.out.below hb6 (by omega))
    replace OI := Lib.hid (OI.out.below hb6 (by omega))
    replace XG := Lib.hid (XG.out.below hb6 (by omega))
    replace B := Lib.hid (B.out.trans (hb6.mono (by omega)))
    clear hb6
    have BQ := Lib.hid (show QuadsB w6.heap.size w6 bk (backL l) from hO.quadsB)
    clear hO
    clear L
    go_wp2_with fail
    with_reducible refine (CT.out w6 x bk (XG.out.grid (by omega)) (BQ.out.quads (by omega))).mono ?_
    rintro e w7 ⟨ot, rfl, hO, hb7⟩
    have s7 := hb7.size
    replace A := Lib.hid (A.out.below hb7 (by omega))
    replace OI := Lib.hid (OI.out.below hb7 (by omega))
    replace XG := Lib.hid (XG.out.below hb7 (by omega))
    replace BQ := Lib.hid (BQ.out.below hb7 (by omega))
    replace B := Lib.hid (B.out.trans (hb7.mono (by omega)))
    clear hb7
    have TI := Lib.hid (show IntsB w7.heap.size w7 ot (sl.reverse) from hO.intsB)
    clear hO
    clear BQ
    clear CD CB CT
    obtain ⟨ta, tc, rfl, t1, t2, t3⟩ := id TI.out
    clear t3
    obtain ⟨ob, oo, rfl, OC⟩ := cells_of OI.out N0
    obtain ⟨tb, tof, rfl, TC⟩ := cells_of TI.out (by rw [List.length_reverse]; exact N0)
    rw [List.length_reverse] at t1 TC ⊢
    obtain ⟨gb, goff, gcap, gb2, go2, gc2, rfl, g1, g2⟩ := A.out.height OKG.out hr hc
    obtain ⟨xb, xo, xcap, xb2, xo2, xc2, rfl, x1, x2⟩ := XG.out.height ELH.out.1 (show r < (edition ga l).length by rw [ELH.out.2.1]; exact hr) (show c < colsOf (edition ga l) by rw [ELH.out.2.2]; exact hc)
    rw [ELH.out.2.1]
    rw [ELH.out.2.2] at x1
    have OCH := Lib.hid OC
    have TCH := Lib.hid TC
    obtain ⟨N, hN⟩ : ∃ N, N = sl.length := ⟨_, rfl⟩
    have HN := Lib.hid hN
    rw [← hN] at N0 N60 o1 t1 ⊢
    clear hN OC TC A XG OI TI
    have e1 := IntWalk.i64_in ((N : Int) - 1) (by omega)
    obtain ⟨p, hp⟩ : ∃ p, p = N - 1 := ⟨_, rfl⟩
    have e2 : (N : Int) - 1 = (p : Int) := by omega
    have e3 := IntWalk.i64_in (p : Int) (by omega)
    have hpN : p < N := by omega
    have c0 := OCH.out 0 (by rw [← HN.out]; exact N0)
    have cp0 := OCH.out p (by rw [← HN.out]; exact hpN)
    rw [FIRST.out] at c0
    rw [hp, HN.out, LAST.out, ← HN.out, ← hp] at cp0
    rw [Nat.add_zero] at c0
    obtain ⟨h0, hh0⟩ : ∃ z, z = at2 ga r c := ⟨_, rfl⟩
    obtain ⟨h1, hh1⟩ : ∃ z, z = at2 (edition ga l) r c := ⟨_, rfl⟩
    rw [← hh0] at c0 g2
    rw [← hh1] at cp0 x2
    have PH := Lib.hid hp
    clear hh0 hh1 hp FIRST LAST
    go_wp2_with fail
    go_loopw [18] (fun i wr => ∃ k n : Nat, k ≤ N ∧ i = .int .i64 k ∧ wr = w7.drewN n) (fun i _ => N - (intOf i).toNat)
    case atStart => exact ⟨0, 0, Nat.zero_le _, rfl, rfl⟩
    case round =>
      obtain ⟨k, n, hk, rfl, rfl⟩ := hrel
      by_cases hlt : k < N
      · obtain ⟨m, hm⟩ : ∃ m, m = N - 1 - k := ⟨_, rfl⟩
        have a1 : (p : Int) - (k : Int) = (m : Int) := by omega
        have a2 : (N : Int) - 1 - (k : Int) = (m : Int) := by omega
        have a3 := IntWalk.i64_in (m : Int) (by omega)
        have hmN : m < N := by omega
        have ck := OCH.out k (by rw [← HN.out]; exact hlt)
        have cm := TCH.out m (by rw [← HN.out]; exact hmN)
        rw [hm, HN.out, rev_get (by rw [← HN.out]; exact hlt), ← HN.out, ← hm] at cm
        obtain ⟨z, hz⟩ : ∃ z, z = sl[k]?.getD 0 := ⟨_, rfl⟩
        rw [← hz] at ck cm
        have HZ := Lib.hid hz
        have tz : (z != z) = false := by simp
        clear hz hm
        clear c0 cp0 g1 g2 x1 x2
        by_cases k0 : k = 0
        · subst k0
          obtain rfl : m = p := by omega
          rw [Nat.add_zero] at ck
          go_wp2_with fail
          go_quiet (fail)
          go_wp2_with fail
          go_roundw
          case rel => exact ⟨1, n + nq, by omega, by go_num, rfl⟩
          case measure => simp [intOf]; omega
        · obtain ⟨j, hj⟩ : ∃ j, j = k - 1 := ⟨_, rfl⟩
          have f5 : j + 1 = k := by omega
          have cj := OCH.out j (by rw [← HN.out]; omega)
          have ne := STEP.out j (by rw [← HN.out, f5]; exact hlt)
          rw [f5, ← HZ.out] at ne
          obtain ⟨y, hy⟩ : ∃ z, z = sl[j]?.getD 0 := ⟨_, rfl⟩
          rw [← hy] at cj ne
          have tn : (z == y) = false := by simp [ne]
          have f1 : (k : Int) - 1 = (j : Int) := by omega
          have f2 := IntWalk.i64_in (j : Int) (by omega)
          have f3 : (0 : Int) < (k : Int) := by omega
          have f4 : j < N := by omega
          have f6 : 0 < k := by omega
          clear f5 hj
          clear hy ne k0
          go_wp2_with fail
          go_quiet (fail)
          go_wp2_with fail
          go_roundw
          case rel => exact ⟨k + 1, n + nq, by omega, by go_num, rfl⟩
          case measure => simp [intOf]; omega
      · obtain rfl : k = N := by omega
        have u0 : (h0 == h0) = true := by simp
        have u1 : (h1 == h1) = true := by simp
        go_wp2_with fail
        go_quiet (fail)
        go_wp2_with fail
        go_ret
        exact ⟨rfl, below_n (below_n B.out _) _⟩
  · rw [decide_eq_false hs]
    clear hs hsl
    go_wp2_with fail
    with_reducible refine (sameInts_b _ vu sl sl w3 (OI.out.ints (by omega)) (UI.out.ints (by omega))).mono ?_
    rintro e w4 ⟨rfl, hb4⟩
    rw [decide_eq_true (rfl : sl = sl)]
    have s4 := hb4.size
    replace A := Lib.hid (A.out.below hb4 (by omega))
    replace L := Lib.hid (L.out.below hb4 (by omega))
    replace OI := Lib.hid (OI.out.below hb4 (by omega))
    replace UI := Lib.hid (UI.out.below hb4 (by omega))
    replace B := Lib.hid (B.out.trans (hb4.mono (by omega)))
    clear hb4
    go_wp2_with fail
    with_reducible refine (sameInts_b _ vu sl sl w4 (OI.out.ints (by omega)) (UI.out.ints (by omega))).mono ?_
    rintro e w5 ⟨rfl, hb5⟩
    rw [decide_eq_true (rfl : sl = sl)]
    have s5 := hb5.size
    replace A := Lib.hid (A.out.below hb5 (by omega))
    replace L := Lib.hid (L.out.below hb5 (by omega))
    replace OI := Lib.hid (OI.out.below hb5 (by omega))
    replace UI := Lib.hid (UI.out.below hb5 (by omega))
    replace B := Lib.hid (B.out.trans (hb5.mono (by omega)))
    clear hb5
    go_wp2
    go_ret
    exact ⟨rfl, B.out⟩
end Go.Proofs.Ytebhbcjioolpeab
namespace Go.Proofs.Ytebhbcjioolpeab.fnFixesAt
open Go.ChangeShapes Go.WideShapes Go.ChangeAt Go.RowKit
set_option linter.unusedVariables false

theorem own : ownKnob Try.prog.godebug = none := by kernel_rfl
theorem laidOut : laidOutB Try.prog = true := fact_laid
set_option maxRecDepth 100000 in
theorem lifted (os : Os) (started : os.Started) (H : Type) (enc : TypeId × Value → H) :
    ReturnsInHanded {} Try.checked os 3 .any (Rows.fnFixesAtSpec.pre6 enc Try.prog Try.f3 Rows.fnFixesAtRow.domain false) (Rows.fnFixesAtSpec.post enc Try.prog Try.f3 false true false false) := by
  refine returnsInHanded_of_change (C := Try.checked) own started (by kernel_rfl) Try.func3
    (ChangeSpec.witness6 (enc := enc) (C := Try.checked) false ⟨#[], #[.slice none 0 0], []⟩ 8 (by kernel_rfl) (by kernel_rfl) (by kernel_rfl) (by kernel_rfl)) ?_
  intro W base args ds gs before hval0 hW hcnd _
  have hval : ∀ (j : Nat) t v, Try.f3.params[j]? = some t → args[j]? = some v → Value.okWide Try.prog W .any base t v := hval0
  have hW' := hW
  obtain ⟨p, q, hA0, hV, rfl, hfz, hnd⟩ := hW
  have hA : DataW.TrodAll enc Try.prog W 0 (fun _ => true) true Try.f3.params.toList args.toList ds p := hA0
  rw [Try.params3] at hA hval
  obtain ⟨v0, vs0, d0, ds0, p0, q0, hargs, rfl, rfl, h0, r0⟩ := trodAll_cons hA
  obtain ⟨rfl, rfl, rfl⟩ := trodAll_nil r0
  obtain rfl : args = #[v0] := by cases args; simp_all
  obtain ⟨rfl, rfl⟩ := trodVars_none hV
  obtain ⟨a0, len0, cap0, rfl⟩ := okWide_slice Try.underlying22 (hval 0 22 v0 rfl rfl)
  have k0 := h0
  have lt0 : ∀ x ∈ p0, x.block < W.heap.size := by obtain ⟨m, hm⟩ := k0; exact DataW.trod_lt m _ _ _ hm
  obtain ⟨z0, w0⟩ : ∃ zs, Bytes W (.slice a0 len0 cap0) zs := bytes_opened h0
  clear hA0 hval0
  refine (FnFixesAt_walk _ z0 W w0).mono fun e W' ⟨he, bel⟩ => ?_
  subst he
  exact ⟨_, rfl, _, _, _, [], _, [], hW', trodAll_mk1 (shut_bool Try.underlying4 _), (trodAll_cons_mk (Below.trod laidOut (by kernel_rfl) (of_decide_eq_true (by kernel_rfl)) k0 bel lt0) trodAll_mk0), rfl, bel.frame _, fun h => by cases h⟩
theorem fact_inPlace : (Rows.fnFixesAtRow.inPlace == Try.prog.inPlace 3) = true := by kernel_rfl
theorem fact_unfollowed : (Rows.fnFixesAtRow.unfollowed == Try.prog.unfollowed 3) = true := by kernel_rfl
theorem fact_recurses : (Rows.fnFixesAtRow.recurses == Try.prog.recurses 3) = true := by kernel_rfl
theorem fact_named : (Rows.fnFixesAtRow.named == Try.prog.varsNamed 3) = true := by kernel_rfl
theorem fact_plain : (Rows.fnFixesAtRow.plainKeys == Try.prog.plainKeys) = true := by kernel_rfl
theorem joined : joinedFacts Try.pinned.checked.prog 3 Try.f3 Rows.fnFixesAtSpec Rows.fnFixesAtRow = true :=
  joined_of (f := 3) (fn := Try.f3) (s := Rows.fnFixesAtSpec) (c := Rows.fnFixesAtRow) (by kernel_rfl) (by kernel_rfl) (by kernel_rfl) (by kernel_rfl) (by kernel_rfl) fact_inPlace fact_unfollowed fact_recurses fact_named (by kernel_rfl) (by kernel_rfl) (by kernel_rfl) (by kernel_rfl) (by kernel_rfl) (by kernel_rfl) (by kernel_rfl) (by kernel_rfl) (by kernel_rfl) fact_plain (by kernel_rfl) rfl rfl (by kernel_rfl) (by kernel_rfl) (by kernel_rfl) (by kernel_rfl)

/-- the statement -/
theorem proved : Rows.FnFixesAtSaid :=
  OpenClaim.holds_of_wide 3 Try.f3 rfl rfl rfl rfl rfl rfl rfl ⟨rfl, rfl, rfl, rfl, rfl⟩ rfl rfl rfl rfl rfl (by kernel_rfl) Try.func3 joined
    (of_decide_eq_true (by kernel_rfl)) (by unfold Func.isWrapper; first | (rw [if_pos (by decide +kernel)]; kernel_rfl) | (rw [if_neg (by decide +kernel)]; exact ⟨rfl, rfl⟩))
    (fun os started H enc _ => lifted os started H enc)
#print axioms proved
end Go.Proofs.Ytebhbcjioolpeab.fnFixesAt
