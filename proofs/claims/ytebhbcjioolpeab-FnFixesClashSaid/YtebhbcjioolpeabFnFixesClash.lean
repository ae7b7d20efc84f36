/-
  FnFixesClash: for all arguments the law returns true and leaves what was there as it was. No condition.
-/
import Derived.Test.YtebhbcjioolpeabBothD
import Derived.Test.YtebhbcjioolpeabClash
import Derived.Test.YtebhbcjioolpeabSameQ
import Derived.Test.YtebhbcjioolpeabFacts
import Derived.ProofKit
import Derived.OpenShut
import Derived.ShutString
import Derived.ChangeOld
import Derived.Below
import Derived.Test.YtebhbcjioolpeabFacts
import Derived.ProofKit
import Derived.OpenShut
import Derived.ShutString
import Derived.ChangeOld
import Derived.Below
namespace Go.Proofs.Ytebhbcjioolpeab
open Go.RowKit Go.Deep

theorem asc_lt {l : List Quad} (h : AscUp l l.length) {i : Nat} : ∀ j, i < j → j < l.length → CellLt (l[i]?.getD q0) (l[j]?.getD q0) := by
  intro j
  induction j with
  | zero => intro h0; omega
  | succ j ih =>
    intro h1 h2
    have s := h j h2
    by_cases e : i = j
    · subst e; exact s
    · have := ih (by omega) (by omega)
      unfold CellLt at this s ⊢
      omega
theorem at_step {g : Rows} {l : List Quad} (hg : GridOk g) {k : Nat} (hk : k < l.length) (hc : CanUp g l (k + 1)) {r c : Nat} (hr : r < g.length) (hcc : c < colsOf g) :
    at2 (doneUp g l (k + 1)) r c = if (l[k]?.getD q0).1 = (r : Int) ∧ (l[k]?.getD q0).2.1 = (c : Int) then (l[k]?.getD q0).2.2.2 else at2 (doneUp g l k) r c := by
  have d := doneUp_grid hg k (by omega) (hc.less (by omega))
  have cn := hc k (by omega)
  rw [doneUp_succ hk, put_at d.1 cn (by rw [d.2.1]; exact hr) (by rw [d.2.2]; exact hcc)]
  have n1 := cn.1
  have n2 := cn.2.2.1
  by_cases e : (l[k]?.getD q0).1 = (r : Int) ∧ (l[k]?.getD q0).2.1 = (c : Int)
  · rw [if_pos e, if_pos (by omega)]
  · rw [if_neg e, if_neg (by omega)]
theorem at_same {g : Rows} {l : List Quad} (hg : GridOk g) {r c : Nat} (hr : r < g.length) (hcc : c < colsOf g) : ∀ k, k ≤ l.length → CanUp g l k → (∀ j, j < k → ¬ ((l[j]?.getD q0).1 = (r : Int) ∧ (l[j]?.getD q0).2.1 = (c : Int))) → at2 (doneUp g l k) r c = at2 g r c := by
  intro k
  induction k with
  | zero => intro _ _ _; rw [doneUp_zero]
  | succ k ih =>
    intro hk hc hn
    rw [at_step hg (by omega) hc hr hcc, if_neg (hn k (by omega))]
    exact ih (by omega) (hc.less (by omega)) fun j hj => hn j (by omega)
theorem at_new {g : Rows} {l : List Quad} (hg : GridOk g) {r c m : Nat} (hr : r < g.length) (hcc : c < colsOf g) (hm : (l[m]?.getD q0).1 = (r : Int) ∧ (l[m]?.getD q0).2.1 = (c : Int)) : ∀ k, m < k → k ≤ l.length → CanUp g l k → (∀ j, m < j → j < k → ¬ ((l[j]?.getD q0).1 = (r : Int) ∧ (l[j]?.getD q0).2.1 = (c : Int))) → at2 (doneUp g l k) r c = (l[m]?.getD q0).2.2.2 := by
  intro k
  induction k with
  | zero => intro h; omega
  | succ k ih =>
    intro h1 hk hc hn
    rw [at_step hg (by omega) hc hr hcc]
    by_cases e : m = k
    · subst e; rw [if_pos hm]
    · rw [if_neg (hn k (by omega) (by omega))]
      exact ih (by omega) (by omega) (hc.less (by omega)) fun j h2 h3 => hn j h2 (by omega)
/-- a short correction's heights are those of its cell -/
theorem are_at {g : Rows} {l : List Quad} (h : AreOk g l) {m : Nat} (hm : m < l.length) : ∃ r c : Nat, r < g.length ∧ c < colsOf g ∧ (l[m]?.getD q0).1 = (r : Int) ∧ (l[m]?.getD q0).2.1 = (c : Int) ∧ (l[m]?.getD q0).2.2.1 = at2 g r c ∧ at2 (edition g l) r c = (l[m]?.getD q0).2.2.2 := by
  have cn := h.1.2.2 m hm
  have d := doneUp_grid h.1.1 m (by omega) (h.1.2.2.less (by omega))
  have a1 := cn.1
  have a2 := cn.2.1
  have a3 := cn.2.2.1
  have a4 := cn.2.2.2.1
  rw [d.2.1] at a2
  rw [d.2.2] at a4
  have e1 : (l[m]?.getD q0).1 = (((l[m]?.getD q0).1.toNat : Nat) : Int) := by omega
  have e2 : (l[m]?.getD q0).2.1 = (((l[m]?.getD q0).2.1.toNat : Nat) : Int) := by omega
  refine ⟨(l[m]?.getD q0).1.toNat, (l[m]?.getD q0).2.1.toNat, by omega, by omega, e1, e2, ?_, ?_⟩
  · rw [← cn.2.2.2.2.1]
    refine at_same h.1.1 (by omega) (by omega) m (by omega) (h.1.2.2.less (by omega)) fun j hj hc => ?_
    have := asc_lt h.2 m hj hm
    unfold CellLt at this
    omega
  · refine at_new h.1.1 (by omega) (by omega) ⟨e1, e2⟩ _ hm (Nat.le_refl _) h.1.2.2 fun j hj hj2 hc => ?_
    have := asc_lt h.2 j hj hj2
    unfold CellLt at this
    omega
theorem clash_sym {g : Rows} {a b : List Quad} (h : ClashOk g a b) : ClashOk g b a := by
  obtain ⟨i, hi, j, hj, hc⟩ := h.2.2
  exact ⟨h.2.1, h.1, j, hj, i, hi, ⟨hc.1.1.symm, hc.1.2.symm⟩, fun e => hc.2 e.symm⟩
theorem clash_self {g : Rows} {a : List Quad} (h : AreOk g a) : ¬ ClashOk g a a := by
  rintro ⟨_, _, i, hi, j, hj, hc⟩
  by_cases e : i = j
  · subst e; exact hc.2 rfl
  · by_cases l : i < j
    · have := asc_lt h.2 j l hj
      unfold CellLt at this
      have := hc.1
      omega
    · have := asc_lt h.2 i (show j < i by omega) hi
      unfold CellLt at this
      have := hc.1
      omega
theorem clash_far {g : Rows} {a b : List Quad} (h : ClashOk g a b) : 1 ≤ farOf (edition g a) (edition g b) := by
  obtain ⟨i, hi, j, hj, hc⟩ := h.2.2
  obtain ⟨r, c, hr, hcc, e1, e2, e3, e4⟩ := are_at h.1 hi
  obtain ⟨r', c', hr', hcc', f1, f2, f3, f4⟩ := are_at h.2.1 hj
  have p1 := hc.1.1
  have p2 := hc.1.2
  obtain rfl : r = r' := by omega
  obtain rfl : c = c' := by omega
  have la := h.1.1.like
  have lb := h.2.1.1.like
  have lk : Like (edition g a) (edition g b) := ⟨⟨la.1.2.1, lb.1.2.1, la.1.2.2.symm.trans lb.1.2.2⟩, la.2.symm.trans lb.2⟩
  have hne : farOf (edition g a) (edition g b) ≠ 0 := by
    intro h0
    have e := (far_zero lk).1 h0
    rw [e, f4] at e4
    refine hc.2 ?_
    have : ∀ p q : Quad, p.1 = q.1 → p.2.1 = q.2.1 → p.2.2.1 = q.2.2.1 → p.2.2.2 = q.2.2.2 → p = q := by
      rintro ⟨_, _, _, _⟩ ⟨_, _, _, _⟩ h1 h2 h3 h4
      simp only at h1 h2 h3 h4
      rw [h1, h2, h3, h4]
    exact this _ _ p1 p2 (by rw [e3, f3]) e4.symm
  have := far_small lk
  omega

set_option maxHeartbeats 1000000 in
theorem FixesBoth_no (vg va vb : Value) (g : Rows) (a b : List Quad) (w : World) (hG : Grid w vg g) (hA : Quads w va a) (hB : Quads w vb b) (hC : ClashOk g a b) :
    Calls Try.prog 54 #[vg, va, vb] w fun e w' => e = .returned (.tuple #[.slice none 0 0, .bool false]) ∧ Below w.heap.size w w' := by
  have CA := Lib.hid (FixesAre_any vg va g a w hG hA)
  have CB : Hid (∀ W, Below w.heap.size w W → Calls Try.prog 42 #[vg, vb] W fun e w' => e = .returned (.bool (decide (AreOk g b))) ∧ Below W.heap.size W w') := fun W hb => FixesAre_any vg vb g b W ((GridB.below (show GridB w.heap.size w vg g from hG) hb (Nat.le_refl _)).grid hb.size) ((hB.quadsB.below hb (Nat.le_refl _)).quads hb.size)
  have CC : Hid (∀ W, Below w.heap.size w W → Calls Try.prog 84 #[va, vb] W fun e w' => e = .returned (.bool (decide (ClashL a b))) ∧ Below W.heap.size W w') := fun W hb => clashing_any va vb a b W ((hA.quadsB.below hb (Nat.le_refl _)).quads hb.size) ((hB.quadsB.below hb (Nat.le_refl _)).quads hb.size)
  rw [decide_eq_true hC.1] at CA
  rw [decide_eq_true hC.2.1] at CB
  rw [decide_eq_true hC.2.2] at CC
  clear hG hA hB hC
  go_enter Try.func54, Try.ntmps54
  go_wp2_with fail
  refine CA.out.mono ?_
  rintro e w1 ⟨rfl, hb1⟩
  have HB1 := Lib.hid hb1
  clear hb1 CA
  go_wp2_with fail
  refine (CB.out _ HB1.out).mono ?_
  rintro e w2 ⟨rfl, hb2⟩
  have HB2 := Lib.hid (HB1.out.trans (hb2.mono HB1.out.size))
  clear hb2 CB
  go_wp2_with fail
  refine (CC.out _ HB2.out).mono ?_
  rintro e w3 ⟨rfl, hb3⟩
  have HB3 := Lib.hid (HB2.out.trans (hb3.mono HB2.out.size))
  clear hb3 CC
  go_wp2
  go_ret2
  exact ⟨rfl, HB3.out⟩

set_option maxHeartbeats 4000000 in
set_option maxRecDepth 100000 in
theorem FnFixesClash_walk (v : Value) (n : Nat) (w : World) (h : Bytes w v n) :
    Calls Try.prog 12 #[v] w fun e w' => e = .returned (.bool true) ∧ Below w.heap.size w w' := by
  have CD := Lib.hid (DrawFixesClash_any v n w h)
  obtain ⟨a, cap, rfl, h1, h2, h3⟩ := h
  clear h3
  by_cases hbig : 1048576 < n
  · have hb' : (1048576 : Int) < (n : Int) := by omega
    go_enter Try.func12, Try.ntmps12
    go_wp2
    go_ret
    exact ⟨rfl, Below.refl _ _⟩
  have hb' : ¬ (1048576 : Int) < (n : Int) := by omega
  clear hbig
  go_enter Try.func12, Try.ntmps12
  go_wp2_with fail
  refine CD.out.mono ?_
  rintro e w1 ⟨va, vb, vc, ga, la, lb, rfl, hA, hB, hC, dA, hl1, hl2, hb1⟩
  have B := Lib.hid hb1
  have s1 := hb1.size
  have A := Lib.hid (show GridB w1.heap.size w1 va ga from hA)
  have L := Lib.hid (show QuadsB w1.heap.size w1 vb la from hB)
  have M := Lib.hid (show QuadsB w1.heap.size w1 vc lb from hC)
  clear hA hB hC hb1 CD
  go_wp2_with fail
  with_reducible refine (FixesClash_any va vb vc ga la lb w1 (A.out.grid (by omega)) (L.out.quads (by omega)) (M.out.quads (by omega))).mono ?_
  rintro e w2 ⟨rfl, hb2⟩
  have s2 := hb2.size
  replace A := Lib.hid (A.out.below hb2 (by omega))
  replace L := Lib.hid (L.out.below hb2 (by omega))
  replace M := Lib.hid (M.out.below hb2 (by omega))
  replace B := Lib.hid (B.out.trans (hb2.mono (by omega)))
  clear hb2
  go_wp2_with fail
  with_reducible refine (specFixesClash_any va vb vc ga la lb w2 (A.out.grid (by omega)) (L.out.quads (by omega)) (M.out.quads (by omega))).mono ?_
  rintro e w3 ⟨rfl, hb3⟩
  have s3 := hb3.size
  replace A := Lib.hid (A.out.below hb3 (by omega))
  replace L := Lib.hid (L.out.below hb3 (by omega))
  replace M := Lib.hid (M.out.below hb3 (by omega))
  replace B := Lib.hid (B.out.trans (hb3.mono (by omega)))
  clear hb3
  by_cases hs : ClashOk ga la lb
  · rw [decide_eq_true hs]
    have HS := Lib.hid hs
    clear hs
    have far := clash_far HS.out
    obtain ⟨d, hd⟩ : ∃ x, x = farOf (edition ga la) (edition ga lb) := ⟨_, rfl⟩
    rw [← hd] at far
    have HD := Lib.hid hd
    clear hd
    have CD : Hid (∀ w, Grid w va ga → Quads w vb la → Calls Try.prog 23 #[va, vb] w fun e w' => ∃ v, e = .returned (.tuple #[v, .bool true]) ∧ OwnG w.heap.size w'.heap.size w' v (edition ga la) ∧ Below w.heap.size w w') := by
      intro w hg hl
      have h := FixesDo_any va vb ga la w hg hl
      rw [decide_eq_true HS.out.1.1, edAll_yes HS.out.1.1] at h
      exact h
    have CO : Hid (∀ w, Grid w va ga → Quads w vc lb → Calls Try.prog 23 #[va, vc] w fun e w' => ∃ v, e = .returned (.tuple #[v, .bool true]) ∧ OwnG w.heap.size w'.heap.size w' v (edition ga lb) ∧ Below w.heap.size w w') := by
      intro w hg hl
      have h := FixesDo_any va vc ga lb w hg hl
      rw [decide_eq_true HS.out.2.1.1, edAll_yes HS.out.2.1.1] at h
      exact h
    go_wp2_with fail
    with_reducible refine (FixesBoth_no va vb vc ga la lb w3 (A.out.grid (by omega)) (L.out.quads (by omega)) (M.out.quads (by omega)) HS.out).mono ?_
    rintro e w4 ⟨rfl, hb4⟩
    have s4 := hb4.size
    replace A := Lib.hid (A.out.below hb4 (by omega))
    replace L := Lib.hid (L.out.below hb4 (by omega))
    replace M := Lib.hid (M.out.below hb4 (by omega))
    replace B := Lib.hid (B.out.trans (hb4.mono (by omega)))
    clear hb4
    go_wp2_with fail
    with_reducible refine (CD.out w4 (A.out.grid (by omega)) (L.out.quads (by omega))).mono ?_
    rintro e w5 ⟨x, rfl, hO, hb5⟩
    have s5 := hb5.size
    replace A := Lib.hid (A.out.below hb5 (by omega))
    replace L := Lib.hid (L.out.below hb5 (by omega))
    replace M := Lib.hid (M.out.below hb5 (by omega))
    replace B := Lib.hid (B.out.trans (hb5.mono (by omega)))
    clear hb5
    have XG := Lib.hid (show GridB w5.heap.size w5 x (edition ga la) from hO.grid (Nat.le_refl _))
    clear hO
    go_wp2_with fail
    with_reducible refine (CO.out w5 (A.out.grid (by omega)) (M.out.quads (by omega))).mono ?_
    rintro e w6 ⟨y, rfl, hO, hb6⟩
    have s6 := hb6.size
    replace A := Lib.hid (A.out.below hb6 (by omega))
    replace L := Lib.hid (L.out.below hb6 (by omega))
    replace M := Lib.hid (M.out.below hb6 (by omega))
    replace XG := Lib.hid (XG.out.below hb6 (by omega))
    replace B := Lib.hid (B.out.trans (hb6.mono (by omega)))
    clear hb6
    have YG := Lib.hid (show GridB w6.heap.size w6 y (edition ga lb) from hO.grid (Nat.le_refl _))
    clear hO
    clear CD CO
    go_wp2_with fail
    with_reducible refine (FixesClash_any va vc vb ga lb la w6 (A.out.grid (by omega)) (M.out.quads (by omega)) (L.out.quads (by omega))).mono ?_
    rintro e w7 ⟨rfl, hb7⟩
    rw [decide_eq_true (clash_sym HS.out)]
    have s7 := hb7.size
    replace A := Lib.hid (A.out.below hb7 (by omega))
    replace L := Lib.hid (L.out.below hb7 (by omega))
    replace M := Lib.hid (M.out.below hb7 (by omega))
    replace XG := Lib.hid (XG.out.below hb7 (by omega))
    replace YG := Lib.hid (YG.out.below hb7 (by omega))
    replace B := Lib.hid (B.out.trans (hb7.mono (by omega)))
    clear hb7
    go_wp2_with fail
    with_reducible refine (EditionFar_any x y _ _ w7 (XG.out.grid (by omega)) (YG.out.grid (by omega))).mono ?_
    rintro e w8 ⟨rfl, hb8⟩
    rw [← HD.out]
    have s8 := hb8.size
    replace A := Lib.hid (A.out.below hb8 (by omega))
    replace L := Lib.hid (L.out.below hb8 (by omega))
    replace M := Lib.hid (M.out.below hb8 (by omega))
    replace XG := Lib.hid (XG.out.below hb8 (by omega))
    replace YG := Lib.hid (YG.out.below hb8 (by omega))
    replace B := Lib.hid (B.out.trans (hb8.mono (by omega)))
    clear hb8
    go_wp2_with fail
    with_reducible refine (FixesClash_any va vb vb ga la la w8 (A.out.grid (by omega)) (L.out.quads (by omega)) (L.out.quads (by omega))).mono ?_
    rintro e w9 ⟨rfl, hb9⟩
    rw [decide_eq_false (clash_self HS.out.1)]
    have s9 := hb9.size
    replace A := Lib.hid (A.out.below hb9 (by omega))
    replace L := Lib.hid (L.out.below hb9 (by omega))
    replace M := Lib.hid (M.out.below hb9 (by omega))
    replace XG := Lib.hid (XG.out.below hb9 (by omega))
    replace YG := Lib.hid (YG.out.below hb9 (by omega))
    replace B := Lib.hid (B.out.trans (hb9.mono (by omega)))
    clear hb9
    go_wp2
    go_ret
    exact ⟨rfl, B.out⟩
  · rw [decide_eq_false hs]
    clear hs
    go_wp2
    go_ret
    exact ⟨rfl, B.out⟩
end Go.Proofs.Ytebhbcjioolpeab
namespace Go.Proofs.Ytebhbcjioolpeab.fnFixesClash
open Go.ChangeShapes Go.WideShapes Go.ChangeAt Go.RowKit
set_option linter.unusedVariables false

theorem own : ownKnob Try.prog.godebug = none := by kernel_rfl
theorem laidOut : laidOutB Try.prog = true := fact_laid
set_option maxRecDepth 100000 in
theorem lifted (os : Os) (started : os.Started) (H : Type) (enc : TypeId × Value → H) :
    ReturnsInHanded {} Try.checked os 12 .any (Rows.fnFixesClashSpec.pre6 enc Try.prog Try.f12 Rows.fnFixesClashRow.domain false) (Rows.fnFixesClashSpec.post enc Try.prog Try.f12 false true false false) := by
  refine returnsInHanded_of_change (C := Try.checked) own started (by kernel_rfl) Try.func12
    (ChangeSpec.witness6 (enc := enc) (C := Try.checked) false ⟨#[], #[.slice none 0 0], []⟩ 8 (by kernel_rfl) (by kernel_rfl) (by kernel_rfl) (by kernel_rfl)) ?_
  intro W base args ds gs before hval0 hW hcnd _
  have hval : ∀ (j : Nat) t v, Try.f12.params[j]? = some t → args[j]? = some v → Value.okWide Try.prog W .any base t v := hval0
  have hW' := hW
  obtain ⟨p, q, hA0, hV, rfl, hfz, hnd⟩ := hW
  have hA : DataW.TrodAll enc Try.prog W 0 (fun _ => true) true Try.f12.params.toList args.toList ds p := hA0
  rw [Try.params12] at hA hval
  obtain ⟨v0, vs0, d0, ds0, p0, q0, hargs, rfl, rfl, h0, r0⟩ := trodAll_cons hA
  obtain ⟨rfl, rfl, rfl⟩ := trodAll_nil r0
  obtain rfl : args = #[v0] := by cases args; simp_all
  obtain ⟨rfl, rfl⟩ := trodVars_none hV
  obtain ⟨a0, len0, cap0, rfl⟩ := okWide_slice Try.underlying22 (hval 0 22 v0 rfl rfl)
  have k0 := h0
  have lt0 : ∀ x ∈ p0, x.block < W.heap.size := by obtain ⟨m, hm⟩ := k0; exact DataW.trod_lt m _ _ _ hm
  obtain ⟨z0, w0⟩ : ∃ zs, Bytes W (.slice a0 len0 cap0) zs := bytes_opened h0
  clear hA0 hval0
  refine (FnFixesClash_walk _ z0 W w0).mono fun e W' ⟨he, bel⟩ => ?_
  subst he
  exact ⟨_, rfl, _, _, _, [], _, [], hW', trodAll_mk1 (shut_bool Try.underlying4 _), (trodAll_cons_mk (Below.trod laidOut (by kernel_rfl) (of_decide_eq_true (by kernel_rfl)) k0 bel lt0) trodAll_mk0), rfl, bel.frame _, fun h => by cases h⟩
theorem fact_inPlace : (Rows.fnFixesClashRow.inPlace == Try.prog.inPlace 12) = true := by kernel_rfl
theorem fact_unfollowed : (Rows.fnFixesClashRow.unfollowed == Try.prog.unfollowed 12) = true := by kernel_rfl
theorem fact_recurses : (Rows.fnFixesClashRow.recurses == Try.prog.recurses 12) = true := by kernel_rfl
theorem fact_named : (Rows.fnFixesClashRow.named == Try.prog.varsNamed 12) = true := by kernel_rfl
theorem fact_plain : (Rows.fnFixesClashRow.plainKeys == Try.prog.plainKeys) = true := by kernel_rfl
theorem joined : joinedFacts Try.pinned.checked.prog 12 Try.f12 Rows.fnFixesClashSpec Rows.fnFixesClashRow = true :=
  joined_of (f := 12) (fn := Try.f12) (s := Rows.fnFixesClashSpec) (c := Rows.fnFixesClashRow) (by kernel_rfl) (by kernel_rfl) (by kernel_rfl) (by kernel_rfl) (by kernel_rfl) fact_inPlace fact_unfollowed fact_recurses fact_named (by kernel_rfl) (by kernel_rfl) (by kernel_rfl) (by kernel_rfl) (by kernel_rfl) (by kernel_rfl) (by kernel_rfl) (by kernel_rfl) (by kernel_rfl) fact_plain (by kernel_rfl) rfl rfl (by kernel_rfl) (by kernel_rfl) (by kernel_rfl) (by kernel_rfl)

/-- the statement -/
theorem proved : Rows.FnFixesClashSaid :=
  OpenClaim.holds_of_wide 12 Try.f12 rfl rfl rfl rfl rfl rfl rfl ⟨rfl, rfl, rfl, rfl, rfl⟩ rfl rfl rfl rfl rfl (by kernel_rfl) Try.func12 joined
    (of_decide_eq_true (by kernel_rfl)) (by unfold Func.isWrapper; first | (rw [if_pos (by decide +kernel)]; kernel_rfl) | (rw [if_neg (by decide +kernel)]; exact ⟨rfl, rfl⟩))
    (fun os started H enc _ => lifted os started H enc)
#print axioms proved
end Go.Proofs.Ytebhbcjioolpeab.fnFixesClash
