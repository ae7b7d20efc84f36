/-
  Contracts of the reference's l8Map, l8Set, l8All, SettingValid, SettingWeight. Conditions: as each says.
-/
import Derived.Test.YtbpcjdhbbighgaaBoardOf
import Derived.Test.YtbpcjdhbbighgaaKeep
import Derived.Test.YtbpcjdhbbighgaaPlaces
import Derived.StillTailTactics
namespace Go.Proofs.Ytbpcjdhbbighgaa
open Go.RowKit Go.Deep Go.Sort
set_option linter.unusedVariables false

theorem run_app_none {P : Program} {w : World} (base : Nat) (t ty e : TypeId) (i : TypeInfo) (size : Nat) (ht : P.underlying t = some (.slice e)) (hi : P.info? e = some i)
    (v : Value) (n : Nat) (xs : List Value) (hown : w.ownsRow base e size v n xs) (a : Option Addr) (c : Nat) :
    (Builtin.append_ #[t, t] ty #[v, .slice a 0 c]).run P w = .ok v w := by
  rcases hown.2 with ⟨rfl, rfl⟩ | ⟨g, cap, cur, rfl, _, _, hnc, _⟩
  · cases a <;> simp [Builtin.append_, run_underlying ht, sizeOf, typeInfo, hi, Builtin.lenOf, Builtin.firstCells, loadCells, loadCellsFrom]
  · cases a <;> simp [Builtin.append_, run_underlying ht, sizeOf, typeInfo, hi, Builtin.lenOf, Builtin.firstCells, hnc, storeCells, loadCells, loadCellsFrom]

theorem wp_app_ints {o : Oper} {a : Act} {K : Act → World → Prop} {Q : Exit → Act → World → Prop} (wr : World) (s x : Operand)
    (ho : o.op = .call { callee := .builtin .append, args := #[s, x], argTypes := #[27, 27] }) (base : Nat) (v : Value) (l : List Int) (vx : Value) (l2 : List Int)
    (hown : wr.ownsRow base 3 1 v l.length (l.map (Value.int .i64))) (hq : Ints wr vx l2) (hs : a.eval s = v) (hx : a.eval x = vx) (hlen : l.length + l2.length ≤ 1099511627776) (hb : base ≤ wr.heap.size)
    (h : ∀ v' w', w'.ownsRow base 3 1 v' (l ++ l2).length ((l ++ l2).map (Value.int .i64)) → wr.grownBy w' v.ownBlock → K (a.put o.dst v') w') : o.wp Try.prog a wr K Q := by
  obtain ⟨i0, hi, hz0, hz1, hz2⟩ := info_parts info_int
  obtain ⟨ax, cx, rfl, hq1, hq2, hq3⟩ := hq
  by_cases h2 : 0 < l2.length
  · obtain ⟨b, off, rfl, hbl, hcell⟩ := hq3 h2
    refine wp_append_own wr s x 27 ho base 3 i0 _ 1 8 Try.underlying27 hi hz0 hz1 hz2 rfl (by decide) v l.length _ hs hown ⟨b, off, none⟩ l2.length cx (l2.map (Value.int .i64)) hx (by simp)
      (fun j u hu => ?_) (fun u hu => ?_) (by unfold maxLen; omega) (by omega) hb ?_
    · rw [List.getElem?_map] at hu
      cases hj : l2[j]? with
      | none => rw [hj] at hu; cases hu
      | some z =>
        rw [hj] at hu
        have hlt := (List.getElem?_eq_some_iff.1 hj).1
        have := hcell j hlt
        rw [hj] at this
        rw [show (⟨b, off, none⟩ : Addr).add j = ⟨b, off + j, none⟩ by unfold Addr.add; split <;> simp_all]
        rw [this, ← hu]; rfl
    · obtain ⟨z, _, rfl⟩ := List.mem_map.1 hu; rfl
    · intro v' w' r1 r2 _
      exact h v' w' (by rw [List.length_append, List.map_append]; exact r1) r2
  · obtain rfl : l2 = [] := List.length_eq_zero_iff.1 (by omega)
    have hrun := run_app_none (P := Try.prog) (w := wr) base 27 o.type 3 i0 1 Try.underlying27 hi v l.length _ hown ax cx
    have hx' : a.eval x = .slice ax 0 cx := hx
    have hk := h v wr (by rw [List.append_nil]; exact hown) ⟨rfl, rfl, rfl, Nat.le_refl _, fun _ _ _ => rfl⟩
    unfold Oper.wp
    simp [execOp, ho, resolve, invoke, builtin, hs, hx', hrun, Result.andThen]
    exact hk
theorem app_ints {ops : Array Oper} {rest : List Oper} {o : Oper} {a : Act} {Q : Exit → Act → World → Prop} (wr : World) (hgd : o.guard = none) (s x : Operand)
    (ho : o.op = .call { callee := .builtin .append, args := #[s, x], argTypes := #[27, 27] }) (base : Nat) (v : Value) (l : List Int) (vx : Value) (l2 : List Int)
    (hown : wr.ownsRow base 3 1 v l.length (l.map (Value.int .i64))) (hq : Ints wr vx l2) (hs : a.eval s = v) (hx : a.eval x = vx) (hlen : l.length + l2.length ≤ 1099511627776) (hb : base ≤ wr.heap.size)
    (h : ∀ v' w', w'.ownsRow base 3 1 v' (l ++ l2).length ((l ++ l2).map (Value.int .i64)) → wr.grownBy w' v.ownBlock → wpList Try.prog ops Q rest (a.put o.dst v') w') : wpList Try.prog ops Q (o :: rest) a wr :=
  wpList_plain hgd fun _ hK => wp_app_ints wr s x ho base v l vx l2 hown hq hs hx hlen hb fun v' w' h1 h2 => hK _ _ (h v' w' h1 h2)
theorem step_app_ints {ops : Array Oper} {o : Oper} {a : Act} {K : Act → World → Prop} {Q : Exit → Act → World → Prop} {E : Prop} (wr : World) (hgd : o.guard = none) (s x : Operand)
    (ho : o.op = .call { callee := .builtin .append, args := #[s, x], argTypes := #[27, 27] }) (base : Nat) (v : Value) (l : List Int) (vx : Value) (l2 : List Int)
    (hown : wr.ownsRow base 3 1 v l.length (l.map (Value.int .i64))) (hq : Ints wr vx l2) (hs : a.eval s = v) (hx : a.eval x = vx) (hlen : l.length + l2.length ≤ 1099511627776) (hb : base ≤ wr.heap.size)
    (h : ∀ v' w', w'.ownsRow base 3 1 v' (l ++ l2).length ((l ++ l2).map (Value.int .i64)) → wr.grownBy w' v.ownBlock → K (a.put o.dst v') w') :
    if Region.wanted o (yielded ops a.tmps) = true then Oper.wp Try.prog o a wr K Q else E := by
  have hw : Region.wanted o (yielded ops a.tmps) = true := by simp [Region.wanted, hgd]
  rw [if_pos hw]
  exact wp_app_ints wr s x ho base v l vx l2 hown hq hs hx hlen hb h


/-- a map as a list -/
def mapL (M : Plan) : List Int := (List.range 100).map M
theorem mapL_length (M : Plan) : (mapL M).length = 100 := by simp [mapL]
theorem mapL_get (M : Plan) (i : Nat) (h : i < 100) : (mapL M)[i]?.getD 0 = M i := by simp [mapL, h]
/-- v is a slice made by the call, in a block of [lo, hi), that holds the map M -/
def OwnM (lo hi : Nat) (w : World) (v : Value) (M : Plan) : Prop :=
  ∃ b off cap t n f, v = .slice (some ⟨b, off, none⟩) 100 cap ∧ 100 ≤ cap ∧ cap ≤ 9223372036854775807 ∧ lo ≤ b ∧ b < hi ∧ w.rowIs b t n f ∧ off + 100 ≤ n ∧ ∀ j, j < 100 → f (off + j) = .int .i64 (M j)
theorem OwnM.own {lo hi : Nat} {w : World} {v : Value} {M : Plan} (h : OwnM lo hi w v M) : Own lo hi w v (mapL M) := by
  obtain ⟨b, off, cap, t, n, f, rfl, h1, h2, h3, h4, h5, h6, h7⟩ := h
  exact .inr ⟨b, off, cap, t, n, f, by rw [mapL_length], by rw [mapL_length]; exact h1, h2, h3, h4, h5, by rw [mapL_length]; exact h6, fun j hj => by rw [mapL_length] at hj; rw [h7 j hj, mapL_get M j hj]⟩
theorem Own.ownM {lo hi : Nat} {w : World} {v : Value} {M : Plan} (h : Own lo hi w v (mapL M)) : OwnM lo hi w v M := by
  rcases h with ⟨h0, _⟩ | ⟨b, off, cap, t, n, f, rfl, h1, h2, h3, h4, h5, h6, h7⟩
  · have := congrArg List.length h0; rw [mapL_length] at this; simp at this
  · rw [mapL_length] at h1 h6 h7
    exact ⟨b, off, cap, t, n, f, by rw [mapL_length], h1, h2, h3, h4, h5, h6, fun j hj => by rw [h7 j hj, mapL_get M j hj]⟩
/-- v reads as the map M, in blocks below B -/
def MapB (B : Nat) (w : World) (v : Value) (M : Plan) : Prop :=
  ∃ b off cap, v = .slice (some ⟨b, off, none⟩) 100 cap ∧ 100 ≤ cap ∧ cap ≤ 9223372036854775807 ∧ b < B ∧ ∀ j, j < 100 → w.cell? ⟨b, off + j, none⟩ = some (.int .i64 (M j))
theorem OwnM.mapB {lo hi : Nat} {w : World} {v : Value} {M : Plan} (h : OwnM lo hi w v M) : MapB hi w v M := by
  obtain ⟨b, off, cap, t, n, f, rfl, h1, h2, h3, h4, h5, h6, h7⟩ := h
  exact ⟨b, off, cap, rfl, h1, h2, h4, fun j hj => by rw [h5.cell (by omega), h7 j hj]⟩
theorem MapB.below {B B' : Nat} {w w' : World} {v : Value} {M : Plan} (h : MapB B w v M) (hb : Below B' w w') (hB : B ≤ B') : MapB B w' v M := by
  obtain ⟨b, off, cap, rfl, h1, h2, h3, h4⟩ := h
  exact ⟨b, off, cap, rfl, h1, h2, h3, fun j hj => (hb.cell (p := ⟨b, off + j, none⟩) (by show b < B'; omega)).trans (h4 j hj)⟩
theorem MapB.mono {B B' : Nat} {w : World} {v : Value} {M : Plan} (h : MapB B w v M) (hB : B ≤ B') : MapB B' w v M := by
  obtain ⟨b, off, cap, rfl, h1, h2, h3, h4⟩ := h
  exact ⟨b, off, cap, rfl, h1, h2, by omega, h4⟩
theorem MapB.ints {B : Nat} {w : World} {v : Value} {M : Plan} (h : MapB B w v M) (hB : B ≤ w.heap.size) : Ints w v (mapL M) := by
  obtain ⟨b, off, cap, rfl, h1, h2, h3, h4⟩ := h
  exact ⟨_, cap, by rw [mapL_length], by rw [mapL_length]; exact h1, h2, fun _ => ⟨b, off, rfl, by omega, fun j hj => by rw [mapL_length] at hj; rw [h4 j hj, mapL_get M j hj]⟩⟩

set_option maxHeartbeats 1000000 in
set_option maxRecDepth 100000 in
theorem l8Map_any (v : Value) (l : List Quad) (w : World) (h : Quads w v l) (hg : GoodUpTo l l.length) :
    Calls Try.prog 58 #[v] w fun e w' => ∃ v', e = .returned v' ∧ OwnM w.heap.size w'.heap.size w' v' (mPts l) ∧ Below w.heap.size w w' := by
  have hmk := run_make_row' (P := Try.prog) 27 3 (.int .i64 0) 8 Try.underlying27 info_int rfl .i64 .i64 100 (by omega) (by omega)
  rw [show ((100 : Nat) : Int) = 100 from rfl] at hmk
  obtain ⟨a, cap, rfl, h1, h2, h3⟩ := h
  have H3 := Lib.hid h3
  have HG := Lib.hid hg
  clear h3 hg
  go_enter Try.func58, Try.ntmps58
  go_wp2
  go_loopw [4] (fun i wr => ∃ k : Nat, k ≤ l.length ∧ i = .int .i64 k ∧ (wr.rowIs w.heap.size 3 100 fun j => .int .i64 (mPts (l.take k) j)) ∧ Below w.heap.size w wr) (fun i _ => l.length - (intOf i).toNat)
  case atStart => exact ⟨0, Nat.zero_le _, rfl, (World.rowIs_made w (.int .i64 0) 100 3).congr (fun i _ => by simp [mPts]), (Below.refl _ _).alloc (Nat.le_refl _) _⟩
  case round =>
    clear hmk
    obtain ⟨k, hk, rfl, hrow, hbel⟩ := hrel
    by_cases hlt : k < l.length
    · obtain ⟨b, off, rfl, hb, hcell⟩ := H3.out (by omega)
      obtain ⟨c0, c1, _, _⟩ := (hcell k hlt).below hbel hb
      obtain ⟨o1, o2, o3, o4, _⟩ := (HG.out k hlt).1
      have htk : l.take (k + 1) = l.take k ++ [l[k]] := by rw [List.take_add_one, List.getElem?_eq_getElem hlt]; rfl
      rw [getQ_eq hlt] at c0 c1 o1 o2 o3 o4
      obtain ⟨q, hq⟩ : ∃ q, q = l[k] := ⟨_, rfl⟩
      rw [← hq] at c0 c1 o1 o2 o3 o4 htk
      have HT := Lib.hid htk
      obtain ⟨p, hp⟩ : ∃ p : Nat, 10 * q.2.1 + q.1 = (p : Int) := ⟨(10 * q.2.1 + q.1).toNat, by omega⟩
      have hp99 : p < 100 := by omega
      have e1 := IntWalk.i64_in (10 * q.2.1) (by omega)
      have e2 := IntWalk.i64_in (10 * q.2.1 + q.1) (by omega)
      rw [hp] at e2
      have PT : Hid (pt q = p) := by show _ = _; unfold pt; omega
      have d := hrow.cell hp99
      have fr := hrow.frozen p
      have x1 : (p : Int) < 100 := by omega
      have x2 : (0 : Int) ≤ (p : Int) := by omega
      have x3 : (k : Int) < (l.length : Int) := by omega
      have x4 : (0 : Int) ≤ (k : Int) := by omega
      have HR := Lib.hid hrow
      have HB := Lib.hid hbel
      have s0 : w.heap.size < wr.heap.size := hrow.lt
      clear hrow hbel hcell htk hq
      go_wp2
      go_still_tail 14, (by kernel_rfl)
      change wpList _ _ _ _ _ wr.drew
      go_wp2
      go_roundw
      case rel =>
        refine ⟨k + 1, by omega, by go_num, (HR.out.drew.set p _).congr (fun j hj => ?_), HB.out.drew.setCell (Nat.le_refl _) _⟩
        rw [HT.out]
        by_cases e : j = p
        · simp [mPts, PT.out, e]
        · simp [mPts, PT.out, e]
      case measure => simp [intOf]; omega
    · obtain rfl : k = l.length := by omega
      rw [List.take_length] at hrow
      have HR := Lib.hid hrow
      have HB := Lib.hid hbel
      clear hrow hbel
      go_wp2
      go_ret
      exact ⟨_, rfl, ⟨w.heap.size, 0, 100, 3, 100, _, rfl, Nat.le_refl _, by omega, Nat.le_refl _, HR.out.lt, HR.out, by omega, fun j hj => by rw [Nat.zero_add]⟩, HB.out⟩

set_option maxHeartbeats 2000000 in
set_option maxRecDepth 100000 in
theorem l8Set_any (v : Value) (M : Plan) (q : Quad) (side m : Int) (w : World) (h : MapB w.heap.size w v M) (hq : LabOk q) (h0 : 0 ≤ side) (h3 : side ≤ 3) (hm : 1 ≤ m) :
    Calls Try.prog 59 #[v, qv q, .int .i64 side, .int .i64 m] w fun e w' => ∃ a n c, e = .returned (.tuple #[.slice a n c, .bool (decide (CanSet M q side))]) ∧ (CanSet M q side → OwnM w.heap.size w'.heap.size w' (.slice a n c) (setOn M q side m)) ∧ Below w.heap.size w w' := by
  have HM := Lib.hid h
  have HQ := Lib.hid hq
  obtain ⟨b0, off0, cap0, rfl, _, _, _, _⟩ := h
  clear hq
  go_enter Try.func59, Try.ntmps59
  go_wp2_with fail
  refine (l8Places_any q side _ HQ.out h0 h3).mono ?_
  rintro e w1 ⟨v1, rfl, hO, hb1⟩
  have s1 := hb1.size
  simp at s1
  have B1 := Lib.hid ((al (Below.refl w.heap.size w) _).trans (hb1.mono (by simp)))
  obtain ⟨cs, hcs⟩ : ∃ cs, cs = placesOf q side := ⟨_, rfl⟩
  rw [← hcs] at hO
  have HND : Hid cs.Nodup := by show cs.Nodup; rw [hcs]; exact places_nodup q side
  have HIN : Hid (∀ c ∈ cs, 0 ≤ c ∧ c ≤ 99) := by show ∀ c ∈ cs, _; rw [hcs]; exact fun c hc => ⟨(places_in hc).1, (places_in hc).2.1⟩
  have CS := Lib.hid hcs
  have hn5 : cs.length ≤ 5 := by
    rw [hcs]
    by_cases hf : Fits q side
    · rw [places_yes hf, rowOf_length]; have := HQ.out; unfold LabOk at this; omega
    · rw [places_no hf]; simp
  have HF : Hid (decide (0 < cs.length) = decide (Fits q side)) := by
    show _ = _
    refine decide_eq_decide.2 ?_
    rw [hcs]
    by_cases hf : Fits q side
    · rw [places_yes hf, rowOf_length]; have := HQ.out; unfold LabOk at this; exact ⟨fun _ => hf, fun _ => by omega⟩
    · rw [places_no hf]; simp [hf]
  have O1 := Lib.hid (hO.mono (lo' := w.heap.size + 1) (hi' := w1.heap.size) (by simp) (Nat.le_refl _))
  obtain ⟨a1, cap1, rfl, o1, o2, o3⟩ := hO.ints
  clear hO o3 hcs hb1
  have HI := Lib.hid (((HM.out.below B1.out (Nat.le_refl _)).mono (show w.heap.size ≤ w1.heap.size by omega)).ints (Nat.le_refl _))
  have HB0 := Lib.hid ((Below.refl w1.heap.size w1).alloc (Nat.le_refl _) (.cells #[] 3))
  have HO0 := Lib.hid (World.ownsRow_made (base := w1.heap.size) (e := 3) (size := 1) w1 #[] 0 (Nat.le_refl _) (by decide) rfl)
  have HI2 : Hid (Ints (w1.alloc (.cells #[] 3)) (.slice (some ⟨b0, off0, none⟩) 100 cap0) (mapL M)) := HI.out.below HB0.out (Nat.le_refl _)
  go_wp2_with (at_builtin; refine app_ints (w1.alloc (.cells #[] 3)) rfl _ _ rfl w1.heap.size _ [] _ (mapL M) HO0.out HI2.out rfl rfl (by rw [mapL_length]; simp) (by simp) ?_; intro v2 w2 hown2 hg2)
  have hb2 := HB0.out.grown hg2 (by simp) (fun k hk => (HO0.out.lt k hk).1)
  have s2 := hb2.size
  rw [List.nil_append] at hown2
  have HO2 := (own_of_ownsRow hown2 (Nat.le_refl _)).ownM
  have B2 := Lib.hid (B1.out.trans (hb2.mono (by omega)))
  have O2 := Lib.hid (O1.out.below hb2 (Nat.le_refl _))
  obtain ⟨ob, oo, oc, t0, n0, f0, rfl, p1, p2, p3, p4, p5, p6, p7⟩ := HO2
  have R2 := Lib.hid p5
  have P7 := Lib.hid p7
  clear hb2 hown2 hg2 O1 B1 HI HB0 HO0 HI2 p5 p7
  go_wp2_with fail
  go_loopw [12] (fun i wr => ∃ k : Nat, k ≤ cs.length ∧ i = .int .i64 k ∧ FreeOn (cs.take k) M ∧ (∃ f, wr.rowIs ob t0 n0 f ∧ ∀ j, j < 100 → f (oo + j) = .int .i64 (putOn (cs.take k) m M j)) ∧ Own (w.heap.size + 1) w1.heap.size wr (.slice a1 cs.length cap1) cs ∧ Below w.heap.size w wr) (fun i _ => cs.length - (intOf i).toNat)
  case atStart => exact ⟨0, Nat.zero_le _, rfl, by simp [FreeOn], ⟨f0, R2.out, fun j hj => by rw [P7.out j hj, List.take_zero, putOn_nil]⟩, O2.out, B2.out⟩
  case round =>
    clear R2 P7 O2 B2
    obtain ⟨k, hk, rfl, hfree, ⟨f, hrow, hf⟩, hown, hbel⟩ := hrel
    have HFR := Lib.hid hfree
    have HR := Lib.hid hrow
    have HFF := Lib.hid hf
    have HO := Lib.hid hown
    have HB := Lib.hid hbel
    by_cases hlt : k < cs.length
    · obtain ⟨_, _, he, _, _, h3'⟩ := hown.ints
      simp only [Value.slice.injEq] at he
      obtain ⟨rfl, _, rfl⟩ := he
      obtain ⟨b, off, rfl, hb, hcell⟩ := h3' (by omega)
      have c0 := hcell k hlt
      obtain ⟨p, hp⟩ : ∃ p : Nat, cs[k]?.getD 0 = (p : Int) := ⟨(cs[k]?.getD 0).toNat, by have := HIN.out (cs[k]?.getD 0) (by rw [List.getElem?_eq_getElem hlt]; exact List.getElem_mem hlt); omega⟩
      have hp99 : p < 100 := by have := HIN.out (cs[k]?.getD 0) (by rw [List.getElem?_eq_getElem hlt]; exact List.getElem_mem hlt); omega
      have hnew : ¬ (p : Int) ∈ cs.take k := by rw [← hp]; exact take_fresh HND.out hlt
      have d := hrow.cell (show oo + p < n0 by omega)
      have fr := hrow.frozen (oo + p)
      rw [hf p hp99, putOn_out hnew] at d
      rw [hp] at c0
      have HP := Lib.hid hp
      have HN := Lib.hid hnew
      have HT : Hid (cs.take (k + 1) = cs.take k ++ [(p : Int)]) := by show _ = _; rw [take_one hlt, hp]
      obtain ⟨z, hz⟩ : ∃ z, z = M p := ⟨_, rfl⟩
      rw [← hz] at d
      have HZ := Lib.hid hz
      have x0 : (0 : Int) ≤ (p : Int) := by omega
      have x1 : (p : Int) < 100 := by omega
      clear hfree hrow hf hown hbel hcell h3' hp hnew hz
      by_cases h00 : z = 0
      · subst h00
        go_wp2
        go_roundw
        case rel =>
          refine ⟨k + 1, by omega, by go_num, ?_, ⟨_, HR.out.set (oo + p) _, fun j hj => ?_⟩, ?_, HB.out.setCell (by show w.heap.size ≤ ob; omega) _⟩
          · rw [HT.out]
            intro c hc
            rcases List.mem_append.1 hc with h | h
            · exact HFR.out c h
            · simp at h; subst h; simpa using HZ.out.symm
          · rw [HT.out, putOn_snoc]
            by_cases e : j = p
            · subst e; simp
            · simp only [if_neg e]; rw [if_neg (by omega), HFF.out j hj]
          · exact HO.out.touch ((Touch.refl ob (ob + 1) _).setCell (Nat.le_refl _) (by simp) _) (.inl (by omega))
        case measure => simp [intOf]; omega
      · have t1 : (z != (0 : Int)) = true := by simpa using h00
        have FC : Hid (¬ CanSet M q side) := fun h => h00 (by
          have := h.2 (p : Int) (by rw [← CS.out, ← HP.out, List.getElem?_eq_getElem hlt]; exact List.getElem_mem hlt)
          rw [HZ.out]; simpa using this)
        clear h00
        go_wp2
        go_ret2
        exact ⟨_, _, _, tup_bool (decide_eq_false FC.out).symm, fun h => absurd h FC.out, HB.out.alloc HB.out.size _⟩
    · obtain rfl : k = cs.length := by omega
      rw [List.take_length] at HFR HFF
      have FC : Hid (decide (0 < cs.length) = decide (CanSet M q side)) := by
        show _ = _
        rw [HF.out]
        exact decide_eq_decide.2 ⟨fun h => ⟨h, by rw [← CS.out]; exact HFR.out⟩, fun h => h.1⟩
      clear hfree hrow hf hown hbel
      go_wp2
      go_ret2
      exact ⟨_, _, _, tup_bool FC.out, fun _ => ⟨ob, oo, oc, t0, n0, f, rfl, p1, p2, by omega, HR.out.lt, HR.out, p6, fun j hj => by rw [HFF.out j hj, CS.out]; rfl⟩, HB.out⟩

set_option maxHeartbeats 2000000 in
set_option maxRecDepth 100000 in
theorem l8All_any (v u : Value) (l : List Quad) (s : List Int) (w : World) (h : Quads w v l) (hu : Ints w u s) (hv : ValidL l) (hl : s.length = l.length) (hs : ∀ i, i < s.length → -1 ≤ s[i]?.getD 0 ∧ s[i]?.getD 0 ≤ 3) :
    Calls Try.prog 67 #[v, u] w fun e w' => ∃ a n c, e = .returned (.tuple #[.slice a n c, .bool (decide (OkUp l s l.length))]) ∧ (OkUp l s l.length → OwnM w.heap.size w'.heap.size w' (.slice a n c) (planUp l s l.length)) ∧ Below w.heap.size w w' := by
  obtain ⟨a, cap, rfl, h1, h2, h3⟩ := id h
  obtain ⟨a', cap', rfl, h1', h2', h3'⟩ := id hu
  have H := Lib.hid h.quadsB
  have HU := Lib.hid hu.intsB
  have HV := Lib.hid hv
  have HL := Lib.hid hl
  have HS := Lib.hid hs
  have hl6 := hv.1
  have hs6 : s.length ≤ 6 := by omega
  clear h hu h3 h3' hv hl hs
  go_enter Try.func67, Try.ntmps67
  go_wp2_with fail
  refine (l8Map_any _ l _ (H.out.quads (Nat.le_refl _)) HV.out.2).mono ?_
  rintro e w1 ⟨v1, rfl, hO, hb1⟩
  have B1 := Lib.hid hb1
  have O1 := Lib.hid hO
  obtain ⟨b1, o1, c1, t1, n1, f1, rfl, _⟩ := hO
  clear hb1
  go_wp2_with fail
  go_loopw [6, 7, 8, 9] (fun m i _ _ wr => ∃ k : Nat, k ≤ s.length ∧ i = .int .i64 k ∧ OkUp l s k ∧ (∃ a n c, m = .slice a n c) ∧ OwnM w.heap.size wr.heap.size wr m (planUp l s k) ∧ Below w.heap.size w wr) (fun _ i _ _ _ => s.length - (intOf i).toNat)
  case atStart => exact ⟨0, Nat.zero_le _, rfl, trivial, ⟨_, _, _, rfl⟩, O1.out, B1.out⟩
  case round =>
    clear O1 B1
    obtain ⟨k, hk, rfl, hok, ⟨ma, mn, mc, rfl⟩, hown, hbel⟩ := hrel
    have OK := Lib.hid hok
    have HO := Lib.hid hown
    have HB := Lib.hid hbel
    have hs := hbel.size
    by_cases hlt : k < s.length
    · obtain ⟨_, _, he, _, _, h3⟩ := HU.out
      simp only [Value.slice.injEq] at he
      obtain ⟨rfl, _, rfl⟩ := he
      obtain ⟨b2, off2, rfl, hb2, hcell2⟩ := h3 (by omega)
      have c9 := (hbel.cell (p := ⟨b2, off2 + k, none⟩) hb2).trans (hcell2 k hlt)
      have hlk : k < l.length := by rw [← HL.out]; exact hlt
      obtain ⟨_, _, he, _, _, h3⟩ := H.out
      simp only [Value.slice.injEq] at he
      obtain ⟨rfl, _, rfl⟩ := he
      obtain ⟨b, off, rfl, hb, hcell⟩ := h3 (by omega)
      obtain ⟨c0, c1, c2', c3'⟩ := (hcell k hlk).below hbel hb
      have hq := (HV.out.2 k hlk).1
      have hsk := HS.out k hlt
      obtain ⟨q, hq'⟩ : ∃ q, q = l[k]?.getD q0 := ⟨_, rfl⟩
      rw [← hq'] at c0 c1 c2' c3' hq
      obtain ⟨z, hz⟩ : ∃ z, z = s[k]?.getD 0 := ⟨_, rfl⟩
      rw [← hz] at c9 hsk
      have HQ := Lib.hid hq
      have HQE := Lib.hid hq'
      have HZ := Lib.hid hz
      have x1 : (k : Int) < (l.length : Int) := by omega
      have x2 : (k : Int) < (s.length : Int) := by omega
      have x3 : (0 : Int) ≤ (k : Int) := by omega
      clear hok hown hbel hcell hcell2 h3 hq hq' hz
      by_cases hz1 : z = -1
      · subst hz1
        have PE : Hid (planUp l s (k + 1) = planUp l s k) := by show _ = _; rw [planUp, if_pos HZ.out.symm]
        have OE : Hid (OkUp l s (k + 1)) := ⟨OK.out, .inl HZ.out.symm⟩
        go_wp2
        go_roundw
        case rel => exact ⟨k + 1, by omega, by go_num, OE.out, ⟨_, _, _, rfl⟩, by rw [PE.out]; exact HO.out, HB.out⟩
        case measure => simp [intOf]; omega
      · have t3 : (z == (-1 : Int)) = false := by simpa using hz1
        have HZ1 := Lib.hid hz1
        have hz0 : 0 ≤ z := by omega
        have hz3 := hsk.2
        have x4 : IntKind.i64.wrap ((k : Int) + 1) = (k : Int) + 1 := IntWalk.i64_in _ (by omega)
        have HM : Hid (MapB wr.heap.size wr (.slice ma mn mc) (planUp l s k)) := HO.out.mapB
        clear hz1 hsk
        go_wp2
        have dd : wr.drew.cell? ⟨b2, off2 + k, none⟩ = some (.int .i64 z) ∧ wr.drew.cell? ⟨b, off + k * 4, none⟩ = some (.int .i64 q.1) ∧ wr.drew.cell? ⟨b, off + k * 4 + 1, none⟩ = some (.int .i64 q.2.1) ∧ wr.drew.cell? ⟨b, off + k * 4 + 2, none⟩ = some (.int .i64 q.2.2.1) ∧ wr.drew.cell? ⟨b, off + k * 4 + 3, none⟩ = some (.int .i64 q.2.2.2) := ⟨c9, c0, c1, c2', c3'⟩
        have hbw : b < wr.heap.size := by omega
        have hbw2 : b2 < wr.heap.size := by omega
        go_region_held3 (fun w' => w'.cell? ⟨b2, off2 + k, none⟩ = some (.int .i64 z) ∧ w'.cell? ⟨b, off + k * 4, none⟩ = some (.int .i64 q.1) ∧ w'.cell? ⟨b, off + k * 4 + 1, none⟩ = some (.int .i64 q.2.1) ∧ w'.cell? ⟨b, off + k * 4 + 2, none⟩ = some (.int .i64 q.2.2.1) ∧ w'.cell? ⟨b, off + k * 4 + 3, none⟩ = some (.int .i64 q.2.2.2))
          (first | with_reducible exact dd | with_reducible exact r1 | fail)
          (first | (go_at_call 59; (refine (l8Set_any _ (planUp l s k) q z ((k : Int) + 1) wr.drew (HM.out.below ((Below.refl wr.heap.size wr).drew) (Nat.le_refl _)) HQ.out hz0 hz3 (by omega)).mono ?_); rintro e w2 ⟨na, nn, nc, rfl, hown2, hb2⟩; have HN := Lib.hid hown2; have HB5 := Lib.hid hb2; have r1 : w2.cell? ⟨b2, off2 + k, none⟩ = some (.int .i64 z) ∧ w2.cell? ⟨b, off + k * 4, none⟩ = some (.int .i64 q.1) ∧ w2.cell? ⟨b, off + k * 4 + 1, none⟩ = some (.int .i64 q.2.1) ∧ w2.cell? ⟨b, off + k * 4 + 2, none⟩ = some (.int .i64 q.2.2.1) ∧ w2.cell? ⟨b, off + k * 4 + 3, none⟩ = some (.int .i64 q.2.2.2) := ⟨(hb2.cell (p := ⟨b2, off2 + k, none⟩) hbw2).trans dd.1, (hb2.cell (p := ⟨b, off + k * 4, none⟩) hbw).trans dd.2.1, (hb2.cell (p := ⟨b, off + k * 4 + 1, none⟩) hbw).trans dd.2.2.1, (hb2.cell (p := ⟨b, off + k * 4 + 2, none⟩) hbw).trans dd.2.2.2.1, (hb2.cell (p := ⟨b, off + k * 4 + 3, none⟩) hbw).trans dd.2.2.2.2⟩; clear hown2 hb2) | fail)
        have HB2 := Lib.hid (HB.out.drew.trans (HB5.out.mono hs))
        clear dd r1
        by_cases hc : CanSet (planUp l s k) q z
        · rw [decide_eq_true hc]
          have OE : Hid (OkUp l s (k + 1)) := ⟨OK.out, .inr (by rw [← HQE.out, ← HZ.out]; exact hc)⟩
          have PE : Hid (planUp l s (k + 1) = setOn (planUp l s k) q z ((k : Int) + 1)) := by show _ = _; rw [planUp, if_neg (by rw [← HZ.out]; exact HZ1.out), ← HQE.out, ← HZ.out]
          have HC := Lib.hid hc
          clear hc
          go_wp2
          go_roundw
          case rel => exact ⟨k + 1, by omega, by go_num, OE.out, ⟨_, _, _, rfl⟩, by
            rw [PE.out]
            obtain ⟨b, off, cap, t, n, f, e, r1, r2, r3, r4⟩ := HN.out HC.out
            exact ⟨b, off, cap, t, n, f, e, r1, r2, Nat.le_trans hs r3, r4⟩, HB2.out⟩
          case measure => simp [intOf]; omega
        · rw [decide_eq_false hc]
          have FC : Hid (¬ OkUp l s l.length) := by
            intro h
            have h1 := okUp_less (k := k + 1) (s.length - (k + 1)) (by rw [show k + 1 + (s.length - (k + 1)) = l.length by rw [HL.out]; omega]; exact h)
            rcases h1.2 with h2 | h2
            · exact HZ1.out (by rw [HZ.out]; exact h2)
            · rw [← HQE.out, ← HZ.out] at h2; exact hc h2
          clear hc
          go_wp2
          go_ret2
          exact ⟨_, _, _, tup_bool (decide_eq_false FC.out).symm, fun h => absurd h FC.out, HB2.out.alloc HB2.out.size _⟩
    · obtain rfl : k = s.length := by omega
      have OKS : Hid (OkUp l s l.length) := by show OkUp _ _ _; rw [← HL.out]; exact OK.out
      clear hok hown hbel
      go_wp2
      go_ret2
      exact ⟨_, _, _, tup_bool (decide_eq_true OKS.out).symm, fun _ => by rw [← HL.out]; exact HO.out, HB.out⟩

set_option maxHeartbeats 2000000 in
set_option maxRecDepth 100000 in
theorem specSettingValid_any (v u : Value) (l : List Quad) (s : List Int) (w : World) (h : Quads w v l) (hu : Ints w u s) :
    Calls Try.prog 35 #[v, u] w fun e w' => e = .returned (.bool (decide (SetOk l s))) ∧ Below w.heap.size w w' := by
  obtain ⟨a, cap, rfl, h1, h2, h3⟩ := id h
  obtain ⟨a', cap', rfl, h1', h2', h3'⟩ := id hu
  have H := Lib.hid h.quadsB
  have HU := Lib.hid hu.intsB
  clear h hu h3 h3'
  by_cases hv : ValidL l
  · by_cases hl : s.length = l.length
    · have HV := Lib.hid hv
      have HL := Lib.hid hl
      have hl6 := hv.1
      have hs6 : s.length ≤ 6 := by omega
      have t1 : ((s.length : Int) != (l.length : Int)) = false := by rw [hl]; simp
      clear hv hl
      go_enter Try.func35, Try.ntmps35
      go_wp2_with fail
      refine (specLabelsValid_any _ l _ (H.out.quads (Nat.le_refl _))).mono ?_
      rintro e w1 ⟨rfl, hb1⟩
      have s1 := hb1.size
      have B1 := Lib.hid hb1
      clear hb1
      rw [decide_eq_true HV.out]
      go_wp2_with fail
      go_loop [5] (fun i => ∃ k : Nat, k ≤ s.length ∧ i = .int .i64 k ∧ ∀ j, j < k → -1 ≤ s[j]?.getD 0 ∧ s[j]?.getD 0 ≤ 3) (fun i => s.length - (intOf i).toNat)
      case atStart => exact ⟨0, Nat.zero_le _, rfl, fun j hj => by omega⟩
      case round =>
        obtain ⟨k, hk, rfl, hall⟩ := hrel
        have HA := Lib.hid hall
        clear hall
        by_cases hlt : k < s.length
        · obtain ⟨_, _, he, _, _, h3⟩ := HU.out
          simp only [Value.slice.injEq] at he
          obtain ⟨rfl, _, rfl⟩ := he
          obtain ⟨b2, off2, rfl, hb2, hcell2⟩ := h3 (by omega)
          have c9 := (B1.out.cell (p := ⟨b2, off2 + k, none⟩) hb2).trans (hcell2 k hlt)
          obtain ⟨z, hz⟩ : ∃ z, z = s[k]?.getD 0 := ⟨_, rfl⟩
          rw [← hz] at c9
          have HZ := Lib.hid hz
          clear hcell2 h3 hz
          by_cases hr : -1 ≤ z ∧ z ≤ 3
          · have HR := Lib.hid hr
            clear hr
            go_wp2_with (go_at_call 51; refine (l6In_yes _ _ _ _ HR.out.1 HR.out.2).mono ?_; rintro e w' ⟨rfl, rfl⟩)
            go_round
            case rel =>
              refine ⟨k + 1, by omega, by go_num, fun j hj => ?_⟩
              by_cases e : j = k
              · subst e; rw [← HZ.out]; exact HR.out
              · exact HA.out j (by omega)
            case measure => simp [intOf]; omega
          · have HR : Hid (z < -1 ∨ 3 < z) := by show _ ∨ _; omega
            have FC : Hid (¬ SetOk l s) := by
              intro h
              have := ((okUp_iff l s _).1 h.2.2 k (by rw [← HL.out]; exact hlt)).side
              rw [← HZ.out] at this
              omega
            clear hr
            go_wp2_with (go_at_call 51; refine (l6In_no _ _ _ _ HR.out).mono ?_; rintro e w' ⟨rfl, rfl⟩)
            go_ret
            exact ⟨ret_bool (decide_eq_false FC.out).symm, B1.out⟩
        · obtain rfl : k = s.length := by omega
          go_wp2_with fail
          refine (l8All_any _ _ l s _ ((H.out.below B1.out (Nat.le_refl _)).quads s1) ((HU.out.below B1.out (Nat.le_refl _)).ints s1) HV.out HL.out HA.out).mono ?_
          rintro e w2 ⟨va, vn, vc, rfl, hO2, hb2⟩
          have B2 := Lib.hid (B1.out.trans (hb2.mono s1))
          have DE : Hid (decide (OkUp l s l.length) = decide (SetOk l s)) := decide_eq_decide.2 ⟨fun h => ⟨HV.out, HL.out, h⟩, fun h => h.2.2⟩
          clear hO2 hb2
          go_wp2_with fail
          go_ret
          exact ⟨ret_bool DE.out, B2.out⟩
    · have HV := Lib.hid hv
      have FC : Hid (¬ SetOk l s) := fun h => hl h.2.1
      have t1 : ((s.length : Int) != (l.length : Int)) = true := by simp only [bne_iff_ne, ne_eq]; omega
      clear hv hl
      go_enter Try.func35, Try.ntmps35
      go_wp2_with fail
      refine (specLabelsValid_any _ l _ (H.out.quads (Nat.le_refl _))).mono ?_
      rintro e w1 ⟨rfl, hb1⟩
      have B1 := Lib.hid hb1
      clear hb1
      rw [decide_eq_true HV.out]
      go_wp2_with fail
      go_ret
      exact ⟨ret_bool (decide_eq_false FC.out).symm, B1.out⟩
  · have HV := Lib.hid hv
    have FC : Hid (¬ SetOk l s) := fun h => hv h.1
    clear hv
    go_enter Try.func35, Try.ntmps35
    go_wp2_with fail
    refine (specLabelsValid_any _ l _ (H.out.quads (Nat.le_refl _))).mono ?_
    rintro e w1 ⟨rfl, hb1⟩
    have B1 := Lib.hid hb1
    clear hb1
    rw [decide_eq_false HV.out]
    go_wp2_with fail
    go_ret
    exact ⟨ret_bool (decide_eq_false FC.out).symm, B1.out⟩

set_option maxHeartbeats 2000000 in
set_option maxRecDepth 100000 in
theorem specSettingWeight_any (v u : Value) (l : List Quad) (s : List Int) (w : World) (h : Quads w v l) (hu : Ints w u s) :
    Calls Try.prog 38 #[v, u] w fun e w' => e = .returned (.int .i64 (weightAll l s)) ∧ Below w.heap.size w w' := by
  obtain ⟨a, cap, rfl, h1, h2, h3⟩ := id h
  obtain ⟨a', cap', rfl, h1', h2', h3'⟩ := id hu
  have H := Lib.hid h.quadsB
  have HU := Lib.hid hu.intsB
  clear h hu h3 h3'
  by_cases hs : SetOk l s
  · have HS := Lib.hid hs
    have HW : Hid (weightAll l s = sumW l s l.length) := if_pos hs
    have hl6 := hs.1.1
    have hsl := hs.2.1
    have hs6 : s.length ≤ 6 := by omega
    have HL := Lib.hid hsl
    clear hs hsl
    go_enter Try.func38, Try.ntmps38
    go_wp2_with fail
    refine (specSettingValid_any _ _ l s _ (H.out.quads (Nat.le_refl _)) (HU.out.ints (Nat.le_refl _))).mono ?_
    rintro e w1 ⟨rfl, hb⟩
    have hs1 := hb.size
    have HB := Lib.hid hb
    clear hb
    rw [decide_eq_true HS.out]
    go_wp2_with fail
    go_loop [5, 6] (fun x i => ∃ k : Nat, k ≤ s.length ∧ i = .int .i64 k ∧ x = .int .i64 (sumW l s k)) (fun _ i => s.length - (intOf i).toNat)
    case atStart => exact ⟨0, Nat.zero_le _, rfl, rfl⟩
    case round =>
      obtain ⟨k, hk, rfl, rfl⟩ := hrel
      obtain ⟨b1, b2, _, _⟩ := sumW_bound HS.out.1 s k (by rw [← HL.out]; exact hk)
      by_cases hlt : k < s.length
      · obtain ⟨_, _, he, _, _, h3⟩ := HU.out
        simp only [Value.slice.injEq] at he
        obtain ⟨rfl, _, rfl⟩ := he
        obtain ⟨b2', off2, rfl, hb2, hcell2⟩ := h3 (by omega)
        have c9 := (HB.out.cell (p := ⟨b2', off2 + k, none⟩) hb2).trans (hcell2 k hlt)
        have hlk : k < l.length := by rw [← HL.out]; exact hlt
        obtain ⟨_, _, he, _, _, h3⟩ := H.out
        simp only [Value.slice.injEq] at he
        obtain ⟨rfl, _, rfl⟩ := he
        obtain ⟨b, off, rfl, hb, hcell⟩ := h3 (by omega)
        obtain ⟨_, _, _, q3⟩ := (hcell k hlk).below HB.out hb
        have hw := (HS.out.1.2 k hlk).1.2.2.2.2.2.2
        have hside := ((okUp_iff l s _).1 HS.out.2.2 k hlk).side
        have SW : Hid (sumW l s (k + 1) = sumW l s k + if s[k]?.getD 0 = -1 then 0 else (l[k]?.getD q0).2.2.2) := rfl
        obtain ⟨z, hz⟩ : ∃ z, z = s[k]?.getD 0 := ⟨_, rfl⟩
        obtain ⟨wt, hwt⟩ : ∃ z, z = (l[k]?.getD q0).2.2.2 := ⟨_, rfl⟩
        obtain ⟨x, hx⟩ : ∃ z, z = sumW l s k := ⟨_, rfl⟩
        rw [← hz] at c9 SW hside
        rw [← hwt] at q3 hw SW
        rw [← hx] at b1 b2 SW ⊢
        have x1 : (k : Int) < (l.length : Int) := by omega
        have x3 : (0 : Int) ≤ (k : Int) := by omega
        clear hcell hcell2 h3 hz hwt hx
        by_cases hz1 : z = -1
        · subst hz1
          clear hside
          go_wp2
          go_round
          case rel => exact ⟨k + 1, by omega, by go_num, by rw [SW.out]; simp⟩
          case measure => simp [intOf]; omega
        · have hz0 : 0 ≤ z := by omega
          have HZ := Lib.hid hz1
          clear hz1 hside
          go_wp2
          go_round
          case rel => exact ⟨k + 1, by omega, by go_num, by rw [SW.out, if_neg HZ.out]⟩
          case measure => simp [intOf]; omega
      · obtain rfl : k = s.length := by omega
        rw [HL.out]
        go_wp2_with fail
        go_ret
        exact ⟨ret_int HW.out.symm, HB.out⟩
  · have HS := Lib.hid hs
    have HW : Hid (weightAll l s = -1) := if_neg hs
    clear hs
    go_enter Try.func38, Try.ntmps38
    go_wp2_with fail
    refine (specSettingValid_any _ _ l s _ (H.out.quads (Nat.le_refl _)) (HU.out.ints (Nat.le_refl _))).mono ?_
    rintro e w1 ⟨rfl, hb⟩
    have HB := Lib.hid hb
    clear hb
    rw [decide_eq_false HS.out]
    go_wp2_with fail
    go_ret
    exact ⟨ret_int HW.out.symm, HB.out⟩
end Go.Proofs.Ytbpcjdhbbighgaa
