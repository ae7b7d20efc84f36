/-
  FnLabelsDrop: for all arguments the law returns true and leaves what was there as it was. No condition.
-/
import Derived.Test.YtcjcgbimilglaaaAtL
import Derived.Test.YtcjcgbimilglaaaSameL
import Derived.Test.YtcjcgbimilglaaaLabDrop2
import Derived.Test.YtcjcgbimilglaaaBestI
import Derived.Test.YtcjcgbimilglaaaL8
import Derived.Test.YtcjcgbimilglaaaSetMany
import Derived.Test.YtcjcgbimilglaaaLawKit
import Derived.Test.YtcjcgbimilglaaaBytes
import Derived.Test.YtcjcgbimilglaaaFacts
import Derived.ProofKit
import Derived.OpenShut
import Derived.ShutString
import Derived.ChangeOld
import Derived.Below
import Derived.Test.YtcjcgbimilglaaaFacts
import Derived.ProofKit
import Derived.OpenShut
import Derived.ShutString
import Derived.ChangeOld
import Derived.Below
namespace Go.Proofs.Ytcjcgbimilglaaa
open Go.RowKit Go.Deep

theorem ints_take {B : Nat} {w : World} {a : Option Addr} {cap : Nat} {l : List Int} (h : IntsB B w (.slice a l.length cap) l) (k : Nat) (hk : k ≤ l.length) : IntsB B w (.slice a k cap) (l.take k) := by
  obtain ⟨a', cap', e, h1, h2, h3⟩ := h
  obtain ⟨rfl, rfl⟩ : a = a' ∧ cap = cap' := by simp at e; exact e
  have hl : (l.take k).length = k := by simp; omega
  refine ⟨a, cap, by rw [hl], by omega, h2, fun h => ?_⟩
  obtain ⟨b, off, rfl, hb, hc⟩ := h3 (by omega)
  refine ⟨b, off, rfl, hb, fun j hj => ?_⟩
  rw [hl] at hj
  have := hc j (by omega)
  rwa [List.getElem?_take, if_pos hj]
theorem ints_drop {B : Nat} {w : World} {b off cap : Nat} {l : List Int} (h : IntsB B w (.slice (some ⟨b, off, none⟩) l.length cap) l) (k : Nat) (hk : k ≤ l.length) (ad : Addr) (had : k < cap → ad = ⟨b, off + k, none⟩) :
    IntsB B w (.slice (some ad) (l.length - k) (cap - k)) (l.drop k) := by
  obtain ⟨a', cap', e, h1, h2, h3⟩ := h
  obtain ⟨rfl, rfl⟩ : some ⟨b, off, none⟩ = a' ∧ cap = cap' := by simp at e; exact ⟨e.1, e.2⟩
  have hl : (l.drop k).length = l.length - k := by simp
  refine ⟨some ad, cap - k, by rw [hl], by omega, by omega, fun h => ?_⟩
  rw [hl] at h
  obtain ⟨b2, off2, e2, hb, hc⟩ := h3 (by omega)
  obtain ⟨rfl, rfl⟩ : b = b2 ∧ off = off2 := by simp at e2; exact e2
  rw [had (by omega)]
  refine ⟨b, off + k, rfl, hb, fun j hj => ?_⟩
  have := hc (k + j) (by omega)
  rw [List.getElem?_drop, Nat.add_assoc]
  exact this
theorem drop_facts {l : List Quad} {n : Nat} (hv : ValidL l) (hn : n < l.length) : SetOk (dropAt l n) (dropAt (bestOut l) n) ∧ mostOut l - 1 ≤ mostOut (dropAt l n) ∧ (dropAt l n).length + 1 = l.length ∧ 0 ≤ mostOut l ∧ mostOut l ≤ 54 ∧ 0 ≤ mostOut (dropAt l n) ∧ (bestOut l).length = l.length := by
  have hv2 : ValidL (dropAt l n) := valid_drop hn hv
  have hln : (dropAt l n).length = l.length - 1 := dropAt_length hn
  have B1 := bestAll_ok (wtB true) l
  have B2 := bestAll_ok (wtB false) l
  have hd : (dropAt (bestAll (wtB false) l) n).length = (dropAt l n).length := by rw [dropAt_length (by rw [B2.1]; exact hn), hln, B2.1]
  have le := bstAll_le (wtB false) hd (okUp_drop hn B2.1 B2.2.1)
  rw [hln, weightUp_drop hn B2.1, B2.2.2] at le
  have b1 := (bst_bound false hv l.length 0 (mPts l) (by omega))
  have b2 := (bst_bound false hv2 (dropAt l n).length 0 (mPts (dropAt l n)) (by omega))
  have hl6 := hv.1
  have e1 : mostOut l = bst (wtB false) l l.length 0 (mPts l) := if_pos hv
  have e2 : mostOut (dropAt l n) = bst (wtB false) (dropAt l n) (dropAt l n).length 0 (mPts (dropAt l n)) := if_pos hv2
  have e3 : bestOut l = bestAll (wtB true) l := if_pos hv
  rw [e1, e2, e3]
  refine ⟨⟨hv2, ?_, okUp_drop hn B1.1 B1.2.1⟩, ?_, by omega, b1.1, by omega, b2.1, B1.1⟩
  · rw [dropAt_length (by rw [B1.1]; exact hn), hln, B1.1]
  · have x : (if (bestAll (wtB false) l)[n]?.getD 0 = -1 then (0 : Int) else wtB false (l[n]?.getD q0)) ≤ 1 := by
      split
      · omega
      · simp [wtB]
    simp only [bstAll] at le
    omega
theorem own_cells {lo hi : Nat} {w : World} {v : Value} {l : List Int} (h : Own lo hi w v l) (hp : 0 < l.length) : ∃ b off cap, v = .slice (some ⟨b, off, none⟩) l.length cap ∧ l.length ≤ cap ∧ cap ≤ 9223372036854775807 ∧ b < hi := by
  rcases h with ⟨rfl, _⟩ | ⟨b, off, cap, t, n, f, rfl, h1, h2, h3, h4, _⟩
  · simp at hp
  · exact ⟨b, off, cap, rfl, h1, h2, h4⟩
set_option maxHeartbeats 4000000 in
set_option maxRecDepth 100000 in
theorem FnLabelsDrop_walk (v : Value) (n : Nat) (w : World) (h : Bytes w v n) :
    Calls Try.prog 20 #[v] w fun e w' => e = .returned (.bool true) ∧ Below w.heap.size w w' := by
  have CD := Lib.hid (DrawLabelsDrop_any v n w h)
  obtain ⟨a, cap, rfl, h1, h2, h3⟩ := h
  clear h3
  by_cases hbig : 1048576 < n
  · have hb' : (1048576 : Int) < (n : Int) := by omega
    go_enter Try.func20, Try.ntmps20
    go_wp2
    go_ret
    exact ⟨rfl, Below.refl _ _⟩
  have hb' : ¬ (1048576 : Int) < (n : Int) := by omega
  clear hbig
  go_enter Try.func20, Try.ntmps20
  go_wp2_with fail
  refine CD.out.mono ?_
  rintro e w1 ⟨vl, l, k, rfl, k0, k1, hA, hl7, hb1⟩
  have s1 := hb1.size
  obtain ⟨la, lc, rfl, q1, q2, q3⟩ := id hA
  clear q3 CD
  have H := Lib.hid hA.quadsB
  have B := Lib.hid hb1
  clear hA hb1
  obtain ⟨R, hR⟩ : ∃ R, R = dropAll l k := ⟨_, rfl⟩
  go_wp2_with fail
  refine (LabelsDrop_any _ l k w1 (H.out.quads (by omega))).mono ?_
  rintro e w2 ⟨vo, rfl, hO, hb2⟩
  have s2 := hb2.size
  replace H := Lib.hid (H.out.below hb2 (by omega))
  replace B := Lib.hid (B.out.trans (hb2.mono (by omega)))
  have O := Lib.hid hO
  clear hO hb2
  rw [← hR] at O
  go_wp2_with fail
  refine (specLabelsDrop_any _ l k w2 (H.out.quads (by omega))).mono ?_
  rintro e w3 ⟨vu, rfl, hU, hb3⟩
  have s3 := hb3.size
  replace H := Lib.hid (H.out.below hb3 (by omega))
  replace O := Lib.hid (O.out.below hb3 (by omega))
  replace B := Lib.hid (B.out.trans (hb3.mono (by omega)))
  have U := Lib.hid hU
  clear hU hb3
  rw [← hR] at U
  by_cases hv : DropOk l k
  · rw [decide_eq_true hv]
    obtain ⟨hvl, kk0, kk1⟩ := id hv
    obtain ⟨n, rfl⟩ : ∃ n : Nat, k = (n : Int) := ⟨k.toNat, by omega⟩
    have hnl : n < l.length := by omega
    rw [show dropAll l (n : Int) = dropAt l n by rw [dropAll, if_pos hv, Int.toNat_natCast]; rfl] at hR
    have FF := Lib.hid (drop_facts hvl hnl)
    rw [← hR] at FF
    have HV := Lib.hid hvl
    have bl : Hid ((bestOut l).length = l.length) := FF.out.2.2.2.2.2.2
    obtain ⟨bs, hbs⟩ : ∃ x, x = bestOut l := ⟨_, rfl⟩
    rw [← hbs] at FF bl
    have HBS := Lib.hid hbs
    obtain ⟨ao, co, rfl, o1, o2, _⟩ := O.out.quads
    have rl : R.length + 1 = l.length := FF.out.2.2.1
    have lw : IntKind.i64.wrap ((l.length : Int) - 1) = (R.length : Int) := by rw [IntWalk.i64_in _ (by omega)]; omega
    have hl6 := hvl.1
    clear hv hR hvl hbs kk0 kk1
    go_wp2_with fail
    refine (sameLabels_any _ vu R R w3 (O.out.quads) (U.out.quads)).mono ?_
    rintro e w4 ⟨rfl, hb4⟩
    have s4 := hb4.size
    replace H := Lib.hid (H.out.below hb4 (by omega))
    replace O := Lib.hid (O.out.below hb4 (by omega))
    replace U := Lib.hid (U.out.below hb4 (by omega))
    replace B := Lib.hid (B.out.trans (hb4.mono (by omega)))
    clear hb4
    rw [decide_eq_true (rfl : R = R)]
    clear U
    go_wp2_with fail
    refine (SettingBest_any _ l w4 (H.out.quads (by omega))).mono ?_
    rintro e w5 ⟨vb, rfl, hS, hb5⟩
    have s5 := hb5.size
    replace H := Lib.hid (H.out.below hb5 (by omega))
    replace O := Lib.hid (O.out.below hb5 (by omega))
    replace B := Lib.hid (B.out.trans (hb5.mono (by omega)))
    have S := Lib.hid hS
    clear hS hb5
    rw [decide_eq_true HV.out]
    rw [← HBS.out] at S
    obtain ⟨b, off, cap, rfl, c1, c2, c3⟩ := own_cells S.out (by rw [bl.out]; omega)
    have bl' := bl.out
    have g1 : n ≤ cap := by omega
    have g2 : n + 1 ≤ bs.length := by omega
    have g3 : IntKind.i64.wrap ((n : Int) + 1) = (n : Int) + 1 := IntWalk.i64_in _ (by omega)
    have g4 : (0 : Int) ≤ (n : Int) + 1 := by omega
    have g5 : ((n : Int) + 1).toNat = n + 1 := by omega
    have g6 : (n : Int) + 1 ≤ (bs.length : Int) := by omega
    obtain ⟨ad, had, hadd⟩ : ∃ ad : Addr, (if cap = n + 1 then some (⟨b, off, none⟩ : Addr) else some ⟨b, off + (n + 1), none⟩) = some ad ∧ (n + 1 < cap → ad = ⟨b, off + (n + 1), none⟩) := by
      by_cases e : cap = n + 1
      · exact ⟨_, if_pos e, fun h => by omega⟩
      · exact ⟨_, if_neg e, fun _ => rfl⟩
    have HA := Lib.hid hadd
    have HT := Lib.hid (ints_take S.out.ints.intsB n (by omega))
    have HDr := Lib.hid (ints_drop S.out.ints.intsB (n + 1) (by omega) ad HA.out)
    have HB0 := Lib.hid (((Below.refl w5.heap.size w5).alloc (Nat.le_refl _) (.cells #[] 3)).drew)
    have HO0 := Lib.hid ((World.ownsRow_made (base := w5.heap.size) (e := 3) (size := 1) w5 #[] 0 (Nat.le_refl _) (by decide) rfl).drew)
    have hbs6 : bs.length ≤ 6 := by omega
    clear hadd bl'
    go_wp2_with fail
    go_region_law (first | (refine step_app_ints _ rfl (.tmp 58) (.tmp 61) rfl w5.heap.size _ [] _ (bs.take n) HO0.out ((HT.out.below HB0.out (Nat.le_refl _)).ints (by simp)) rfl rfl (by simp; omega) (by simp) ?_; intro v1 x1 hown1 hg1; have hbel1 := HB0.out.grown hg1 (by simp) (fun g hg => (HO0.out.lt g hg).1)) | (refine step_app_ints _ rfl (.tmp 62) (.tmp 66) rfl w5.heap.size _ _ _ (bs.drop (n + 1)) hown1 ((HDr.out.below hbel1 (Nat.le_refl _)).ints hbel1.size) rfl rfl (by simp; omega) hbel1.size ?_; intro v2 x2 hown2 hg2; have hbel2 := hbel1.grown hg2 hbel1.size (fun g hg => (hown1.lt g hg).1)))
    all_goals
      have V := Lib.hid (own_of_ownsRow (l := bs.take n ++ bs.drop (n + 1)) hown2 (Nat.le_refl _))
      have s6 := hbel2.size
      replace B := Lib.hid (B.out.trans (hbel2.mono (by omega)))
      replace H := Lib.hid (H.out.below hbel2 (by omega))
      replace O := Lib.hid (O.out.below hbel2 (by omega))
      have M0 : Hid (mostOut l - 1 ≤ mostOut R) := FF.out.2.1
      have M1 : Hid (0 ≤ mostOut l ∧ mostOut l ≤ 54) := ⟨FF.out.2.2.2.1, FF.out.2.2.2.2.1⟩
      obtain ⟨mr, hmr⟩ : ∃ x, x = mostOut R := ⟨_, rfl⟩
      obtain ⟨ml, hml⟩ : ∃ x, x = mostOut l := ⟨_, rfl⟩
      rw [← hmr, ← hml] at M0
      rw [← hml] at M1
      have HMR := Lib.hid hmr
      have HML := Lib.hid hml
      clear hown1 hown2 hg1 hg2 hbel1 hbel2 HT HDr HB0 HO0 HA g1 g2 g3 g4 g5 g6 hmr hml S
      go_wp2_with fail
      refine (SettingValid_any _ _ R (dropAt bs n) x2 (O.out.quads) (V.out.ints)).mono ?_
      rintro e w7 ⟨rfl, hb7⟩
      have s7 := hb7.size
      replace H := Lib.hid (H.out.below hb7 (by omega))
      replace O := Lib.hid (O.out.below hb7 (by omega))
      replace V := Lib.hid (V.out.below hb7 (by omega))
      replace B := Lib.hid (B.out.trans (hb7.mono (by omega)))
      clear hb7
      rw [decide_eq_true FF.out.1]
      go_wp2_with fail
      refine (SettingMost_any _ R w7 (O.out.quads)).mono ?_
      rintro e w8 ⟨rfl, hb8⟩
      have s8 := hb8.size
      replace H := Lib.hid (H.out.below hb8 (by omega))
      replace O := Lib.hid (O.out.below hb8 (by omega))
      replace V := Lib.hid (V.out.below hb8 (by omega))
      replace B := Lib.hid (B.out.trans (hb8.mono (by omega)))
      clear hb8
      rw [← HMR.out]
      go_wp2_with fail
      refine (SettingMost_any _ l w8 (H.out.quads (by omega))).mono ?_
      rintro e w9 ⟨rfl, hb9⟩
      have s9 := hb9.size
      replace H := Lib.hid (H.out.below hb9 (by omega))
      replace O := Lib.hid (O.out.below hb9 (by omega))
      replace V := Lib.hid (V.out.below hb9 (by omega))
      replace B := Lib.hid (B.out.trans (hb9.mono (by omega)))
      clear hb9
      rw [← HML.out]
      have mge := M0.out
      obtain ⟨m1, m2⟩ := M1.out
      have mw : IntKind.i64.wrap (ml - 1) = ml - 1 := IntWalk.i64_in _ (by omega)
      clear M0 M1 HMR HML
      go_wp2
      go_ret
      exact ⟨ret_bool (by simp), B.out⟩
  · rw [decide_eq_false hv]
    clear hv hR
    go_wp2_with fail
    refine (sameLabels_any vo vu R R w3 (O.out.quads) (U.out.quads)).mono ?_
    rintro e w4 ⟨rfl, hb4⟩
    have s4 := hb4.size
    replace H := Lib.hid (H.out.below hb4 (by omega))
    replace O := Lib.hid (O.out.below hb4 (by omega))
    replace U := Lib.hid (U.out.below hb4 (by omega))
    replace B := Lib.hid (B.out.trans (hb4.mono (by omega)))
    clear hb4
    rw [decide_eq_true (rfl : R = R)]
    go_wp2_with fail
    refine (sameLabels_any vo vu R R w4 (O.out.quads) (U.out.quads)).mono ?_
    rintro e w5 ⟨rfl, hb5⟩
    have s5 := hb5.size
    replace H := Lib.hid (H.out.below hb5 (by omega))
    replace O := Lib.hid (O.out.below hb5 (by omega))
    replace U := Lib.hid (U.out.below hb5 (by omega))
    replace B := Lib.hid (B.out.trans (hb5.mono (by omega)))
    clear hb5
    rw [decide_eq_true (rfl : R = R)]
    go_wp2
    go_ret
    exact ⟨ret_bool (by simp), B.out⟩
end Go.Proofs.Ytcjcgbimilglaaa
namespace Go.Proofs.Ytcjcgbimilglaaa.fnLabelsDrop
open Go.ChangeShapes Go.WideShapes Go.ChangeAt Go.RowKit
set_option linter.unusedVariables false

theorem own : ownKnob Try.prog.godebug = none := by kernel_rfl
theorem laidOut : laidOutB Try.prog = true := fact_laid
set_option maxRecDepth 100000 in
theorem lifted (os : Os) (started : os.Started) (H : Type) (enc : TypeId × Value → H) :
    ReturnsInHanded {} Try.checked os 20 .any (Rows.fnLabelsDropSpec.pre6 enc Try.prog Try.f20 Rows.fnLabelsDropRow.domain false) (Rows.fnLabelsDropSpec.post enc Try.prog Try.f20 false true false false) := by
  refine returnsInHanded_of_change (C := Try.checked) own started (by kernel_rfl) Try.func20
    (ChangeSpec.witness6 (enc := enc) (C := Try.checked) false ⟨#[], #[.slice none 0 0], []⟩ 8 (by kernel_rfl) (by kernel_rfl) (by kernel_rfl) (by kernel_rfl)) ?_
  intro W base args ds gs before hval0 hW hcnd _
  have hval : ∀ (j : Nat) t v, Try.f20.params[j]? = some t → args[j]? = some v → Value.okWide Try.prog W .any base t v := hval0
  have hW' := hW
  obtain ⟨p, q, hA0, hV, rfl, hfz, hnd⟩ := hW
  have hA : DataW.TrodAll enc Try.prog W 0 (fun _ => true) true Try.f20.params.toList args.toList ds p := hA0
  rw [Try.params20] at hA hval
  obtain ⟨v0, vs0, d0, ds0, p0, q0, hargs, rfl, rfl, h0, r0⟩ := trodAll_cons hA
  obtain ⟨rfl, rfl, rfl⟩ := trodAll_nil r0
  obtain rfl : args = #[v0] := by cases args; simp_all
  obtain ⟨rfl, rfl⟩ := trodVars_none hV
  obtain ⟨a0, len0, cap0, rfl⟩ := okWide_slice Try.underlying29 (hval 0 29 v0 rfl rfl)
  have k0 := h0
  have lt0 : ∀ x ∈ p0, x.block < W.heap.size := by obtain ⟨m, hm⟩ := k0; exact DataW.trod_lt m _ _ _ hm
  obtain ⟨z0, w0⟩ : ∃ zs, Bytes W (.slice a0 len0 cap0) zs := bytes_opened h0
  clear hA0 hval0
  refine (FnLabelsDrop_walk _ z0 W w0).mono fun e W' ⟨he, bel⟩ => ?_
  subst he
  exact ⟨_, rfl, _, _, _, [], _, [], hW', trodAll_mk1 (shut_bool Try.underlying4 _), (trodAll_cons_mk (Below.trod laidOut (by kernel_rfl) (of_decide_eq_true (by kernel_rfl)) k0 bel lt0) trodAll_mk0), rfl, bel.frame _, fun h => by cases h⟩
theorem fact_inPlace : (Rows.fnLabelsDropRow.inPlace == Try.prog.inPlace 20) = true := by kernel_rfl
theorem fact_unfollowed : (Rows.fnLabelsDropRow.unfollowed == Try.prog.unfollowed 20) = true := by kernel_rfl
theorem fact_recurses : (Rows.fnLabelsDropRow.recurses == Try.prog.recurses 20) = true := by kernel_rfl
theorem fact_named : (Rows.fnLabelsDropRow.named == Try.prog.varsNamed 20) = true := by kernel_rfl
theorem fact_plain : (Rows.fnLabelsDropRow.plainKeys == Try.prog.plainKeys) = true := by kernel_rfl
theorem joined : joinedFacts Try.pinned.checked.prog 20 Try.f20 Rows.fnLabelsDropSpec Rows.fnLabelsDropRow = true :=
  joined_of (f := 20) (fn := Try.f20) (s := Rows.fnLabelsDropSpec) (c := Rows.fnLabelsDropRow) (by kernel_rfl) (by kernel_rfl) (by kernel_rfl) (by kernel_rfl) (by kernel_rfl) fact_inPlace fact_unfollowed fact_recurses fact_named (by kernel_rfl) (by kernel_rfl) (by kernel_rfl) (by kernel_rfl) (by kernel_rfl) (by kernel_rfl) (by kernel_rfl) (by kernel_rfl) (by kernel_rfl) fact_plain (by kernel_rfl) rfl rfl (by kernel_rfl) (by kernel_rfl) (by kernel_rfl) (by kernel_rfl)

/-- the statement -/
theorem proved : Rows.FnLabelsDropSaid :=
  OpenClaim.holds_of_wide 20 Try.f20 rfl rfl rfl rfl rfl rfl rfl ⟨rfl, rfl, rfl, rfl, rfl⟩ rfl rfl rfl rfl rfl (by kernel_rfl) Try.func20 joined
    (of_decide_eq_true (by kernel_rfl)) (by unfold Func.isWrapper; first | (rw [if_pos (by decide +kernel)]; kernel_rfl) | (rw [if_neg (by decide +kernel)]; exact ⟨rfl, rfl⟩))
    (fun os started H enc _ => lifted os started H enc)
#print axioms proved
end Go.Proofs.Ytcjcgbimilglaaa.fnLabelsDrop
