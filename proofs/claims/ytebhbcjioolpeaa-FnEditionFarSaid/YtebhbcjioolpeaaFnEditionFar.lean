/-
  FnEditionFar: for all arguments the law returns true and leaves what was there as it was. No condition.
-/
import Derived.Test.YtebhbcjioolpeaaTwo
import Derived.Test.YtebhbcjioolpeaaSet
import Derived.Test.YtebhbcjioolpeaaMake2
import Derived.Test.YtebhbcjioolpeaaFacts
import Derived.ProofKit
import Derived.OpenShut
import Derived.ShutString
import Derived.ChangeOld
import Derived.Below
namespace Go.Proofs.Ytebhbcjioolpeaa
open Go.RowKit Go.Deep

/-- what a read matrix with a row holds -/
theorem GridB.open {B : Nat} {w : World} {v : Value} {g : Rows} (h : GridB B w v g) (hp : 0 < g.length) : ∃ b off cap, v = .slice (some ⟨b, off, none⟩) g.length cap ∧ g.length ≤ cap ∧ cap ≤ 9223372036854775807 ∧ b < B ∧
    ∀ k, k < g.length → ∃ a c, w.cell? ⟨b, off + k, none⟩ = some (.slice a (g[k]?.getD []).length c) ∧ (g[k]?.getD []).length ≤ c ∧ c ≤ 9223372036854775807 ∧ (0 < (g[k]?.getD []).length → ∃ b2 o2, a = some ⟨b2, o2, none⟩ ∧ b2 < B ∧ ∀ j, j < (g[k]?.getD []).length → w.cell? ⟨b2, o2 + j, none⟩ = some (.int .i64 ((g[k]?.getD [])[j]?.getD 0))) := by
  obtain ⟨a, cap, rfl, h1, h2, h3⟩ := h
  obtain ⟨b, off, rfl, hb, hc⟩ := h3 hp
  refine ⟨b, off, cap, rfl, h1, h2, hb, fun k hk => ?_⟩
  obtain ⟨r, hr, a2, c2, rfl, q1, q2, q3⟩ := hc k hk
  exact ⟨a2, c2, hr, q1, q2, q3⟩

theorem nat7 {r : Nat} (h : r ≤ 7) : wrap64 (r : Int) = (r : Int) ∧ IntKind.i64.wrap (r : Int) = (r : Int) := ⟨by unfold wrap64; omega, wrap_small (by omega) (by omega)⟩
set_option maxHeartbeats 1000000 in
theorem cellsOf_any (v : Value) (g : Rows) (w : World) (h : Grid w v g) (hg : GridOk g) :
    Calls Try.prog 38 #[v] w fun e w' => e = .returned (.int .i64 ((g.length * colsOf g : Nat) : Int)) ∧ Below w.heap.size w w' := by
  obtain ⟨b1, o1, c1, hv1, _, _, k1, HC1⟩ := GridB.open h (by have := hg.1; omega)
  obtain ⟨p1, d1, x1, u1, u1', _⟩ := HC1 0 (by have := hg.1; omega)
  rw [(hg.2.2.2.2 0 (by have := hg.1; omega)).1] at x1 u1
  rw [Nat.add_zero] at x1
  subst hv1
  have hgl := hg.1
  have hgl2 := hg.2.1
  have hca := hg.2.2.1
  have hca2 := hg.2.2.2.1
  have hsm := small_cells hg
  have e0 : ((g.length * colsOf g : Nat) : Int) = (g.length : Int) * (colsOf g : Int) := by simp
  have e1 : 0 ≤ (g.length : Int) * (colsOf g : Int) ∧ (g.length : Int) * (colsOf g : Int) ≤ 49 := by rw [← e0]; omega
  have w1 := wrap_small (x := (g.length : Int) * (colsOf g : Int)) (by omega) (by omega)
  obtain ⟨n, hn⟩ : ∃ n, n = g.length := ⟨_, rfl⟩
  obtain ⟨c, hc⟩ : ∃ n, n = colsOf g := ⟨_, rfl⟩
  rw [← hn, ← hc] at w1
  rw [← hn] at hgl hgl2 ⊢
  rw [← hc] at hca x1 ⊢
  have n1 : (0 : Int) < (n : Int) := by omega
  have n2 : 0 < n := by omega
  clear HC1 h hg e0 e1 hsm hn hc
  go_enter Try.func38, Try.ntmps38
  go_wp2
  go_ret
  exact ⟨ret_int (by simp), below_n (Below.refl _ _) 0⟩

set_option maxHeartbeats 4000000 in
set_option maxRecDepth 100000 in
theorem FnEditionFar_walk (v : Value) (n : Nat) (v' : Value) (n' : Nat) (w : World) (h : Bytes w v n) (h' : Bytes w v' n') :
    Calls Try.prog 9 #[v, v'] w fun e w' => e = .returned (.bool true) ∧ Below w.heap.size w w' := by
  have CD := Lib.hid (DrawEditionFar_any v n w h)
  obtain ⟨a, cap, rfl, h1, h2, h3⟩ := h
  clear h3
  obtain ⟨a', cap', rfl, h1', h2', h3'⟩ := h'
  clear h3'
  by_cases hbig : 1048576 < n ∨ 1048576 < n'
  · by_cases hb1 : 1048576 < n
    · have hb' : (1048576 : Int) < (n : Int) := by omega
      go_enter Try.func9, Try.ntmps9
      go_wp2
      go_ret
      exact ⟨rfl, Below.refl _ _⟩
    · have hb' : ¬ (1048576 : Int) < (n : Int) := by omega
      have hb2 : (1048576 : Int) < (n' : Int) := by omega
      go_enter Try.func9, Try.ntmps9
      go_wp2
      go_ret
      exact ⟨rfl, Below.refl _ _⟩
  have hb' : ¬ (1048576 : Int) < (n : Int) := by omega
  have hb2 : ¬ (1048576 : Int) < (n' : Int) := by omega
  clear hbig
  go_enter Try.func9, Try.ntmps9
  go_wp2_with fail
  refine CD.out.mono ?_
  rintro e w1 ⟨va, vb, ga, gb, rfl, hA, hB, dA, dB, hb1⟩
  have B := Lib.hid hb1
  have s1 := hb1.size
  have A := Lib.hid (show GridB w1.heap.size w1 va ga from hA)
  have G := Lib.hid (show GridB w1.heap.size w1 vb gb from hB)
  clear hA hB hb1 CD
  go_wp2_with fail
  with_reducible refine (EditionFar_any va vb ga gb w1 (A.out.grid (by omega)) (G.out.grid (by omega))).mono ?_
  rintro e w2 ⟨rfl, hb2⟩
  have s2 := hb2.size
  replace A := Lib.hid (A.out.below hb2 (by omega))
  replace G := Lib.hid (G.out.below hb2 (by omega))
  replace B := Lib.hid (B.out.trans (hb2.mono (by omega)))
  clear hb2
  go_wp2_with fail
  with_reducible refine (specEditionFar_any va vb ga gb w2 (A.out.grid (by omega)) (G.out.grid (by omega))).mono ?_
  rintro e w3 ⟨rfl, hb3⟩
  have s3 := hb3.size
  replace A := Lib.hid (A.out.below hb3 (by omega))
  replace G := Lib.hid (G.out.below hb3 (by omega))
  replace B := Lib.hid (B.out.trans (hb3.mono (by omega)))
  clear hb3
  by_cases hs : Like ga gb
  · have HS := Lib.hid hs
    have OA := Lib.hid hs.1.1
    have OB := Lib.hid hs.1.2.1
    have hfs := far_small hs
    have hgl := hs.1.1.1
    have hgl2 := hs.1.1.2.1
    have hca := hs.1.1.2.2.1
    have hca2 := hs.1.1.2.2.2.1
    have hfz := Lib.hid (far_zero hs)
    have hfc := Lib.hid (far_comm _ _ hs)
    have hsm := small_cells hs.1.1
    obtain ⟨out, hout⟩ : ∃ x, x = farOf ga gb := ⟨_, rfl⟩
    rw [← hout] at hfs hfz hfc ⊢
    have OUT := Lib.hid hout
    have t1 : (out != out) = false := by simp
    have t2 : ¬ out < 0 := by omega
    clear hs hout
    have hN0 := Nat.mul_pos (show 0 < ga.length by omega) (show 0 < colsOf ga by omega)
    obtain ⟨N, hN⟩ : ∃ N, N = ga.length * colsOf ga := ⟨_, rfl⟩
    rw [← hN] at hN0 hsm
    have HN := Lib.hid hN
    clear hN
    have hNz : ¬ (N : Int) = 0 := by omega
    go_wp2_with fail
    with_reducible refine (cellsOf_any va ga w3 (A.out.grid (by omega)) OA.out).mono ?_
    rintro e w4 ⟨rfl, hb4⟩
    rw [← HN.out]
    have s4 := hb4.size
    replace A := Lib.hid (A.out.below hb4 (by omega))
    replace G := Lib.hid (G.out.below hb4 (by omega))
    replace B := Lib.hid (B.out.trans (hb4.mono (by omega)))
    clear hb4
    obtain ⟨b1, o1, c1, hv1, _, _, k1, HC1⟩ := (A.out.mono (show w1.heap.size ≤ w4.heap.size by omega)).open (by omega)
    obtain ⟨p1, d1, x1, u1, u1', _⟩ := HC1 0 (by omega)
    rw [(OA.out.2.2.2.2 0 (by omega)).1] at x1 u1
    rw [Nat.add_zero] at x1
    subst hv1
    clear HC1
    obtain ⟨c, hc⟩ : ∃ c, c = colsOf ga := ⟨_, rfl⟩
    obtain ⟨I, hI⟩ : ∃ I, I = n' % N := ⟨_, rfl⟩
    have hI1 : I < N := by rw [hI]; exact Nat.mod_lt _ hN0
    obtain ⟨r, hr⟩ : ∃ r, r = I / c := ⟨_, rfl⟩
    obtain ⟨j, hj⟩ : ∃ r, r = I % c := ⟨_, rfl⟩
    obtain ⟨z, hz⟩ : ∃ r, r = n' % 60 := ⟨_, rfl⟩
    have hr1 : r < ga.length := by rw [hr]; exact Nat.div_lt_of_lt_mul (by rw [Nat.mul_comm, hc, ← HN.out]; exact hI1)
    have hj1 : j < c := by rw [hj]; exact Nat.mod_lt _ (by omega)
    have hz1 : z < 60 := by rw [hz]; exact Nat.mod_lt _ (by omega)
    have q1 : (n' : Int) % (N : Int) = (I : Int) := by rw [hI]; exact (Int.natCast_emod _ _).symm
    have q2 : (I : Int) / (c : Int) = (r : Int) := by rw [hr]; exact (Int.natCast_ediv _ _).symm
    have q3 : (I : Int) % (c : Int) = (j : Int) := by rw [hj]; exact (Int.natCast_emod _ _).symm
    have q4 : (n' : Int) % 60 = (z : Int) := by rw [hz]; exact (Int.natCast_emod n' 60).symm
    have q5 : (I : Int).tmod (c : Int) = (j : Int) := by rw [Int.tmod_eq_emod_of_nonneg (by omega)]; exact q3
    have hr2 : r ≤ 7 := by omega
    have q6 : (I : Int).tdiv (c : Int) = (r : Int) := by rw [Int.tdiv_eq_ediv_of_nonneg (by omega)]; exact q2
    have q7 := (nat7 hr2).1
    have q8 := (nat7 hr2).2
    have q9 : (n' : Int).tmod 60 = (z : Int) := by rw [Int.tmod_eq_emod_of_nonneg (by omega)]; exact q4
    rw [← hc] at hca hca2 x1
    have hcz : ¬ c = 0 := by omega
    have hcz2 : ¬ (c : Int) = -1 := by omega
    have CS : Hid (∀ w, Grid w (.slice (some ⟨b1, o1, none⟩) ga.length c1) ga → Calls Try.prog 39 #[.slice (some ⟨b1, o1, none⟩) ga.length c1, .int .i64 r, .int .i64 j, .int .i64 z] w fun e w' => ∃ v, e = .returned (.tuple #[v, .bool true]) ∧ OwnG w.heap.size w'.heap.size w' v (setOf ga r j z) ∧ Below w.heap.size w w') := fun w h => GridSet_any _ ga r j z w h OA.out hr1 (by rw [← hc]; exact hj1) (by omega) (by omega)
    have HL : Hid (Like ga (setOf ga r j z)) := setOf_like OA.out (by omega)
    have LC : Hid (Like (setOf ga r j z) gb) := ⟨⟨HL.out.1.2.1, OB.out, HL.out.1.2.2.symm.trans HS.out.1.2.2⟩, HL.out.2.symm.trans HS.out.2⟩
    have f1 := far_small HL.out
    have f2 := far_small LC.out
    have htri := far_tri HS.out HL.out
    rw [← OUT.out] at htri
    obtain ⟨fx, hfx⟩ : ∃ q, q = farOf ga (setOf ga r j z) := ⟨_, rfl⟩
    obtain ⟨fy, hfy⟩ : ∃ q, q = farOf (setOf ga r j z) gb := ⟨_, rfl⟩
    rw [← hfx] at f1 htri
    rw [← hfy] at f2 htri
    have FX := Lib.hid hfx
    have FY := Lib.hid hfy
    have HC := Lib.hid hc
    clear hc hI hr hj hz hfx hfy
    obtain ⟨n0, hn0⟩ : ∃ n, n = ga.length := ⟨_, rfl⟩
    rw [← hn0] at hgl hgl2 A CS ⊢
    have n1 : (0 : Int) < (n0 : Int) := by omega
    have n2 : 0 < n0 := by omega
    clear hn0 hr1 hj1 hz1 hI1
    go_wp2
    replace A := Lib.hid (A.out.below (below_n (Below.refl _ w4) 1) (by omega))
    replace G := Lib.hid (G.out.below (below_n (Below.refl _ w4) 1) (by omega))
    replace B := Lib.hid (below_n B.out 1)
    have A4 := Lib.hid (show Grid w4.drew (.slice (some ⟨b1, o1, none⟩) n0 c1) ga from A.out.grid (by show w1.heap.size ≤ w4.heap.size; omega))
    go_region_held3 (fun w' => w'.cell? ⟨b1, o1, none⟩ = some (.slice p1 c d1))
      (first | exact x1 | exact x5 | go_keep)
      (first | (go_at_call 39; (with_reducible refine (CS.out _ A4.out).mono ?_); rintro e w5 ⟨v5, rfl, hO, hb5⟩; have x5 := (hb5.cell (p := ⟨b1, o1, none⟩) k1).trans x1) | fail)
    have s5 : w4.heap.size ≤ w5.heap.size := hb5.size
    have L5 := Lib.hid (show GridB w5.heap.size w5 v5 (setOf ga r j z) from hO.grid (Nat.le_refl _))
    replace A := Lib.hid (A.out.below hb5 (by show w1.heap.size ≤ w4.heap.size; omega))
    replace G := Lib.hid (G.out.below hb5 (by show w1.heap.size ≤ w4.heap.size; omega))
    replace B := Lib.hid (B.out.trans (hb5.mono (by show w.heap.size ≤ w4.heap.size; omega)))
    clear hO hb5 x1 x5 CS A4
    have T3 : Hid ((decide (ga = gb)) = (out == 0)) := by
      show _ = _
      by_cases e : out = 0
      · rw [decide_eq_true (hfz.out.1 e), e]; rfl
      · rw [decide_eq_false (fun h => e (hfz.out.2 h))]; simp [e]
    have wf := wrap_small (x := fx + fy) (by omega) (by omega)
    go_wp2_with fail
    with_reducible refine (EditionFar_any vb _ gb ga w5 (G.out.grid (by omega)) (A.out.grid (by omega))).mono ?_
    rintro e w6 ⟨rfl, hb6⟩
    rw [hfc.out]
    have s6 := hb6.size
    replace A := Lib.hid (A.out.below hb6 (by omega))
    replace G := Lib.hid (G.out.below hb6 (by omega))
    replace L5 := Lib.hid (L5.out.below hb6 (by omega))
    replace B := Lib.hid (B.out.trans (hb6.mono (by omega)))
    clear hb6
    go_wp2_with fail
    with_reducible refine (sameGrid_b _ vb ga gb w6 (A.out.grid (by omega)) (G.out.grid (by omega))).mono ?_
    rintro e w7 ⟨rfl, hb7⟩
    rw [T3.out]
    have s7 := hb7.size
    replace A := Lib.hid (A.out.below hb7 (by omega))
    replace G := Lib.hid (G.out.below hb7 (by omega))
    replace L5 := Lib.hid (L5.out.below hb7 (by omega))
    replace B := Lib.hid (B.out.trans (hb7.mono (by omega)))
    clear hb7
    go_wp2_with fail
    with_reducible refine (EditionFar_any _ v5 ga (setOf ga r j z) w7 (A.out.grid (by omega)) (L5.out.grid (by omega))).mono ?_
    rintro e w8 ⟨rfl, hb8⟩
    rw [← FX.out]
    have s8 := hb8.size
    replace A := Lib.hid (A.out.below hb8 (by omega))
    replace G := Lib.hid (G.out.below hb8 (by omega))
    replace L5 := Lib.hid (L5.out.below hb8 (by omega))
    replace B := Lib.hid (B.out.trans (hb8.mono (by omega)))
    clear hb8
    go_wp2_with fail
    with_reducible refine (EditionFar_any v5 vb (setOf ga r j z) gb w8 (L5.out.grid (by omega)) (G.out.grid (by omega))).mono ?_
    rintro e w9 ⟨rfl, hb9⟩
    rw [← FY.out]
    have s9 := hb9.size
    replace A := Lib.hid (A.out.below hb9 (by omega))
    replace G := Lib.hid (G.out.below hb9 (by omega))
    replace L5 := Lib.hid (L5.out.below hb9 (by omega))
    replace B := Lib.hid (B.out.trans (hb9.mono (by omega)))
    clear hb9
    go_wp2
    go_ret
    exact ⟨ret_bool (by simp <;> omega), B.out⟩
  · rw [farOf_no hs]
    clear hs
    go_wp2
    go_ret
    exact ⟨rfl, B.out⟩
end Go.Proofs.Ytebhbcjioolpeaa
namespace Go.Proofs.Ytebhbcjioolpeaa.fnEditionFar
open Go.ChangeShapes Go.WideShapes Go.ChangeAt Go.RowKit
set_option linter.unusedVariables false

theorem own : ownKnob Try.prog.godebug = none := by kernel_rfl
theorem laidOut : laidOutB Try.prog = true := fact_laid
set_option maxRecDepth 100000 in
theorem lifted (os : Os) (started : os.Started) (H : Type) (enc : TypeId × Value → H) :
    ReturnsInHanded {} Try.checked os 9 .any (Rows.fnEditionFarSpec.pre6 enc Try.prog Try.f9 Rows.fnEditionFarRow.domain false) (Rows.fnEditionFarSpec.post enc Try.prog Try.f9 false true false false) := by
  refine returnsInHanded_of_change (C := Try.checked) own started (by kernel_rfl) Try.func9
    (ChangeSpec.witness6 (enc := enc) (C := Try.checked) false ⟨#[], #[.slice none 0 0, .slice none 0 0], []⟩ 8 (by kernel_rfl) (by kernel_rfl) (by kernel_rfl) (by kernel_rfl)) ?_
  intro W base args ds gs before hval0 hW hcnd _
  have hval : ∀ (j : Nat) t v, Try.f9.params[j]? = some t → args[j]? = some v → Value.okWide Try.prog W .any base t v := hval0
  have hW' := hW
  obtain ⟨p, q, hA0, hV, rfl, hfz, hnd⟩ := hW
  have hA : DataW.TrodAll enc Try.prog W 0 (fun _ => true) true Try.f9.params.toList args.toList ds p := hA0
  rw [Try.params9] at hA hval
  obtain ⟨v0, vs0, d0, ds0, p0, q0, hargs, rfl, rfl, h0, r0⟩ := trodAll_cons hA
  obtain ⟨v1, vs1, d1, ds1, p1, q1, rfl, rfl, rfl, h1, r1⟩ := trodAll_cons r0
  obtain ⟨rfl, rfl, rfl⟩ := trodAll_nil r1
  obtain rfl : args = #[v0, v1] := by cases args; simp_all
  obtain ⟨rfl, rfl⟩ := trodVars_none hV
  obtain ⟨a0, len0, cap0, rfl⟩ := okWide_slice Try.underlying29 (hval 0 29 v0 rfl rfl)
  have k0 := h0
  have lt0 : ∀ x ∈ p0, x.block < W.heap.size := by obtain ⟨m, hm⟩ := k0; exact DataW.trod_lt m _ _ _ hm
  obtain ⟨z0, w0⟩ : ∃ zs, Bytes W (.slice a0 len0 cap0) zs := bytes_opened h0
  obtain ⟨a1, len1, cap1, rfl⟩ := okWide_slice Try.underlying29 (hval 1 29 v1 rfl rfl)
  have k1 := h1
  have lt1 : ∀ x ∈ p1, x.block < W.heap.size := by obtain ⟨m, hm⟩ := k1; exact DataW.trod_lt m _ _ _ hm
  obtain ⟨z1, w1⟩ : ∃ zs, Bytes W (.slice a1 len1 cap1) zs := bytes_opened h1
  clear hA0 hval0
  refine (FnEditionFar_walk _ z0 _ z1 W w0 w1).mono fun e W' ⟨he, bel⟩ => ?_
  subst he
  exact ⟨_, rfl, _, _, _, [], _, [], hW', trodAll_mk1 (shut_bool Try.underlying4 _), (trodAll_cons_mk (Below.trod laidOut (by kernel_rfl) (of_decide_eq_true (by kernel_rfl)) k0 bel lt0) (trodAll_cons_mk (Below.trod laidOut (by kernel_rfl) (of_decide_eq_true (by kernel_rfl)) k1 bel lt1) trodAll_mk0)), rfl, bel.frame _, fun h => by cases h⟩
theorem fact_inPlace : (Rows.fnEditionFarRow.inPlace == Try.prog.inPlace 9) = true := by kernel_rfl
theorem fact_unfollowed : (Rows.fnEditionFarRow.unfollowed == Try.prog.unfollowed 9) = true := by kernel_rfl
theorem fact_recurses : (Rows.fnEditionFarRow.recurses == Try.prog.recurses 9) = true := by kernel_rfl
theorem fact_named : (Rows.fnEditionFarRow.named == Try.prog.varsNamed 9) = true := by kernel_rfl
theorem fact_plain : (Rows.fnEditionFarRow.plainKeys == Try.prog.plainKeys) = true := by kernel_rfl
theorem joined : joinedFacts Try.pinned.checked.prog 9 Try.f9 Rows.fnEditionFarSpec Rows.fnEditionFarRow = true :=
  joined_of (f := 9) (fn := Try.f9) (s := Rows.fnEditionFarSpec) (c := Rows.fnEditionFarRow) (by kernel_rfl) (by kernel_rfl) (by kernel_rfl) (by kernel_rfl) (by kernel_rfl) fact_inPlace fact_unfollowed fact_recurses fact_named (by kernel_rfl) (by kernel_rfl) (by kernel_rfl) (by kernel_rfl) (by kernel_rfl) (by kernel_rfl) (by kernel_rfl) (by kernel_rfl) (by kernel_rfl) fact_plain (by kernel_rfl) rfl rfl (by kernel_rfl) (by kernel_rfl) (by kernel_rfl) (by kernel_rfl)

/-- the statement -/
theorem proved : Rows.FnEditionFarSaid :=
  OpenClaim.holds_of_wide 9 Try.f9 rfl rfl rfl rfl rfl rfl rfl ⟨rfl, rfl, rfl, rfl, rfl⟩ rfl rfl rfl rfl rfl (by kernel_rfl) Try.func9 joined
    (of_decide_eq_true (by kernel_rfl)) (by unfold Func.isWrapper; first | (rw [if_pos (by decide +kernel)]; kernel_rfl) | (rw [if_neg (by decide +kernel)]; exact ⟨rfl, rfl⟩))
    (fun os started H enc _ => lifted os started H enc)
#print axioms proved
end Go.Proofs.Ytebhbcjioolpeaa.fnEditionFar
