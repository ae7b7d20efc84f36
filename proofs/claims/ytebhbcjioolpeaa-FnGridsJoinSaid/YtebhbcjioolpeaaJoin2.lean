/-
  The reference's GridsJoin. No condition but that the slices read as the lists.
-/
import Derived.Test.YtebhbcjioolpeaaJoin
import Derived.Test.YtebhbcjioolpeaaGap2
namespace Go.Proofs.Ytebhbcjioolpeaa
open Go.RowKit Go.Deep Go.Sort BigFrame

theorem IntsB.tail {B : Nat} {w : World} {a : Option Addr} {n cap : Nat} {l : List Int} (h : IntsB B w (.slice a n cap) l) (hn : 1 ≤ n) :
    ∃ b off, a = some ⟨b, off, none⟩ ∧ b < B ∧ n = l.length ∧ n ≤ cap ∧ IntsB B w (.slice (if cap = 1 then some ⟨b, off, none⟩ else some ⟨b, off + 1, none⟩) (n - 1) (cap - 1)) (l.drop 1) := by
  obtain ⟨a', cap', e, h1, h2, h3⟩ := h
  simp at e
  obtain ⟨rfl, rfl, rfl⟩ := e
  obtain ⟨b, off, rfl, hb, hc⟩ := h3 (by omega)
  refine ⟨b, off, rfl, hb, rfl, h1, _, cap - 1, by rw [List.length_drop], by rw [List.length_drop]; omega, by omega, fun hp => ?_⟩
  rw [List.length_drop] at hp
  refine ⟨b, off + 1, by rw [if_neg (by omega)], hb, fun j hj => ?_⟩
  rw [List.length_drop] at hj
  have := hc (j + 1) (by omega)
  rw [show off + 1 + j = off + (j + 1) by omega, this, List.getElem?_drop, Nat.add_comm 1 j]

theorem RowsO.below {lo k : Nat} {w w' : World} {Bs : Nat → Nat} {xs : List Value} {g : Rows} (h : RowsO lo w Bs xs g k) (hb : Below w.heap.size w w') : RowsO lo w' Bs xs g k := by
  obtain ⟨q1, q2, q3⟩ := h
  refine ⟨q1, fun j hj => ?_, q3⟩
  have hz := hb.size
  rcases q2 j hj with h | ⟨cap, n, f, e, h1, h2, h3, h4, h5, h6, h7⟩
  · exact .inl h
  · exact .inr ⟨cap, n, f, e, h1, h2, h3, by omega, h5.of_block (hb.block _ h4), h6, h7⟩
theorem gridB_empty {B : Nat} {w : World} {a : Option Addr} {c : Nat} (hc : c ≤ 9223372036854775807) : GridB B w (.slice a 0 c) [] := ⟨a, c, rfl, Nat.zero_le _, hc, fun h => absurd h (by simp)⟩
theorem JoinOk.grid {ga gb : Rows} (h : JoinOk ga gb) : GridOk (joinRows ga gb ga.length) := by
  have hs := same_of_gap h.1
  have hn := hs.1.1
  have h8 := h.2
  have hca := hs.1.2.2.1
  have hcb := hs.2.1.2.2.1
  have hlen : ∀ i, i < ga.length → ((joinRows ga gb ga.length)[i]?.getD []).length + 1 = colsOf ga + colsOf gb := fun i hi => by
    have h1 := (hs.1.2.2.2.2 i hi).1
    have h2 := (hs.2.1.2.2.2.2 i (by have := hs.2.2; omega)).1
    rw [joinRows_get _ _ _ _ hi, List.length_append, List.length_drop]
    omega
  have hc : colsOf (joinRows ga gb ga.length) + 1 = colsOf ga + colsOf gb := hlen 0 (by omega)
  refine ⟨by rw [joinRows_len]; exact hn, by rw [joinRows_len]; exact hs.1.2.1, by omega, by omega, fun i hi => ?_⟩
  rw [joinRows_len] at hi
  have hl := hlen i hi
  refine ⟨by omega, fun j hj => ?_⟩
  have h1 := (hs.1.2.2.2.2 i hi).1
  have h2 := (hs.2.1.2.2.2.2 i (by have := hs.2.2; omega)).1
  rw [joinRows_get _ _ _ _ hi] at hj ⊢
  rw [List.length_append, List.length_drop] at hj
  by_cases e : j < (ga[i]?.getD []).length
  · rw [List.getElem?_append_left e]
    exact hs.1.cell hi (by omega)
  · rw [List.getElem?_append_right (by omega), List.getElem?_drop]
    exact hs.2.1.cell (by have := hs.2.2; omega) (by omega)
theorem joinOk_iff {ga gb : Rows} (h : gapOf ga gb = 0) : decide (GridOk (joinRows ga gb ga.length)) = decide (JoinOk ga gb) := by
  by_cases hj : JoinOk ga gb
  · rw [decide_eq_true hj, decide_eq_true hj.grid]
  · rw [decide_eq_false hj]
    refine decide_eq_false fun hg => hj ⟨h, ?_⟩
    have hs := same_of_gap h
    have h1 := (hs.1.2.2.2.2 0 hs.1.1).1
    have h2 := (hs.2.1.2.2.2.2 0 hs.2.1.1).1
    have hc := hg.2.2.2.1
    unfold colsOf at hc
    rw [joinRows_get _ _ _ _ hs.1.1, List.length_append, List.length_drop, h1, h2] at hc
    have := hs.1.2.2.1
    have := hs.2.1.2.2.1
    omega

set_option maxHeartbeats 4000000 in
set_option maxRecDepth 100000 in
theorem specGridsJoin_any (va vb : Value) (ga gb : Rows) (w : World) (ha : Grid w va ga) (hb : Grid w vb gb) :
    Calls Try.prog 40 #[va, vb] w fun e w' => ∃ v, e = .returned (.tuple #[v, .bool (decide (JoinOk ga gb))]) ∧ GridB w'.heap.size w' v (joinAll ga gb) ∧ Below w.heap.size w w' := by
  have HA := Lib.hid (show GridB w.heap.size w va ga from ha)
  have HB := Lib.hid (show GridB w.heap.size w vb gb from hb)
  have CG : Hid (∀ W, Below w.heap.size w W → Calls Try.prog 24 #[va, vb] W fun e w' => e = .returned (.bool (decide (gapOf ga gb = 0))) ∧ Below W.heap.size W w') := fun W hW => specGridsAgree_any va vb ga gb W ((HA.out.below hW (Nat.le_refl _)).grid hW.size) ((HB.out.below hW (Nat.le_refl _)).grid hW.size)
  have HO0 := Lib.hid (World.ownsRow_made (base := w.heap.size) (e := 32) (size := 1) w #[] 0 (Nat.le_refl _) (by decide) rfl)
  have B0 := Lib.hid ((Below.refl w.heap.size w).alloc (Nat.le_refl _) (.cells #[] 32))
  obtain ⟨a, ca, rfl, ha1, ha2, ha3⟩ := ha
  obtain ⟨b, cb, rfl, hb1, hb2, hb3⟩ := hb
  by_cases h0 : gapOf ga gb = 0
  · have hs := same_of_gap h0
    have HJ := Lib.hid (joinOk_iff h0)
    have e0 := Lib.hid (decide_eq_true h0)
    have hgl := hs.1.1
    have hgl2 := hs.1.2.1
    have hca := hs.1.2.2.2.1
    have hcb := hs.2.1.2.2.2.1
    have hcb1 := hs.2.1.2.2.1
    have hl : Hid (gb.length = ga.length) := hs.2.2.symm
    obtain ⟨b1, off1, rfl, hb1', hcell1⟩ := ha3 (by omega)
    obtain ⟨b2, off2, rfl, hb2', hcell2⟩ := hb3 (by have := hl.out; omega)
    have HC1 := Lib.hid hcell1
    have HC2 := Lib.hid hcell2
    have HRA : Hid (∀ k, k < ga.length → (ga[k]?.getD []).length = colsOf ga) := fun k hk => (hs.1.2.2.2.2 k hk).1
    have HRB : Hid (∀ k, k < gb.length → (gb[k]?.getD []).length = colsOf gb) := fun k hk => (hs.2.1.2.2.2.2 k hk).1
    clear ha3 hb3 hcell1 hcell2 hs h0
    go_enter Try.func40, Try.ntmps40
    go_wp2
    go_loopw [6, 7] (fun v i wr => ∃ (k : Nat) (Bs : Nat → Nat) (xs : List Value), k ≤ ga.length ∧ i = .int .i64 k ∧ wr.ownsRow w.heap.size 32 1 v k xs ∧ RowsO w.heap.size wr Bs xs (joinRows ga gb ga.length) k ∧ Below w.heap.size w wr) (fun _ i _ => ga.length - (intOf i).toNat)
    case atStart => exact ⟨0, fun _ => 0, [], Nat.zero_le _, rfl, HO0.out, ⟨rfl, fun j hj => absurd hj (Nat.not_lt_zero _), fun i j hi => absurd hi (Nat.not_lt_zero _)⟩, B0.out⟩
    case round =>
      obtain ⟨k, Bs, xs, hk, rfl, hown, hrows, hbel⟩ := hrel
      have HO := Lib.hid hown
      have HRS := Lib.hid hrows
      have HBE := Lib.hid hbel
      obtain ⟨oa, oc, rfl⟩ := ownsRow_sl hown
      clear hown hrows hbel
      by_cases hlt : k < ga.length
      · go_wp2_with fail
        refine (CG.out _ HBE.out).mono ?_
        rintro e w1 ⟨rfl, hb1⟩
        rw [e0.out]
        have HB1 := Lib.hid hb1
        have hzr := HBE.out.size
        have hz1 := hb1.size
        have HBW := Lib.hid (HBE.out.trans (hb1.mono hzr))
        clear hb1
        obtain ⟨r1, x1, y1⟩ := HC1.out k hlt
        obtain ⟨r2, x2, y2⟩ := HC2.out k (by have := hl.out; omega)
        have n1 := HRA.out k hlt
        have n2 := HRB.out k (by have := hl.out; omega)
        have i1 := (HBW.out.cell (p := ⟨b1, off1 + k, none⟩) hb1').trans x1
        have i2 := (HBW.out.cell (p := ⟨b2, off2 + k, none⟩) hb2').trans x2
        obtain ⟨p2, l2, d2, rfl⟩ := y2.slice
        obtain ⟨p1, l1, d1, rfl⟩ := y1.slice
        have hl2 : l2 = (gb[k]?.getD []).length := by obtain ⟨_, _, e, _⟩ := y2; simp at e; exact e.2.1
        have hl1 : l1 = (ga[k]?.getD []).length := by obtain ⟨_, _, e, _⟩ := y1; simp at e; exact e.2.1
        obtain ⟨bb, ob, rfl, hbb, hl2', hd2, J0⟩ := y2.tail (by omega)
        have hzw : w.heap.size ≤ w1.heap.size := by omega
        have hb1w : b1 < w1.heap.size := by omega
        have hb2w : b2 < w1.heap.size := by omega
        have BA := (Below.refl w1.heap.size w1).alloc (Nat.le_refl _) (.cells #[] 3)
        have I1 := Lib.hid (((y1.below HBW.out (Nat.le_refl _)).mono hzw).below BA.drew (Nat.le_refl _))
        have J1 := J0.below HBW.out (Nat.le_refl _)
        have HOW := Lib.hid (ownsRow_bel HO.out HB1.out)
        have hRSW := Lib.hid (HRS.out.below HB1.out)
        have j2 : (k : Int) < (gb.length : Int) := by have := hl.out; omega
        have j3 : k < gb.length := by have := hl.out; omega
        have j4 : (k : Int) < (ga.length : Int) := by omega
        have j5 : (0 : Int) ≤ (k : Int) := by omega
        have j6 : (1 : Int) ≤ (l2 : Int) := by omega
        have j7 : (l2 : Int) ≤ (d2 : Int) := by omega
        have j8 : (0 : Int) ≤ (l2 : Int) := by omega
        have j9 : max (l2 : Int) 0 = (l2 : Int) := by omega
        obtain ⟨la, hla⟩ : ∃ l, l = ga[k]?.getD [] := ⟨_, rfl⟩
        obtain ⟨lb, hlb⟩ : ∃ l, l = (gb[k]?.getD []).drop 1 := ⟨_, rfl⟩
        rw [← hla] at I1 hl1 n1
        rw [← hlb] at J1
        have hlbl : lb.length + 1 = colsOf gb := by rw [hlb, List.length_drop]; omega
        have HLA := Lib.hid hla
        have HLB := Lib.hid hlb
        have j1 : 1 ≤ l2 := by omega
        have hla8 : la.length ≤ 7 := by omega
        have hlb8 : lb.length ≤ 7 := by omega
        clear y1 y2 J0 BA hla hlb hl2 hl2' hl1 n1 n2 hlbl
        by_cases hd : d2 = 1
        · rw [if_pos hd] at J1
          subst hd
          obtain rfl : l2 = 1 := by omega
          rw [Nat.sub_self] at J1
          have J := Lib.hid J1
          clear J1
          go_wp2
          go_region_held3 (fun w' => w'.cell? ⟨b1, off1 + k, none⟩ = some (.slice p1 l1 d1) ∧ w'.cell? ⟨b2, off2 + k, none⟩ = some (.slice (some ⟨bb, ob, none⟩) 1 1))
            (first | exact ⟨i1, i2⟩ | exact ⟨e1, e2⟩ | exact ⟨f1, f2⟩ | exact ⟨g1, g2⟩ | go_keep)
            (first | (refine step_app_ints _ rfl _ _ rfl w1.heap.size _ [] _ la (World.ownsRow_made (base := w1.heap.size) (e := 3) (size := 1) w1 #[] 0 (Nat.le_refl _) (by decide) rfl).drew (I1.out.ints (by show w1.heap.size ≤ (w1.alloc _).heap.size; simp)) rfl rfl (by simp; omega) (by show w1.heap.size ≤ (w1.alloc _).heap.size; simp) ?_; intro v5 w5 hown5 hg5; rw [List.nil_append] at hown5; have HB5 := Lib.hid (((Below.refl w1.heap.size w1).alloc (Nat.le_refl _) (.cells #[] 3)).drew.grown hg5 (by show w1.heap.size ≤ (w1.alloc _).heap.size; simp) (fun j hj => by simp [Value.ownBlock] at hj; omega)); have e1 := (HB5.out.cell (p := ⟨b1, off1 + k, none⟩) hb1w).trans i1; have e2 := (HB5.out.cell (p := ⟨b2, off2 + k, none⟩) hb2w).trans i2; have HO5 := Lib.hid hown5; have z5 := HB5.out.size; have J5 := Lib.hid (J.out.below HB5.out (by omega))) | (refine step_app_ints w5 rfl _ _ rfl w1.heap.size v5 la _ lb HO5.out (J5.out.ints (by omega)) rfl rfl (by omega) z5 ?_; intro v6 w6 hown6 hg6; obtain ⟨LL, hLL⟩ : ∃ L, L = la ++ lb := ⟨_, rfl⟩; rw [← hLL] at hown6; have HLL := Lib.hid hLL; clear hLL; have HB6 := Lib.hid (HB5.out.grown hg6 z5 (fun j hj => (HO5.out.lt j hj).1)); have f1 := (HB6.out.cell (p := ⟨b1, off1 + k, none⟩) hb1w).trans i1; have f2 := (HB6.out.cell (p := ⟨b2, off2 + k, none⟩) hb2w).trans i2; obtain ⟨va, vc, rfl⟩ := ownsRow_sl hown6; have HO6 := Lib.hid hown6; have z6 := HB6.out.size; have HX := Lib.hid (show (w6.alloc (.cells #[.slice va LL.length vc] 32)).cell? ⟨w6.heap.size, 0, none⟩ = some (.slice va LL.length vc) from by simp); have HO2 := Lib.hid ((ownsRow_bel HOW.out HB6.out).alloc (.cells #[.slice va LL.length vc] 32))) | (refine step_app_row _ rfl _ _ rfl w.heap.size _ k xs w6.heap.size _ _ _ HO2.out HX.out rfl rfl (by omega) (by simp; omega) ?_; intro v7 w7 hown7 hg7; have HO7 := Lib.hid hown7; have HG7 := Lib.hid hg7; have HB7 := Lib.hid (((HBW.out.trans (HB6.out.mono hzw)).alloc (by omega) _).grown hg7 (by simp; omega) (fun j hj => (HO2.out.lt j hj).1)); have g1 := (HB7.out.cell (p := ⟨b1, off1 + k, none⟩) hb1').trans x1; have g2 := (HB7.out.cell (p := ⟨b2, off2 + k, none⟩) hb2').trans x2) | fail)
          go_wp2
          obtain ⟨BB, hBB, _⟩ := rowO_new HO6.out
          go_roundw
          case rel =>
            refine ⟨k + 1, _, _, by omega, by go_num, HO7.out, RowsO.snoc (hRSW.out) HB6.out hzw (by rw [joinRows_get _ _ _ _ hlt, ← HLA.out, ← HLB.out, ← HLL.out]; exact hBB) HO2.out ((Below.refl _ w6).alloc (Nat.le_refl _) _) HG7.out, HB7.out⟩
          case measure => simp [intOf]; omega
        · rw [if_neg hd] at J1
          have J := Lib.hid J1
          clear J1
          go_wp2
          go_region_held3 (fun w' => w'.cell? ⟨b1, off1 + k, none⟩ = some (.slice p1 l1 d1) ∧ w'.cell? ⟨b2, off2 + k, none⟩ = some (.slice (some ⟨bb, ob, none⟩) l2 d2))
            (first | exact ⟨i1, i2⟩ | exact ⟨e1, e2⟩ | exact ⟨f1, f2⟩ | exact ⟨g1, g2⟩ | go_keep)
            (first | (refine step_app_ints _ rfl _ _ rfl w1.heap.size _ [] _ la (World.ownsRow_made (base := w1.heap.size) (e := 3) (size := 1) w1 #[] 0 (Nat.le_refl _) (by decide) rfl).drew (I1.out.ints (by show w1.heap.size ≤ (w1.alloc _).heap.size; simp)) rfl rfl (by simp; omega) (by show w1.heap.size ≤ (w1.alloc _).heap.size; simp) ?_; intro v5 w5 hown5 hg5; rw [List.nil_append] at hown5; have HB5 := Lib.hid (((Below.refl w1.heap.size w1).alloc (Nat.le_refl _) (.cells #[] 3)).drew.grown hg5 (by show w1.heap.size ≤ (w1.alloc _).heap.size; simp) (fun j hj => by simp [Value.ownBlock] at hj; omega)); have e1 := (HB5.out.cell (p := ⟨b1, off1 + k, none⟩) hb1w).trans i1; have e2 := (HB5.out.cell (p := ⟨b2, off2 + k, none⟩) hb2w).trans i2; have HO5 := Lib.hid hown5; have z5 := HB5.out.size; have J5 := Lib.hid (J.out.below HB5.out (by omega))) | (refine step_app_ints w5 rfl _ _ rfl w1.heap.size v5 la _ lb HO5.out (J5.out.ints (by omega)) rfl rfl (by omega) z5 ?_; intro v6 w6 hown6 hg6; obtain ⟨LL, hLL⟩ : ∃ L, L = la ++ lb := ⟨_, rfl⟩; rw [← hLL] at hown6; have HLL := Lib.hid hLL; clear hLL; have HB6 := Lib.hid (HB5.out.grown hg6 z5 (fun j hj => (HO5.out.lt j hj).1)); have f1 := (HB6.out.cell (p := ⟨b1, off1 + k, none⟩) hb1w).trans i1; have f2 := (HB6.out.cell (p := ⟨b2, off2 + k, none⟩) hb2w).trans i2; obtain ⟨va, vc, rfl⟩ := ownsRow_sl hown6; have HO6 := Lib.hid hown6; have z6 := HB6.out.size; have HX := Lib.hid (show (w6.alloc (.cells #[.slice va LL.length vc] 32)).cell? ⟨w6.heap.size, 0, none⟩ = some (.slice va LL.length vc) from by simp); have HO2 := Lib.hid ((ownsRow_bel HOW.out HB6.out).alloc (.cells #[.slice va LL.length vc] 32))) | (refine step_app_row _ rfl _ _ rfl w.heap.size _ k xs w6.heap.size _ _ _ HO2.out HX.out rfl rfl (by omega) (by simp; omega) ?_; intro v7 w7 hown7 hg7; have HO7 := Lib.hid hown7; have HG7 := Lib.hid hg7; have HB7 := Lib.hid (((HBW.out.trans (HB6.out.mono hzw)).alloc (by omega) _).grown hg7 (by simp; omega) (fun j hj => (HO2.out.lt j hj).1)); have g1 := (HB7.out.cell (p := ⟨b1, off1 + k, none⟩) hb1').trans x1; have g2 := (HB7.out.cell (p := ⟨b2, off2 + k, none⟩) hb2').trans x2) | fail)
          go_wp2
          obtain ⟨BB, hBB, _⟩ := rowO_new HO6.out
          go_roundw
          case rel =>
            refine ⟨k + 1, _, _, by omega, by go_num, HO7.out, RowsO.snoc (hRSW.out) HB6.out hzw (by rw [joinRows_get _ _ _ _ hlt, ← HLA.out, ← HLB.out, ← HLL.out]; exact hBB) HO2.out ((Below.refl _ w6).alloc (Nat.le_refl _) _) HG7.out, HB7.out⟩
          case measure => simp [intOf]; omega
      · obtain rfl : k = ga.length := by omega
        have hG := Lib.hid ((ownG_of_rows (g := joinRows ga gb ga.length) (by rw [joinRows_len]; exact HO.out) (by rw [joinRows_len]; exact HRS.out) (Nat.le_refl _)).gridB)
        have hzr := HBE.out.size
        go_wp2_with fail
        refine (specGridValid_any _ (joinRows ga gb ga.length) _ (hG.out)).mono ?_
        rintro e w1 ⟨rfl, hb1⟩
        rw [HJ.out]
        have HB1 := Lib.hid (HBE.out.trans (hb1.mono hzr))
        have hG2 := Lib.hid ((hG.out.below hb1 (Nat.le_refl _)).mono hb1.size)
        clear hb1
        by_cases hj : JoinOk ga gb
        · have HJ2 := Lib.hid hj
          have e2 := Lib.hid (decide_eq_true hj)
          rw [e2.out]
          clear hj
          go_wp2
          go_ret2
          exact ⟨_, by rw [e2.out]; first | done | rfl, by unfold joinAll; rw [if_pos HJ2.out]; exact hG2.out, HB1.out⟩
        · have HJ2 := Lib.hid hj
          have e2 := Lib.hid (decide_eq_false hj)
          rw [e2.out]
          clear hj
          go_wp2
          go_ret2
          exact ⟨_, by rw [e2.out]; first | done | rfl, by unfold joinAll; rw [if_neg HJ2.out]; exact gridB_empty (by omega), HB1.out.alloc HB1.out.size _⟩
  · have hj : Hid (¬ JoinOk ga gb) := fun h => h0 h.1
    have e0 := Lib.hid (decide_eq_false h0)
    have e2 := Lib.hid (decide_eq_false hj.out)
    have e3 : Hid (decide (GridOk []) = false) := decide_eq_false (fun h => absurd h.1 (by simp))
    clear ha3 hb3 h0
    by_cases hg : 0 < ga.length
    · go_enter Try.func40, Try.ntmps40
      go_wp2
      refine wp_loop_rounds 1 ?_
      rw [rounds_succ]
      go_wp2_with fail
      refine (CG.out _ B0.out).mono ?_
      rintro e w1 ⟨rfl, hb1⟩
      rw [e0.out]
      have HB1 := Lib.hid (B0.out.trans (hb1.mono (by simp)))
      have hz1 : w.heap.size ≤ w1.heap.size := HB1.out.size
      clear hb1
      go_wp2_with fail
      refine (specGridValid_any _ [] _ (gridB_empty (by omega))).mono ?_
      rintro e w2 ⟨rfl, hb2⟩
      rw [e3.out]
      have HB2 := Lib.hid (HB1.out.trans (hb2.mono hz1))
      clear hb2
      go_wp2
      go_ret2
      exact ⟨_, by rw [e2.out]; first | done | rfl, by unfold joinAll; rw [if_neg hj.out]; exact gridB_empty (by omega), HB2.out.alloc HB2.out.size _⟩
    · go_enter Try.func40, Try.ntmps40
      go_wp2
      refine wp_loop_rounds 1 ?_
      rw [rounds_succ]
      go_wp2_with fail
      refine (specGridValid_any _ [] _ (gridB_empty (by omega))).mono ?_
      rintro e w2 ⟨rfl, hb2⟩
      rw [e3.out]
      have HB2 := Lib.hid (B0.out.trans (hb2.mono (by simp)))
      clear hb2
      go_wp2
      go_ret2
      exact ⟨_, by rw [e2.out]; first | done | rfl, by unfold joinAll; rw [if_neg hj.out]; exact gridB_empty (by omega), HB2.out.alloc HB2.out.size _⟩

theorem join_small (ga gb : Rows) : (joinAll ga gb).length ≤ 1048576 ∧ ∀ j, j < (joinAll ga gb).length → ((joinAll ga gb)[j]?.getD []).length ≤ 1048576 := by
  unfold joinAll
  split
  · rename_i h
    have hg := h.grid
    have h1 := hg.2.1
    refine ⟨by omega, fun j hj => ?_⟩
    have := (hg.2.2.2.2 j hj).1
    have := hg.2.2.2.1
    omega
  · exact ⟨by simp, fun j hj => by simp⟩
end Go.Proofs.Ytebhbcjioolpeaa
