/-
  Contract of spec.SettingGreedy. No condition but that the slice reads as the list.
-/
import Derived.Test.YtbpcjdhbbighgaaBestK
import Derived.Test.YtbpcjdhbbighgaaLawKit
import Derived.Test.YtbpcjdhbbighgaaPlan2
namespace Go.Proofs.Ytbpcjdhbbighgaa
open Go.RowKit Go.Deep
set_option linter.unusedSimpArgs false
set_option linter.unusedVariables false

/-- the labels' order from one weight down -/
def ordFrom (l : List Quad) : Nat → List Nat
  | 0 => []
  | W + 1 => ((List.range l.length).filter fun k => decide (wOf l k = ((W + 1 : Nat) : Int))) ++ ordFrom l W
theorem orderOf_from (l : List Quad) : orderOf l = ordFrom l 9 := by simp [orderOf, ordFrom]
/-- of one weight, from an index on -/
def restI (l : List Quad) (W i : Nat) : List Nat := ((List.range l.length).drop i).filter fun k => decide (wOf l k = (W : Int))
theorem restI_zero (l : List Quad) (W : Nat) : ordFrom l (W + 1) = restI l (W + 1) 0 ++ ordFrom l W := by rw [ordFrom, restI, List.drop_zero]
theorem restI_end (l : List Quad) (W : Nat) : restI l W l.length = [] := by rw [restI, List.drop_eq_nil_of_le (by simp)]; rfl
theorem restI_next {l : List Quad} {W i : Nat} (hi : i < l.length) : restI l W i = if wOf l i = (W : Int) then i :: restI l W (i + 1) else restI l W (i + 1) := by
  rw [restI, List.drop_eq_getElem_cons (by simpa using hi), List.getElem_range]
  by_cases h : wOf l i = (W : Int)
  · rw [if_pos h, List.filter_cons_of_pos (by simpa using h)]; rfl
  · rw [if_neg h, List.filter_cons_of_neg (by simpa using h)]; rfl
/-- the state of the greedy way: what is still to do leads to the end -/
def GSt (l : List Quad) (rest : List Nat) (st : Plan × List Int) : Prop :=
  rest.foldl (gStep l) st = (orderOf l).foldl (gStep l) (gStart l) ∧ rest.Nodup ∧ (∀ k ∈ rest, k < l.length ∧ st.2[k]?.getD 0 = -1) ∧ st.2.length = l.length
theorem gst_start {l : List Quad} (h : ValidL l) : GSt l (orderOf l) (gStart l) :=
  ⟨rfl, orderOf_nodup l, fun k hk => ⟨(mem_orderOf (valid_w h) k).1 hk, (start_ok l).2.2 k ((mem_orderOf (valid_w h) k).1 hk)⟩, by simp [gStart]⟩
theorem gst_step {l : List Quad} {k : Nat} {rest : List Nat} {st : Plan × List Int} (h : GSt l (k :: rest) st) : GSt l rest (gStep l st k) := by
  obtain ⟨h1, h2, h3, h4⟩ := h
  refine ⟨h1, (List.nodup_cons.1 h2).2, fun j hj => ⟨(h3 j (List.mem_cons_of_mem _ hj)).1, ?_⟩, ?_⟩
  · have hne : j ≠ k := fun e => (List.nodup_cons.1 h2).1 (e ▸ hj)
    show (st.2.set k _)[j]?.getD 0 = -1
    rw [set_other hne]
    exact (h3 j (List.mem_cons_of_mem _ hj)).2
  · show (st.2.set k _).length = _
    rw [List.length_set]; exact h4
theorem set_noop {s : List Int} {i : Nat} {a : Int} (h : i < s.length) (ha : s[i]?.getD 0 = a) : s.set i a = s := by
  refine list_eq (by simp) (fun j hj => ?_)
  by_cases e : j = i
  · subst e; rw [set_same h, ha]
  · rw [set_other e]
/-- the search for a side -/
def SrG (l : List Quad) (i : Nat) (st : Plan × List Int) (j : Nat) (c : Int) (M' : Plan) : Prop :=
  (c = -1 ∧ M' = st.1 ∧ ∀ s : Nat, s < j → ¬ CanSet st.1 (l[i]?.getD q0) (s : Int)) ∨
  ∃ s : Nat, j = s + 1 ∧ s < 4 ∧ c = (s : Int) ∧ CanSet st.1 (l[i]?.getD q0) (s : Int) ∧ (∀ r : Nat, r < s → ¬ CanSet st.1 (l[i]?.getD q0) (r : Int)) ∧ M' = setOn st.1 (l[i]?.getD q0) (s : Int) ((i : Int) + 1)
theorem srg_done {l : List Quad} {i j : Nat} {st : Plan × List Int} {c : Int} {M' : Plan} (h : SrG l i st j c M') (he : 4 ≤ j ∨ 0 ≤ c) : gStep l st i = (M', st.2.set i c) := by
  have hc : c = firstSide st.1 (l[i]?.getD q0) := by
    rcases h with ⟨rfl, _, hn⟩ | ⟨s, _, hs, rfl, hg, hn, _⟩
    · rw [firstSide, find4_none (p := fun side => CanSet st.1 (l[i]?.getD q0) side) (fun s hs => hn s (by omega))]; rfl
    · rw [firstSide, find4_some (p := fun side => CanSet st.1 (l[i]?.getD q0) side) hs hg hn]; rfl
  have hM : M' = next st.1 (l[i]?.getD q0) c ((i : Int) + 1) := by
    rcases h with ⟨rfl, rfl, _⟩ | ⟨s, _, _, rfl, _, _, rfl⟩
    · rw [next, if_pos rfl]
    · rw [next, if_neg (by omega)]
  rw [gStep, ← hc, ← hM]

theorem MapAt.setCell {R : Option Nat} {w : World} {v : Value} {M : Plan} (h : MapAt R w v M) {b o : Nat} (hR : R = some b) (x : Value) : MapAt R (w.setCell ⟨b, o, none⟩ x) v M := by
  obtain ⟨g, off, cap, rfl, h1, h2, h3, h4, h5⟩ := h
  refine ⟨g, off, cap, rfl, h1, h2, by simpa [World.setCell] using h3, h4, fun j hj => ?_⟩
  rw [World.cell?_setCell_other _ _ _ _ (by intro e; exact h4 (by rw [hR]; simp at e; rw [e.1]))]
  exact h5 j hj
theorem own_block {lo hi : Nat} {w : World} {oa : Option Addr} {n oc : Nat} {l : List Int} (h : Own lo hi w (.slice oa n oc) l) : ∃ R : Option Nat, (∀ g, R = some g → g < hi) ∧ (0 < l.length → ∀ b off, oa = some ⟨b, off, none⟩ → R = some b) := by
  rcases h with ⟨rfl, _⟩ | ⟨b, off, cap, t, n', f, e, h1, h2, h3, h4, _⟩
  · exact ⟨none, fun g hg => by simp at hg, fun h => by simp at h⟩
  · refine ⟨some b, fun g hg => by simp at hg; omega, fun _ b' off' hb => ?_⟩
    simp at e
    rw [e.1] at hb
    simp at hb
    rw [hb.1]
theorem own_at {lo hi : Nat} {w : World} {oa : Option Addr} {n oc : Nat} {l : List Int} (h : Own lo hi w (.slice oa n oc) l) {k : Nat} (hk : k < l.length) :
    ∃ b off, oa = some ⟨b, off, none⟩ ∧ lo ≤ b ∧ b < hi ∧ w.cell? ⟨b, off + k, none⟩ = some (.int .i64 (l[k]?.getD 0)) ∧ w.frozen? ⟨b, off + k, none⟩ = false ∧ ∀ z, Own lo hi (w.setCell ⟨b, off + k, none⟩ (.int .i64 z)) (.slice oa n oc) (l.set k z) := by
  obtain ⟨b, off, cap, e, h1, h2, h3, h4, h5⟩ := own_set h hk 0
  simp at e
  refine ⟨b, off, e.1, h1, h2, h3, h4, fun z => ?_⟩
  obtain ⟨b', off', cap', e', _, _, _, _, h5'⟩ := own_set h hk z
  simp at e'
  have := e.1.symm.trans e'.1
  simp at this
  rw [this.1, this.2]
  exact h5'

def greedyOut (l : List Quad) : List Int := if ValidL l then greedyOf l else []
/-- what the loops of the greedy way keep -/
structure GKeep (l : List Quad) (w : World) (N : Nat) (R : Option Nat) (oa : Option Addr) (oc : Nat) (pl : Value) (M : Plan) (s : List Int) (W : World) : Prop where
  own : Own w.heap.size N W (.slice oa l.length oc) s
  map : MapAt R W pl M
  bel : Below w.heap.size w W
  size : N ≤ W.heap.size
theorem GKeep.below {l : List Quad} {w : World} {N : Nat} {R : Option Nat} {oa : Option Addr} {oc : Nat} {pl : Value} {M : Plan} {s : List Int} {W W' : World} (h : GKeep l w N R oa oc pl M s W) (hN : w.heap.size ≤ N) (hb : Below W.heap.size W W') : GKeep l w N R oa oc pl M s W' :=
  ⟨h.own.below hb h.size, h.map.below hb, h.bel.trans (hb.mono (Nat.le_trans hN h.size)), Nat.le_trans h.size hb.size⟩

set_option maxHeartbeats 4000000 in
set_option maxRecDepth 100000 in
theorem specSettingGreedy_any (v : Value) (l : List Quad) (w : World) (h : Quads w v l) :
    Calls Try.prog 23 #[v] w fun e w' => ∃ v', e = .returned (.tuple #[v', .bool (decide (ValidL l))]) ∧ Own w.heap.size w'.heap.size w' v' (greedyOut l) ∧ Below w.heap.size w w' := by
  obtain ⟨a, lc, rfl, h1, h2, h3⟩ := id h
  have H := Lib.hid h.quadsB
  clear h h3
  by_cases hs : ValidL l
  · have HS := Lib.hid hs
    have hl6 := hs.1
    have HW : Hid (greedyOut l = greedyOf l) := if_pos hs
    clear hs
    go_enter Try.func23, Try.ntmps23
    go_wp2_with fail
    refine (specLabelsValid_any _ l _ ((H.out.below ((Below.refl w.heap.size w).alloc (Nat.le_refl _) _) (Nat.le_refl _)).quads (by simp))).mono ?_
    rintro e w1 ⟨rfl, hb⟩
    have hs1 := hb.size
    simp at hs1
    have HB := Lib.hid ((al (Below.refl w.heap.size w) _).trans (hb.mono (by simp)))
    have O1 := Lib.hid (ownsRow_kb (World.ownsRow_made (base := w.heap.size) (e := 3) (size := 1) w #[] 0 (Nat.le_refl _) (by decide) rfl) hb)
    clear hb
    rw [decide_eq_true HS.out]
    go_wp2_with fail
    go_loopw [4, 5] (fun x i wr => ∃ m : Nat, m ≤ l.length ∧ i = .int .i64 m ∧ wr.ownsRow w.heap.size 3 1 x (List.replicate m (-1 : Int)).length ((List.replicate m (-1 : Int)).map (Value.int .i64)) ∧ Below w.heap.size w wr) (fun _ i _ => l.length - (intOf i).toNat)
    case atStart => exact ⟨0, Nat.zero_le _, rfl, by simpa using O1.out, HB.out⟩
    case round =>
      clear O1 HB
      obtain ⟨m, hm, rfl, hown, hbel⟩ := hrel
      have hsr := hbel.size
      by_cases hml : m < l.length
      · have hml' : (m : Int) < (l.length : Int) := by omega
        have E := Lib.hid (repl_snoc m)
        have hfl : (List.replicate m (-1 : Int)).length ≤ 1099511627776 := by simp; omega
        obtain ⟨X, hX⟩ : ∃ X, X = List.replicate m (-1 : Int) := ⟨_, rfl⟩
        rw [← hX] at hown hfl E
        clear hX
        go_wp2_with (at_builtin; refine app_int w wr rfl _ _ rfl w.heap.size _ X (-1) hown rfl rfl hfl hsr hbel ?_; intro v' w4 hown1 hbel1)
        go_roundw
        case rel => exact ⟨m + 1, by omega, by go_num, by rw [← E.out]; exact hown1, hbel1⟩
        case measure => simp [intOf]; omega
      · obtain rfl : m = l.length := by omega
        have hO := own_of_ownsRow hown (Nat.le_refl _)
        obtain ⟨oa, oc, hx, _, _, hrest⟩ := hO.ints
        clear hrest
        subst hx
        rw [List.length_replicate] at hO ⊢
        obtain ⟨R, hR1, hR2⟩ := own_block hO
        have HO := Lib.hid hO
        have HR2 := Lib.hid hR2
        have HB := Lib.hid hbel
        clear hown hO hbel hR2
        go_wp2_with fail
        refine (l8Map_any _ l _ ((H.out.below HB.out (Nat.le_refl _)).quads hsr) HS.out.2).mono ?_
        rintro e w2 ⟨v2, rfl, hO2, hb2⟩
        obtain ⟨N, hN⟩ : ∃ N, N = wr.heap.size := ⟨_, rfl⟩
        have K2 : Hid (GKeep l w N R oa oc v2 (mPts l) (gStart l).2 w2) := by
          rw [hN]
          exact ⟨HO.out.below hb2 (Nat.le_refl _), hO2.mapAt (w' := w2) (Nat.le_refl _) (fun g hg => hR1 g hg), HB.out.trans (hb2.mono hsr), hb2.size⟩
        have hwN : w.heap.size ≤ N := by omega
        have G0 : Hid (GSt l (ordFrom l 9) (gStart l)) := by show GSt _ _ _; rw [← orderOf_from]; exact gst_start HS.out
        clear hN hb2 hO2 HO HB hR1 hsr hml hm
        go_wp2_with fail
        clear wr
        go_loopw [6, 7, 8, 9, 10, 11] (fun pl wt _ _ _ _ W => ∃ (g : Nat) (st : Plan × List Int), g ≤ 9 ∧ wt = .int .i64 g ∧ GSt l (ordFrom l g) st ∧ GKeep l w N R oa oc pl st.1 st.2 W) (fun _ wt _ _ _ _ _ => (intOf wt).toNat)
        case atStart => exact ⟨9, gStart l, Nat.le_refl _, rfl, G0.out, K2.out⟩
        case round =>
          clear G0 K2 w2
          obtain ⟨g, st, hg9, rfl, hG, hK⟩ := hrel
          have GG := Lib.hid hG
          have KK := Lib.hid hK
          clear hG hK
          rcases Nat.eq_zero_or_pos g with rfl | hg0
          · have FE : Hid (st.2 = greedyOut l) := by
              show _ = _
              have := GG.out.1
              rw [HW.out, greedyOf, ← this]; rfl
            have KO := Lib.hid KK.out.own
            have KB := Lib.hid KK.out.bel
            have KZ := KK.out.size
            clear GG KK
            go_wp2_with fail
            go_ret2
            exact ⟨_, tup_bool (decide_eq_true HS.out).symm, by rw [← FE.out]; exact KO.out.mono (Nat.le_refl _) KZ, KB.out⟩
          · obtain ⟨W0, rfl⟩ : ∃ W0, g = W0 + 1 := ⟨g - 1, by omega⟩
            replace GG : Hid (GSt l (restI l (W0 + 1) 0 ++ ordFrom l W0) st) := by show GSt _ _ _; rw [← restI_zero]; exact GG.out
            have hg1 : (1 : Int) ≤ ((W0 + 1 : Nat) : Int) := by omega
            obtain ⟨W1, hW1⟩ : ∃ x, x = W0 + 1 := ⟨_, rfl⟩
            rw [← hW1] at GG hg1 hg9 ⊢
            have gw : IntKind.i64.wrap ((W1 : Int) - 1) = (W0 : Int) := by rw [IntWalk.i64_in _ (by omega)]; omega
            have HW1 := Lib.hid hW1
            obtain ⟨wo, hwo⟩ : ∃ wo : World, wo = wr := ⟨_, rfl⟩
            rw [← hwo] at KK ⊢
            clear hwo hg0 hW1
            clear wr
            go_wp2_with fail
            go_loopw [6, 8, 9, 10, 11] (fun pl i _ _ _ W => ∃ (k : Nat) (st : Plan × List Int), k ≤ l.length ∧ i = .int .i64 k ∧ GSt l (restI l W1 k ++ ordFrom l W0) st ∧ GKeep l w N R oa oc pl st.1 st.2 W) (fun _ i _ _ _ _ => l.length - (intOf i).toNat)
            case atStart => exact ⟨0, st, Nat.zero_le _, rfl, GG.out, KK.out⟩
            case round =>
              clear GG KK wo st
              obtain ⟨k, st, hk, rfl, hG, hK⟩ := hrel
              have GG := Lib.hid hG
              have KK := Lib.hid hK
              clear hG hK
              by_cases hkl : k < l.length
              · have hkl' : (k : Int) < (l.length : Int) := by omega
                obtain ⟨_, _, he, _, _, h3⟩ := H.out
                simp only [Value.slice.injEq] at he
                obtain ⟨rfl, _, rfl⟩ := he
                obtain ⟨b, off, rfl, hb, hcell⟩ := h3 (by omega)
                have HC := Lib.hid (hcell k hkl)
                have hq1 := (HS.out.2 k hkl).1
                have hrn := restI_next (l := l) (W := W1) hkl
                have hwo : wOf l k = (l[k]?.getD q0).2.2.2 := rfl
                have SR0 : Hid (SrG l k st 0 (-1) st.1) := .inl ⟨rfl, rfl, fun s hs => by omega⟩
                obtain ⟨q, hqe⟩ : ∃ q, q = l[k]?.getD q0 := ⟨_, rfl⟩
                rw [← hqe] at hq1 HC hwo
                have HQ := Lib.hid hq1
                have HQE := Lib.hid hqe
                have x3 : (0 : Int) ≤ (k : Int) := by omega
                obtain ⟨wo, hwo'⟩ : ∃ wo : World, wo = wr := ⟨_, rfl⟩
                rw [← hwo'] at KK ⊢
                clear hcell h3 hq1 hqe hwo'
                clear wr
                by_cases hwt : q.2.2.2 = (W1 : Int)
                · rw [if_pos (hwo.trans hwt)] at hrn
                  have GG2 : Hid (GSt l (k :: (restI l W1 (k + 1) ++ ordFrom l W0)) st) := by show GSt _ _ _; rw [← List.cons_append, ← hrn]; exact GG.out
                  have GN := Lib.hid (gst_step GG2.out)
                  have hst1 := (GG2.out.2.2.1 k (List.mem_cons_self ..)).2
                  have hstl := GG2.out.2.2.2
                  have NO := Lib.hid (set_noop (a := -1) (by rw [hstl]; exact hkl) hst1)
                  have twt : (q.2.2.2 == (W1 : Int)) = true := by simpa using hwt
                  have HST := Lib.hid hst1
                  have KK0 : Hid (GKeep l w N R oa oc u6 st.1 (st.2.set k (-1)) wo) := by show GKeep _ _ _ _ _ _ _ _ _ _; rw [NO.out]; exact KK.out
                  clear GG GG2 hrn hwo hwt hst1 KK
                  go_wp2_with fail
                  go_loopw [6, 9, 10, 11] (fun pl j _ _ W => ∃ (j0 : Nat) (c0 : Int) (M' : Plan), j0 ≤ 4 ∧ j = .int .i64 j0 ∧ (c0 = -1 ∨ (0 ≤ c0 ∧ c0 ≤ 3)) ∧ SrG l k st j0 c0 M' ∧ GKeep l w N R oa oc pl M' (st.2.set k c0) W) (fun _ j _ _ _ => 4 - (intOf j).toNat)
                  case atStart => exact ⟨0, -1, st.1, by omega, rfl, .inl rfl, SR0.out, KK0.out⟩
                  case round =>
                    clear SR0 KK0 wo
                    obtain ⟨j0, c0, M', hj, rfl, hc01, hsr, hK⟩ := hrel
                    have KK := Lib.hid hK
                    have SR := Lib.hid hsr
                    obtain ⟨ob, oo, hoa, ob1, ob2, oc1, oc2, oc3⟩ := own_at hK.own (k := k) (by rw [List.length_set, hstl]; exact hkl)
                    subst hoa
                    rw [set_same (by rw [hstl]; exact hkl)] at oc1
                    have hR := HR2.out (by simp; omega) ob oo rfl
                    have OC3 := Lib.hid oc3
                    obtain ⟨d0, d1, d2, d3⟩ := HC.out.below hK.bel hb
                    have hwr := hK.bel.size
                    obtain ⟨pb, po, pc, hpl, _, _, _, _, _⟩ := id hK.map
                    subst hpl
                    have HR := Lib.hid hR
                    clear hK oc3 hR
                    by_cases hex : j0 < 4 ∧ c0 = -1
                    · obtain ⟨hj4, rfl⟩ := hex
                      have hs4 : M' = st.1 ∧ ∀ s : Nat, s < j0 → ¬ CanSet st.1 (l[k]?.getD q0) (s : Int) := by
                        rcases hsr with ⟨_, h1, h2⟩ | ⟨s, _, _, h, _⟩
                        · exact ⟨h1, h2⟩
                        · omega
                      obtain ⟨hM', hng⟩ := hs4
                      subst hM'
                      have HNG := Lib.hid hng
                      have hj4' : (j0 : Int) < 4 := by omega
                      have e8 : IntKind.i64.wrap ((k : Int) + 1) = (k : Int) + 1 := IntWalk.i64_in _ (by omega)
                      have neg1 : (-1 : Int) < 0 := by omega
                      clear hsr hng hc01 SR
                      go_wp2_with fail
                      refine (l8Set_any _ st.1 q (j0 : Int) ((k : Int) + 1) wr KK.out.map.mapB HQ.out (by omega) (by omega) (by omega)).mono ?_
                      rintro e w5 ⟨na, nn, nc, rfl, hown5, hb5⟩
                      have K5 := Lib.hid (KK.out.below hwN hb5)
                      have HN5 : Hid (CanSet st.1 q (j0 : Int) → MapAt R w5 (.slice na nn nc) (setOn st.1 q (j0 : Int) ((k : Int) + 1))) := fun hc => (hown5 hc).mapAt (w' := w5) (Nat.le_refl _) (fun g hg => by
                        rw [HR.out] at hg
                        simp at hg
                        have := KK.out.size
                        omega)
                      have f1 := (hb5.cell (p := ⟨ob, oo + k, none⟩) (by have := KK.out.size; show ob < _; omega)).trans oc1
                      have f2 := (World.frozen?_of_block (a := ⟨ob, oo + k, none⟩) (hb5.block ob (by have := KK.out.size; omega))).trans oc2
                      have hob5 : w.heap.size ≤ ob := ob1
                      clear hb5 hown5 d0 d1 d2 d3 KK oc1 oc2 OC3
                      by_cases hc : CanSet st.1 q (j0 : Int)
                      · rw [decide_eq_true hc]
                        have SN : Hid (SrG l k st (j0 + 1) (j0 : Int) (setOn st.1 q (j0 : Int) ((k : Int) + 1))) := .inr ⟨j0, rfl, hj4, rfl, by rw [← HQE.out]; exact hc, HNG.out, by rw [← HQE.out]⟩
                        have HNM := Lib.hid (HN5.out hc)
                        have KS : Hid (GKeep l w N R (some ⟨ob, oo, none⟩) oc (.slice na nn nc) (setOn st.1 q (j0 : Int) ((k : Int) + 1)) (st.2.set k (j0 : Int)) (w5.setCell ⟨ob, oo + k, none⟩ (.int .i64 (j0 : Int)))) := by
                          obtain ⟨ob', oo', e', _, _, _, _, g3⟩ := own_at K5.out.own (k := k) (by rw [List.length_set, hstl]; exact hkl)
                          simp at e'
                          obtain ⟨rfl, rfl⟩ := e'
                          have g4 := g3 (j0 : Int)
                          rw [List.set_set] at g4
                          exact ⟨g4, HNM.out.setCell HR.out _, K5.out.bel.setCell (p := ⟨ob, oo + k, none⟩) ob1 _, by simpa [World.setCell] using K5.out.size⟩
                        clear hc HN5 HNG HNM K5
                        go_wp2_with fail
                        go_roundw
                        case rel => exact ⟨j0 + 1, (j0 : Int), _, by omega, by go_num, .inr ⟨by omega, by omega⟩, SN.out, KS.out⟩
                        case measure => simp [intOf]; omega
                      · rw [decide_eq_false hc]
                        have SN : Hid (SrG l k st (j0 + 1) (-1) st.1) := .inl ⟨rfl, rfl, fun s hs => by
                          by_cases e : s = j0
                          · subst e; rw [← HQE.out]; exact hc
                          · exact HNG.out s (by omega)⟩
                        clear hc HN5 HNG f1 f2
                        go_wp2_with fail
                        go_roundw
                        case rel => exact ⟨j0 + 1, -1, _, by omega, by go_num, .inl rfl, SN.out, K5.out⟩
                        case measure => simp [intOf]; omega
                    · have GE := Lib.hid (srg_done hsr (by omega))
                      have KF : Hid (GKeep l w N R (some ⟨ob, oo, none⟩) oc (.slice (some ⟨pb, po, none⟩) 100 pc) (gStep l st k).1 (gStep l st k).2 wr) := by show GKeep _ _ _ _ _ _ _ _ _ _; rw [GE.out]; exact KK.out
                      have hj4c : (j0 = 4 ∨ (j0 < 4 ∧ ¬ c0 < 0)) := by omega
                      clear hsr hex hc01 KK SR
                      rcases hj4c with rfl | ⟨hj4, hc0⟩
                      all_goals
                        try (have hj4' : (j0 : Int) < 4 := by omega)
                        go_wp2_with fail
                        go_roundw
                        case rel => exact ⟨k + 1, _, by omega, by go_num, GN.out, KF.out⟩
                        case measure => simp [intOf]; omega
                · rw [if_neg (fun e => hwt (hwo.symm.trans e))] at hrn
                  have GG2 : Hid (GSt l (restI l W1 (k + 1) ++ ordFrom l W0) st) := by show GSt _ _ _; rw [← hrn]; exact GG.out
                  have twt : (q.2.2.2 == (W1 : Int)) = false := by simpa using hwt
                  obtain ⟨d0, d1, d2, d3⟩ := HC.out.below KK.out.bel hb
                  clear GG hrn hwo hwt SR0
                  go_wp2_with fail
                  refine wp_loop_rounds 1 ?_
                  rw [rounds_succ]
                  go_wp2_with fail
                  go_roundw
                  case rel => exact ⟨k + 1, st, by omega, by go_num, GG2.out, KK.out⟩
                  case measure => simp [intOf]; omega
              · obtain rfl : k = l.length := by omega
                have GG2 : Hid (GSt l (ordFrom l W0) st) := by
                  have := GG.out
                  rw [restI_end, List.nil_append] at this
                  exact this
                clear GG hkl
                go_wp2_with fail
                go_roundw
                case rel => exact ⟨W0, st, by have := HW1.out; omega, by go_num, GG2.out, KK.out⟩
                case measure => simp [intOf]; have := HW1.out; omega
  · have HS := Lib.hid hs
    have HW : Hid (greedyOut l = []) := if_neg hs
    clear hs
    go_enter Try.func23, Try.ntmps23
    go_wp2_with fail
    refine (specLabelsValid_any _ l _ ((H.out.below ((Below.refl w.heap.size w).alloc (Nat.le_refl _) _) (Nat.le_refl _)).quads (by simp))).mono ?_
    rintro e w1 ⟨rfl, hb⟩
    have HB := Lib.hid ((al (Below.refl w.heap.size w) _).trans (hb.mono (by simp)))
    clear hb
    rw [decide_eq_false HS.out]
    go_wp2_with fail
    go_ret2
    exact ⟨_, tup_bool (decide_eq_false HS.out).symm, by rw [HW.out]; exact .inl ⟨rfl, _, _, rfl, by omega⟩, HB.out⟩
end Go.Proofs.Ytbpcjdhbbighgaa
