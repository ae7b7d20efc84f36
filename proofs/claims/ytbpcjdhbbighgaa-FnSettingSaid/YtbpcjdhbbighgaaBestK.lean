/-
  Contract of the reference's SettingBest. No condition but that the slice reads as the list.
-/
import Derived.Test.YtbpcjdhbbighgaaRec
import Derived.Test.YtbpcjdhbbighgaaEachKit
namespace Go.Proofs.Ytbpcjdhbbighgaa
open Go.RowKit Go.Deep Go.Sort
set_option linter.unusedVariables false
set_option linter.unusedSimpArgs false

def GoodS (wb : Bool) (l : List Quad) (n k : Nat) (M : Plan) (j : Nat) : Prop := CanSet M (l[k]?.getD q0) (j : Int) ∧ wtB wb (l[k]?.getD q0) + bst (wtB wb) l n (k + 1) (setOn M (l[k]?.getD q0) (j : Int) ((k : Int) + 1)) = bst (wtB wb) l (n + 1) k M
theorem find4_none {p : Int → Prop} [DecidablePred p] (h : ∀ j : Nat, j < 4 → ¬ p (j : Int)) : ([0, 1, 2, 3] : List Int).find? (fun a => decide (p a)) = none := by
  have h0 : ¬ p 0 := h 0 (by omega)
  have h1 : ¬ p 1 := h 1 (by omega)
  have h2 : ¬ p 2 := h 2 (by omega)
  have h3 : ¬ p 3 := h 3 (by omega)
  simp [List.find?_cons, h0, h1, h2, h3]
theorem find4_some {p : Int → Prop} [DecidablePred p] {j : Nat} (hj : j < 4) (hp : p (j : Int)) (h : ∀ i : Nat, i < j → ¬ p (i : Int)) : ([0, 1, 2, 3] : List Int).find? (fun a => decide (p a)) = some (j : Int) := by
  rcases (show j = 0 ∨ j = 1 ∨ j = 2 ∨ j = 3 by omega) with rfl | rfl | rfl | rfl
  · have h0 : p 0 := hp
    simp [List.find?_cons, h0]
  · have h0 : ¬ p 0 := h 0 (by omega)
    have h1 : p 1 := hp
    simp [List.find?_cons, h0, h1]
  · have h0 : ¬ p 0 := h 0 (by omega)
    have h1 : ¬ p 1 := h 1 (by omega)
    have h2 : p 2 := hp
    simp [List.find?_cons, h0, h1, h2]
  · have h0 : ¬ p 0 := h 0 (by omega)
    have h1 : ¬ p 1 := h 1 (by omega)
    have h2 : ¬ p 2 := h 2 (by omega)
    have h3 : p 3 := hp
    simp [List.find?_cons, h0, h1, h2, h3]
theorem chosen_none {wb : Bool} {l : List Quad} {n k : Nat} {M : Plan} (h : ∀ j, j < 4 → ¬ GoodS wb l n k M j) : chosen (wtB wb) l n k M = -1 := by
  have e := find4_none (p := fun side => CanSet M (l[k]?.getD q0) side ∧ wtB wb (l[k]?.getD q0) + bst (wtB wb) l n (k + 1) (setOn M (l[k]?.getD q0) side ((k : Int) + 1)) = bst (wtB wb) l (n + 1) k M) h
  unfold chosen
  exact congrArg (fun x => Option.getD x (-1)) e
theorem chosen_some {wb : Bool} {l : List Quad} {n k : Nat} {M : Plan} {j : Nat} (hj : j < 4) (hg : GoodS wb l n k M j) (h : ∀ i, i < j → ¬ GoodS wb l n k M i) : chosen (wtB wb) l n k M = (j : Int) := by
  have e := find4_some (p := fun side => CanSet M (l[k]?.getD q0) side ∧ wtB wb (l[k]?.getD q0) + bst (wtB wb) l n (k + 1) (setOn M (l[k]?.getD q0) side ((k : Int) + 1)) = bst (wtB wb) l (n + 1) k M) hj hg h
  unfold chosen
  exact congrArg (fun x => Option.getD x (-1)) e
/-- what the search for a side has found so far -/
def Srch (wb : Bool) (l : List Quad) (n k : Nat) (M : Plan) (j : Nat) (c : Int) (M' : Plan) : Prop :=
  (c = -1 ∧ M' = M ∧ ∀ i, i < j → ¬ GoodS wb l n k M i) ∨ ∃ s : Nat, j = s + 1 ∧ s < 4 ∧ c = (s : Int) ∧ GoodS wb l n k M s ∧ (∀ i, i < s → ¬ GoodS wb l n k M i) ∧ M' = setOn M (l[k]?.getD q0) (s : Int) ((k : Int) + 1)
theorem srch_done {wb : Bool} {l : List Quad} {n k : Nat} {M : Plan} {j : Nat} {c : Int} {M' : Plan} (h : Srch wb l n k M j c M') (he : 4 ≤ j ∨ 0 ≤ c) : c = chosen (wtB wb) l n k M ∧ M' = next M (l[k]?.getD q0) (chosen (wtB wb) l n k M) ((k : Int) + 1) := by
  rcases h with ⟨rfl, rfl, h⟩ | ⟨s, rfl, hs, rfl, hg, h, rfl⟩
  · have : chosen (wtB wb) l n k M' = -1 := chosen_none fun i hi => h i (by omega)
    rw [this]; exact ⟨rfl, rfl⟩
  · have : chosen (wtB wb) l n k M = (s : Int) := chosen_some hs hg h
    rw [this]; exact ⟨rfl, by rw [next, if_neg (by omega)]⟩
/-- v reads as the map M, in a block that is not R -/
def MapAt (R : Option Nat) (w : World) (v : Value) (M : Plan) : Prop :=
  ∃ b off cap, v = .slice (some ⟨b, off, none⟩) 100 cap ∧ 100 ≤ cap ∧ cap ≤ 9223372036854775807 ∧ b < w.heap.size ∧ some b ≠ R ∧ ∀ j, j < 100 → w.cell? ⟨b, off + j, none⟩ = some (.int .i64 (M j))
theorem MapAt.mapB {R : Option Nat} {w : World} {v : Value} {M : Plan} (h : MapAt R w v M) : MapB w.heap.size w v M := by
  obtain ⟨b, off, cap, rfl, h1, h2, h3, _, h4⟩ := h
  exact ⟨b, off, cap, rfl, h1, h2, h3, h4⟩
theorem MapAt.below {R : Option Nat} {w w' : World} {v : Value} {M : Plan} (h : MapAt R w v M) (hb : Below w.heap.size w w') : MapAt R w' v M := by
  obtain ⟨b, off, cap, rfl, h1, h2, h3, hr, h4⟩ := h
  exact ⟨b, off, cap, rfl, h1, h2, Nat.lt_of_lt_of_le h3 hb.size, hr, fun j hj => (hb.cell (p := ⟨b, off + j, none⟩) h3).trans (h4 j hj)⟩
theorem OwnM.mapAt {lo hi : Nat} {w w' : World} {v : Value} {M : Plan} {R : Option Nat} (h : OwnM lo hi w v M) (hh : hi ≤ w.heap.size) (hR : ∀ g, R = some g → g < lo) : MapAt R w v M := by
  obtain ⟨b, off, cap, t, n, f, rfl, h1, h2, h3, h4, h5, h6, h7⟩ := h
  exact ⟨b, off, cap, rfl, h1, h2, by omega, fun e => by have := hR b e.symm; omega, fun j hj => by rw [h5.cell (by omega), h7 j hj]⟩
theorem MapAt.grown {R : Option Nat} {w w' : World} {v sv v' : Value} {M : Plan} {N : Nat} (h : MapAt R w v M) (hg : w.grownBy w' R) (hx : Ext N sv v') (hsv : sv.ownBlock = R) (hN : w.heap.size ≤ N) : MapAt v'.ownBlock w' v M := by
  obtain ⟨b, off, cap, rfl, h1, h2, h3, hr, h4⟩ := h
  refine ⟨b, off, cap, rfl, h1, h2, Nat.lt_of_lt_of_le h3 hg.size, ?_, fun j hj => (World.cell?_of_block (a := ⟨b, off + j, none⟩) (hg.block b h3 hr)).trans (h4 j hj)⟩
  rcases hx.row with e | ⟨g, e1, e2⟩
  · rw [e, hsv]; exact hr
  · rw [e1]; intro e; simp at e; omega

/-- what SettingBest hands back -/
def bestOut (l : List Quad) : List Int := if ValidL l then bestAll (wtB true) l else []
set_option maxHeartbeats 4000000 in
set_option maxRecDepth 100000 in
theorem specSettingBest_any (v : Value) (l : List Quad) (w : World) (h : Quads w v l) :
    Calls Try.prog 47 #[v] w fun e w' => ∃ v', e = .returned (.tuple #[v', .bool (decide (ValidL l))]) ∧ Own w.heap.size w'.heap.size w' v' (bestOut l) ∧ Below w.heap.size w w' := by
  obtain ⟨la, lc, rfl, h1, h2, h3⟩ := id h
  have H := Lib.hid h.quadsB
  clear h h3
  by_cases hs : ValidL l
  · have HS := Lib.hid hs
    have hl6 := hs.1
    have HW : Hid (bestOut l = bestAll (wtB true) l) := if_pos hs
    have BB : Hid (∀ n k M, k + n = l.length → 0 ≤ bst (wtB true) l n k M ∧ bst (wtB true) l n k M ≤ 9 * (n : Int)) := fun n k M hk => bst_bound true hs n k M hk
    clear hs
    go_enter Try.func47, Try.ntmps47
    go_wp2_with fail
    refine (specLabelsValid_any _ l _ ((H.out.below ((Below.refl w.heap.size w).alloc (Nat.le_refl _) _) (Nat.le_refl _)).quads (by simp))).mono ?_
    rintro e w1 ⟨rfl, hb⟩
    have hs1 := hb.size
    simp at hs1
    have HB := Lib.hid ((al (Below.refl w.heap.size w) _).trans (hb.mono (by simp)))
    have O1 := Lib.hid (ownsRow_kb (World.ownsRow_made (base := w.heap.size) (e := 3) (size := 1) w #[] 0 (Nat.le_refl _) (by decide) rfl) hb)
    clear hb
    rw [decide_eq_true HS.out]
    go_wp2_with fail
    refine (l8Map_any _ l _ ((H.out.below HB.out (Nat.le_refl _)).quads (by omega)) HS.out.2).mono ?_
    rintro e w2 ⟨v2, rfl, hO2, hb2⟩
    have hs2 := hb2.size
    have HB2 := Lib.hid (HB.out.trans (hb2.mono (by omega)))
    have O2 := Lib.hid (ownsRow_kb O1.out hb2)
    have M2 : Hid (MapAt (some w.heap.size) w2 v2 (mPts l)) := hO2.mapAt (w' := w2) (Nat.le_refl _) (fun g hg => by simp at hg; omega)
    clear hb2 hO2 O1 HB
    go_wp2_with fail
    go_loopw [4, 5, 6, 7, 8, 9, 10, 11] (fun out pl i _ _ _ _ _ wr => ∃ (k : Nat) (pre : List Int) (M : Plan), k ≤ l.length ∧ i = .int .i64 k ∧ pre.length = k ∧ bestAll (wtB true) l = pre ++ bestOf (wtB true) l (l.length - k) k M ∧ wr.ownsRow w.heap.size 3 1 out pre.length (pre.map (Value.int .i64)) ∧ MapAt out.ownBlock wr pl M ∧ w1.heap.size ≤ wr.heap.size ∧ Below w.heap.size w wr) (fun _ _ i _ _ _ _ _ _ => l.length - (intOf i).toNat)
    case atStart => exact ⟨0, [], mPts l, Nat.zero_le _, rfl, rfl, rfl, by simpa using O2.out, M2.out, hs2, HB2.out⟩
    case round =>
      clear O2 M2 HB2
      obtain ⟨k, pre, M, hk, rfl, hpre, hbest, hown, hmap, hsz, hbel⟩ := hrel
      obtain ⟨oa, oc, rfl⟩ := ownsRow_slice hown
      have HP := Lib.hid hpre
      have HBE := Lib.hid hbest
      have HO := Lib.hid hown
      have HM := Lib.hid hmap
      have HB := Lib.hid hbel
      clear hbest hown hbel
      by_cases hlt : k < l.length
      · obtain ⟨n, hn⟩ : ∃ n, n + 1 + k = l.length := ⟨l.length - k - 1, by omega⟩
        have HN := Lib.hid hn
        have hn5 : n ≤ 5 := by omega
        have hk6 : k ≤ 5 := by omega
        obtain ⟨_, _, he, _, _, h3⟩ := H.out
        simp only [Value.slice.injEq] at he
        obtain ⟨rfl, _, rfl⟩ := he
        obtain ⟨b, off, rfl, hb, hcell⟩ := h3 (by omega)
        have HC := Lib.hid (hcell k hlt)
        have hq1 := (HS.out.2 k hlt).1
        obtain ⟨q, hqe⟩ : ∃ q, q = l[k]?.getD q0 := ⟨_, rfl⟩
        rw [← hqe] at hq1 HC
        have HQ := Lib.hid hq1
        have HQE := Lib.hid hqe
        have x1 : (k : Int) < (l.length : Int) := by omega
        have x3 : (0 : Int) ≤ (k : Int) := by omega
        obtain ⟨pb, po, pc, rfl, _, _, _, _, _⟩ := hmap
        clear hcell h3 hq1 hqe hn hpre
        go_wp2_with fail
        refine (l8Best_any true l _ lc w.heap.size HS.out (n + 1) k M _ wr (by have := HN.out; omega) (H.out.below HB.out (Nat.le_refl _)) (by omega) HM.out.mapB).mono ?_
        rintro e w3 ⟨rfl, hb3⟩
        have hs3 := hb3.size
        have HB3 := Lib.hid (HB.out.trans (hb3.mono (by omega)))
        have HO3 := Lib.hid (ownsRow_kb HO.out hb3)
        have HM3 := Lib.hid (HM.out.below hb3)
        have hbb := BB.out (n + 1) k M (by have := HN.out; omega)
        have GD : Hid (∀ j, GoodS true l n k M j ↔ CanSet M q (j : Int) ∧ q.2.2.2 + bst (wtB true) l n (k + 1) (setOn M q (j : Int) ((k : Int) + 1)) = bst (wtB true) l (n + 1) k M) := by
          intro j; unfold GoodS; rw [← HQE.out]; rfl
        obtain ⟨BST, hBST⟩ : ∃ X, X = bst (wtB true) l (n + 1) k M := ⟨_, rfl⟩
        rw [← hBST] at GD hbb ⊢
        have hbb1 := hbb.1
        have hbb2 : BST ≤ 63 := by omega
        clear hb3 HO HM HB hbb hBST
        go_wp2_with fail
        go_loopw [5, 8, 9, 10, 11] (fun pl c j _ _ wr => ∃ (j0 : Nat) (c0 : Int) (M' : Plan), j0 ≤ 4 ∧ j = .int .i64 j0 ∧ c = .int .i64 c0 ∧ (c0 = -1 ∨ (0 ≤ c0 ∧ c0 ≤ 3)) ∧ Srch true l n k M j0 c0 M' ∧ wr.ownsRow w.heap.size 3 1 (.slice oa pre.length oc) pre.length (pre.map (Value.int .i64)) ∧ MapAt (Value.ownBlock (.slice oa pre.length oc)) wr pl M' ∧ w1.heap.size ≤ wr.heap.size ∧ Below w.heap.size w wr) (fun _ _ j _ _ _ => 4 - (intOf j).toNat)
        case atStart => exact ⟨0, -1, M, by omega, rfl, rfl, .inl rfl, .inl ⟨rfl, rfl, fun i hi => by omega⟩, HO3.out, HM3.out, by omega, HB3.out⟩
        case round =>
          clear HO3 HM3 HB3
          obtain ⟨j0, c0, M', hj, rfl, rfl, hc01, hsr, hown, hmap, hsz4, hbel⟩ := hrel
          have HO := Lib.hid hown
          have HM := Lib.hid hmap
          have HB := Lib.hid hbel
          have HSR := Lib.hid hsr
          obtain ⟨pb', po', pc', rfl, _, _, _, _, _⟩ := hmap
          by_cases hex : j0 < 4 ∧ c0 = -1
          · obtain ⟨hj4, rfl⟩ := hex
            have hs4 : M' = M ∧ ∀ i, i < j0 → ¬ GoodS true l n k M i := by
              rcases hsr with ⟨_, h1, h2⟩ | ⟨s, _, _, h, _⟩
              · exact ⟨h1, h2⟩
              · omega
            obtain ⟨rfl, hng⟩ := hs4
            have HNG := Lib.hid hng
            obtain ⟨d0, d1, d2, d3⟩ := HC.out.below hbel (by omega)
            have hj4' : (j0 : Int) < 4 := by omega
            have hlw : b < wr.heap.size := by omega
            clear hsr hown hbel hng hc01
            go_wp2_with fail
            refine (l8Set_any _ M' q (j0 : Int) ((k : Int) + 1) wr HM.out.mapB HQ.out (by omega) (by omega) (by omega)).mono ?_
            rintro e w5 ⟨na, nn, nc, rfl, hown5, hb5⟩
            have hs5 := hb5.size
            have HB5 := Lib.hid (HB.out.trans (hb5.mono (by omega)))
            have HO5 := Lib.hid (ownsRow_kb HO.out hb5)
            have HM5 := Lib.hid (HM.out.below hb5)
            have HN5 : Hid (CanSet M' q (j0 : Int) → MapAt (Value.ownBlock (.slice oa pre.length oc)) w5 (.slice na nn nc) (setOn M' q (j0 : Int) ((k : Int) + 1))) := fun hc => (hown5 hc).mapAt (w' := w5) (Nat.le_refl _) (fun g hg => (HO.out.lt g hg).2)
            have d3' := (hb5.cell (p := ⟨b, off + k * 4 + 3, none⟩) hlw).trans d3
            clear hb5 hown5 d0 d1 d2 d3 HB HO HM
            by_cases hc : CanSet M' q (j0 : Int)
            · rw [decide_eq_true hc]
              have HNM := Lib.hid (HN5.out hc)
              have CB := Lib.hid (l8Best_any true l _ lc w.heap.size HS.out n (k + 1) (setOn M' q (j0 : Int) ((k : Int) + 1)) (.slice na nn nc) w5.drew (by have := HN.out; omega) (H.out.below HB5.out.drew (Nat.le_refl _)) (by show w.heap.size ≤ w5.heap.size; omega) (HNM.out.mapB.below ((Below.refl w5.heap.size w5).drew) (Nat.le_refl _)))
              have hV := BB.out n (k + 1) (setOn M' q (j0 : Int) ((k : Int) + 1)) (by have := HN.out; omega)
              have GJ := Lib.hid (GD.out j0)
              obtain ⟨V, hVe⟩ : ∃ V, V = bst (wtB true) l n (k + 1) (setOn M' q (j0 : Int) ((k : Int) + 1)) := ⟨_, rfl⟩
              rw [← hVe] at hV CB GJ
              have hw9 := HQ.out.2.2.2.2.2.2
              have hw1 := hw9.1
              have hw2 := hw9.2
              have hV1 := hV.1
              have hV2 : V ≤ 54 := by omega
              have e7 := IntWalk.i64_in (q.2.2.2 + V) (by omega)
              have HCC := Lib.hid hc
              have dd : w5.drew.cell? ⟨b, off + k * 4 + 3, none⟩ = some (.int .i64 q.2.2.2) := d3'
              have hlw5 : b < w5.drew.heap.size := by show b < w5.heap.size; omega
              have e8 : IntKind.i64.wrap ((k : Int) + 1) = (k : Int) + 1 := IntWalk.i64_in _ (by omega)
              have C1 : Hid (Calls Try.prog 76 #[.slice (some ⟨b, off, none⟩) l.length lc, .slice na nn nc, .int .i64 ((k : Int) + 1), .bool true] w5.drew fun e w' => e = .returned (.int .i64 V) ∧ Below w5.drew.heap.size w5.drew w') := CB.out
              clear hc hVe hV hw9 HN5 CB
              by_cases hg : q.2.2.2 + V = BST
              · have tg : ((q.2.2.2 + V) == BST) = true := by simpa using hg
                have GG : Hid (GoodS true l n k M' j0) := GJ.out.2 ⟨HCC.out, hg⟩
                clear hg
                go_wp2_with fail
                go_region_held3 (fun w' => w'.cell? ⟨b, off + k * 4 + 3, none⟩ = some (.int .i64 q.2.2.2)) (first | with_reducible exact dd | with_reducible exact r1 | fail) (first | (go_at_call 76; (refine C1.out.mono ?_); rintro e w6 ⟨rfl, hb6⟩; have HB6 := Lib.hid hb6; have r1 := (hb6.cell (p := ⟨b, off + k * 4 + 3, none⟩) hlw5).trans dd; clear hb6) | fail)
                have BW := Lib.hid (((Below.refl w5.heap.size w5).drew).trans HB6.out)
                have HB7 := Lib.hid (HB5.out.trans (BW.out.mono (by omega)))
                have HO7 := Lib.hid (ownsRow_kb HO5.out BW.out)
                have hs7 := BW.out.size
                rename_i hh
                clear hh dd r1 d3'
                have HM7 := Lib.hid (HNM.out.below BW.out)
                go_wp2_with fail
                go_roundw
                case rel => exact ⟨j0 + 1, (j0 : Int), _, by omega, by go_num, rfl, .inr ⟨by omega, by omega⟩, .inr ⟨j0, rfl, hj4, rfl, GG.out, HNG.out, by rw [← HQE.out]⟩, HO7.out, HM7.out, by omega, HB7.out⟩
                case measure => simp [intOf]; omega
              · have tg : ((q.2.2.2 + V) == BST) = false := by simpa using hg
                have GG : Hid (¬ GoodS true l n k M' j0) := fun h => hg (GJ.out.1 h).2
                clear hg
                go_wp2_with fail
                go_region_held3 (fun w' => w'.cell? ⟨b, off + k * 4 + 3, none⟩ = some (.int .i64 q.2.2.2)) (first | with_reducible exact dd | with_reducible exact r1 | fail) (first | (go_at_call 76; (refine C1.out.mono ?_); rintro e w6 ⟨rfl, hb6⟩; have HB6 := Lib.hid hb6; have r1 := (hb6.cell (p := ⟨b, off + k * 4 + 3, none⟩) hlw5).trans dd; clear hb6) | fail)
                have BW := Lib.hid (((Below.refl w5.heap.size w5).drew).trans HB6.out)
                have HB7 := Lib.hid (HB5.out.trans (BW.out.mono (by omega)))
                have HO7 := Lib.hid (ownsRow_kb HO5.out BW.out)
                have hs7 := BW.out.size
                rename_i hh
                clear hh dd r1 d3'
                have HM7 := Lib.hid (HM5.out.below BW.out)
                go_wp2_with fail
                go_roundw
                case rel =>
                  refine ⟨j0 + 1, -1, M', by omega, by go_num, rfl, .inl rfl, .inl ⟨rfl, rfl, fun i hi => ?_⟩, HO7.out, HM7.out, by omega, HB7.out⟩
                  by_cases e : i = j0
                  · subst e; exact GG.out
                  · exact HNG.out i (by omega)
                case measure => simp [intOf]; omega
            · rw [decide_eq_false hc]
              have GG : Hid (¬ GoodS true l n k M' j0) := fun h => hc ((GD.out j0).1 h).1
              clear hc HN5 d3'
              go_wp2_with fail
              go_quiet (fail)
              have BW := Lib.hid (below_drewN (Below.refl w5.heap.size w5) nq)
              have HB7 := Lib.hid (HB5.out.trans (BW.out.mono (by omega)))
              have HO7 := Lib.hid (ownsRow_kb HO5.out BW.out)
              have HM7 := Lib.hid (HM5.out.below BW.out)
              go_wp2_with fail
              go_roundw
              case rel =>
                refine ⟨j0 + 1, -1, M', by omega, by go_num, rfl, .inl rfl, .inl ⟨rfl, rfl, fun i hi => ?_⟩, HO7.out, HM7.out, by show w1.heap.size ≤ w5.heap.size; omega, HB7.out⟩
                by_cases e : i = j0
                · subst e; exact GG.out
                · exact HNG.out i (by omega)
              case measure => simp [intOf]; omega
          · obtain ⟨ec, eM⟩ := srch_done hsr (by omega)
            have NP : Hid (bestAll (wtB true) l = (pre ++ [c0]) ++ bestOf (wtB true) l (l.length - (k + 1)) (k + 1) M') := by
              show _ = _
              rw [HBE.out, show l.length - k = n + 1 by have := HN.out; omega, bestOf, ← ec, show l.length - (k + 1) = n by have := HN.out; omega, eM, ec, List.append_assoc]
              rfl
            have HO9 : Hid ((wr.alloc (.cells #[.int .i64 c0] 3)).ownsRow w.heap.size 3 1 (.slice oa pre.length oc) pre.length (pre.map (Value.int .i64))) := HO.out.alloc _
            have HC9 : Hid ((wr.alloc (.cells #[.int .i64 c0] 3)).cell? ⟨wr.heap.size, 0, none⟩ = some (.int .i64 c0)) := by show World.cell? _ _ = _; rw [cell_of_row _ wr.heap.size 0 #[.int .i64 c0] 3 (0, 0) (heap_alloc_new wr _)]; rfl
            have HP6 : pre.length ≤ 1000 := by rw [HP.out]; omega
            have HS9 : w.heap.size ≤ (wr.alloc (.cells #[.int .i64 c0] 3)).heap.size := by simp; omega
            have HM9 := Lib.hid (HM.out.below ((Below.refl wr.heap.size wr).alloc (Nat.le_refl _) (.cells #[.int .i64 c0] 3)))
            have HLP : Hid ((pre ++ [c0]).length = k + 1) := by show _ = _; simp [HP.out]
            have hj4c : (j0 = 4 ∨ (j0 < 4 ∧ 0 ≤ c0)) := by omega
            clear hsr hown hbel ec eM hex
            rcases hj4c with rfl | ⟨hj4, hc0⟩
            all_goals
              try (have hj4' : (j0 : Int) < 4 := by omega)
              go_wp2_with (at_builtin; refine app_keep (wr.alloc (.cells #[.int .i64 c0] 3)) rfl _ _ rfl w.heap.size _ pre c0 wr.heap.size HO9.out HC9.out rfl rfl HP6 HS9 ?_; intro v' w9 o1 o2 g1 xt)
              have hb9 : Below w.heap.size w w9 := (HB.out.alloc (by omega) _).grown g1 (by simp; omega) (fun g hg => (HO9.out.lt g hg).1)
              have HB9 := Lib.hid hb9
              have hm9 := HM9.out.grown g1 xt rfl (Nat.le_refl _)
              have HMM := Lib.hid hm9
              have HOO := Lib.hid o1
              have hs9 := g1.size
              simp at hs9
              clear o1 o2 g1 xt hb9 hm9
              go_wp2_with fail
              go_roundw
              case rel => exact ⟨k + 1, pre ++ [c0], M', by omega, by go_num, HLP.out, NP.out, HOO.out, HMM.out, by omega, HB9.out⟩
              case measure => simp [intOf]; omega
      · obtain rfl : k = l.length := by omega
        have EB : Hid (bestOut l = pre) := by show _ = _; rw [HW.out, HBE.out, Nat.sub_self]; simp [bestOf]
        go_wp2_with fail
        go_ret2
        exact ⟨_, tup_bool (decide_eq_true HS.out).symm, by rw [EB.out]; exact own_of_ownsRow HO.out (Nat.le_refl _), HB.out⟩
  · have HS := Lib.hid hs
    have HW : Hid (bestOut l = []) := if_neg hs
    clear hs
    go_enter Try.func47, Try.ntmps47
    go_wp2_with fail
    refine (specLabelsValid_any _ l _ ((H.out.below ((Below.refl w.heap.size w).alloc (Nat.le_refl _) _) (Nat.le_refl _)).quads (by simp))).mono ?_
    rintro e w1 ⟨rfl, hb⟩
    have HB := Lib.hid ((al (Below.refl w.heap.size w) _).trans (hb.mono (by simp)))
    clear hb
    rw [decide_eq_false HS.out]
    go_wp2_with fail
    go_ret2
    exact ⟨_, tup_bool (decide_eq_false HS.out).symm, by rw [HW.out]; exact .inl ⟨rfl, _, _, rfl, by omega⟩, HB.out⟩
end Go.Proofs.Ytbpcjdhbbighgaa
