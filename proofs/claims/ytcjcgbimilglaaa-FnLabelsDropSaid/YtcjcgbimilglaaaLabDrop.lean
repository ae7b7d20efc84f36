/-
  Contracts of slices.Grow and slices.Concat at labels and of LabelsDrop, the program's and the reference's. Conditions: small lengths for the first two.
-/
import Derived.Test.YtcjcgbimilglaaaAppQ
import Derived.Lib.AppendZeros
import Derived.StillTailTactics
import Derived.WalkSpells
namespace Go.Proofs.Ytcjcgbimilglaaa
open Go.RowKit Go.Deep

theorem quads_take {B : Nat} {w : World} {a : Option Addr} {cap : Nat} {l : List Quad} (h : QuadsB B w (.slice a l.length cap) l) (k : Nat) (hk : k ≤ l.length) : QuadsB B w (.slice a k cap) (l.take k) := by
  obtain ⟨a', cap', e, h1, h2, h3⟩ := h
  obtain ⟨rfl, rfl⟩ : a = a' ∧ cap = cap' := by simp at e; exact e
  have hl : (l.take k).length = k := by simp; omega
  refine ⟨a, cap, by rw [hl], by omega, h2, fun h => ?_⟩
  obtain ⟨b, off, rfl, hb, hc⟩ := h3 (by omega)
  refine ⟨b, off, rfl, hb, fun j hj => ?_⟩
  rw [hl] at hj
  have := hc j (by omega)
  rwa [List.getElem?_take, if_pos hj]
theorem quads_drop {B : Nat} {w : World} {b off cap : Nat} {l : List Quad} (h : QuadsB B w (.slice (some ⟨b, off, none⟩) l.length cap) l) (k : Nat) (hk : k ≤ l.length) (ad : Addr) (had : k < cap → ad = ⟨b, off + k * 4, none⟩) :
    QuadsB B w (.slice (some ad) (l.length - k) (cap - k)) (l.drop k) := by
  obtain ⟨a', cap', e, h1, h2, h3⟩ := h
  obtain ⟨rfl, rfl⟩ : some ⟨b, off, none⟩ = a' ∧ cap = cap' := by simp at e; exact ⟨e.1, e.2⟩
  have hl : (l.drop k).length = l.length - k := by simp
  refine ⟨some ad, cap - k, by rw [hl], by omega, by omega, fun h => ?_⟩
  rw [hl] at h
  obtain ⟨b2, off2, e2, hb, hc⟩ := h3 (by omega)
  obtain ⟨rfl, rfl⟩ : b = b2 ∧ off = off2 := by simp at e2; exact e2
  rw [had (by omega)]
  refine ⟨b, off + k * 4, rfl, hb, fun j hj => ?_⟩
  rw [hl] at hj
  have := hc (k + j) (by omega)
  rw [List.getElem?_drop]
  rwa [show off + k * 4 + j * 4 = off + (k + j) * 4 by omega]

set_option maxHeartbeats 400000 in
set_option maxRecDepth 100000 in
theorem GrowL_any (n : Nat) (w : World) (hn : n ≤ 1048576) :
    Calls Try.prog 104 #[.slice none 0 0, .int .i64 (n : Int)] w fun e w' => ∃ v, e = .returned v ∧ w'.ownsRow w.heap.size 40 4 v 0 [] ∧ Below w.heap.size w w' := by
  obtain ⟨i0, hi, hz0, hz1, hz2⟩ := info_parts info_label
  by_cases h0 : n = 0
  · subst h0
    go_enter Try.func104, Try.ntmps104
    go_wp2
    go_ret
    exact ⟨_, rfl, World.ownsRow_nil _ _ _ _, Below.refl _ _⟩
  · have hp : (0 : Int) < (n : Int) := by omega
    have hr := fun (W : World) (ty : TypeId) => Lib.run_append_nil_zeros (P := Try.prog) W 25 3 ty 40 i0 _ .i64 .i64 Try.underlying25 Try.underlying3 hi hz0 n (by omega) (by omega) (by omega) (by rw [hz2]; omega)
    have hge := fun (W : World) => grownCap_ge W n 0 40
    have HLE := Lib.hid (fun (W : World) => grownCap_le_maxLen W n 0 40 (by unfold maxLen; omega))
    have HR := Lib.hid hr
    clear hr
    go_enter Try.func104, Try.ntmps104
    go_wp2_with (at_builtin; refine Lib.wpList_append_run _ rfl _ _ _ _ rfl _ _ rfl rfl _ _ (HR.out _ _) ?_)
    go_ret
    have hg := hge w
    refine ⟨_, rfl, (World.ownsRow_made w _ _ (Nat.le_refl _) (HLE.out w) ?_).drew, ((Below.refl _ _).alloc (Nat.le_refl _) _).drew⟩
    simp [Builtin.zeroCells]
    omega

set_option maxHeartbeats 1000000 in
set_option maxRecDepth 100000 in
theorem ConcatL_any (b : Nat) (a1 a2 : Option Addr) (n1 n2 c1 c2 : Nat) (l1 l2 : List Quad) (w : World) (hb : b < w.heap.size) (e1 : l1.length = n1) (e2 : l2.length = n2)
    (k1 : w.cell? ⟨b, 0, none⟩ = some (.slice a1 n1 c1)) (k2 : w.cell? ⟨b, 1, none⟩ = some (.slice a2 n2 c2)) (h1 : Quads w (.slice a1 n1 c1) l1) (h2 : Quads w (.slice a2 n2 c2) l2) (hn : n1 + n2 ≤ 1048576) :
    Calls Try.prog 100 #[.slice (some ⟨b, 0, none⟩) 2 2] w fun e w' => ∃ v, e = .returned v ∧ OwnQ w.heap.size w'.heap.size w' v (l1 ++ l2) ∧ Below w.heap.size w w' := by
  have H1 := Lib.hid h1.quadsB
  have H2 := Lib.hid h2.quadsB
  have E1 := Lib.hid e1
  have E2 := Lib.hid e2
  clear h1 h2 e1 e2
  go_enter Try.func100, Try.ntmps100
  go_wp2
  refine wp_loop_rounds 3 ?_
  rw [rounds_succ]
  go_wp2
  rw [rounds_succ]
  go_wp2
  rw [rounds_succ]
  go_wp2_with fail
  rw [show ((n1 : Int) + (n2 : Int)) = ((n1 + n2 : Nat) : Int) by omega]
  refine (GrowL_any (n1 + n2) _ (by omega)).mono ?_
  rintro e w1 ⟨v1, rfl, hown, hb1⟩
  have hs1 := hb1.size
  have j1 : w1.cell? ⟨b, 0, none⟩ = some (.slice a1 n1 c1) := (hb1.cell (p := ⟨b, 0, none⟩) hb).trans k1
  have j2 : w1.cell? ⟨b, 1, none⟩ = some (.slice a2 n2 c2) := (hb1.cell (p := ⟨b, 1, none⟩) hb).trans k2
  have HB1 := Lib.hid hb1
  have HO := Lib.hid hown
  clear hb1 hown k1 k2
  go_wp2
  refine wp_loop_rounds 3 ?_
  rw [rounds_succ]
  go_wp2_with (at_builtin; refine app_quads w _ rfl _ _ rfl w.heap.size _ [] _ l1 HO.out ((H1.out.below HB1.out (Nat.le_refl _)).quads hs1) rfl rfl (by have := E1.out; simp; omega) hs1 HB1.out ?_; intro v2 w2 hown2 hbel2)
  have HB2 := Lib.hid hbel2
  have HO2 := Lib.hid hown2
  have hs2 := hbel2.size
  have j2' : w2.cell? ⟨b, 1, none⟩ = some (.slice a2 n2 c2) := by
    have e1 := hbel2.cell (p := ⟨b, 1, none⟩) hb
    have e2 := HB1.out.cell (p := ⟨b, 1, none⟩) hb
    rw [e1, ← e2]; exact j2
  clear hown2 hbel2 j1 j2
  rw [rounds_succ]
  go_wp2_with (at_builtin; refine app_quads w _ rfl _ _ rfl w.heap.size _ _ _ l2 HO2.out ((H2.out.below HB2.out (Nat.le_refl _)).quads hs2) rfl rfl (by have := E1.out; have := E2.out; simp; omega) hs2 HB2.out ?_; intro v3 w3 hown3 hbel3)
  have HB3 := Lib.hid hbel3
  have HO3 := Lib.hid hown3
  clear hown3 hbel3 j2'
  rw [rounds_succ]
  go_wp2
  go_ret
  exact ⟨_, rfl, ownQ_of_ownsRow (l := l1 ++ l2) (by simpa using HO3.out) (Nat.le_refl _), HB3.out⟩

/-- what LabelsDrop hands back -/
def DropOk (l : List Quad) (k : Int) : Prop := ValidL l ∧ 0 ≤ k ∧ k < (l.length : Int)
instance (l : List Quad) (k : Int) : Decidable (DropOk l k) := by unfold DropOk; infer_instance
def dropAll (l : List Quad) (k : Int) : List Quad := if DropOk l k then l.take k.toNat ++ l.drop (k.toNat + 1) else []

theorem cell2_new (w : World) (x y : Value) (t : TypeId) : (w.alloc (.cells #[x, y] t)).drew.cell? ⟨w.heap.size, 0, none⟩ = some x ∧ (w.alloc (.cells #[x, y] t)).drew.cell? ⟨w.heap.size, 1, none⟩ = some y := by
  have h := heap_alloc_new w (.cells #[x, y] t)
  constructor <;> (show World.cell? (w.alloc (.cells #[x, y] t)) _ = _; unfold World.cell?; simp only [h]; rfl)

set_option maxHeartbeats 1000000 in
set_option maxRecDepth 100000 in
theorem LabelsDrop_any (v : Value) (l : List Quad) (k : Int) (w : World) (h : Quads w v l) :
    Calls Try.prog 61 #[v, .int .i64 k] w fun e w' => ∃ v', e = .returned (.tuple #[v', .bool (decide (DropOk l k))]) ∧ OwnQ w.heap.size w'.heap.size w' v' (dropAll l k) ∧ Below w.heap.size w w' := by
  obtain ⟨a, cap, rfl, hc1, hc2, hc3⟩ := id h
  have H := Lib.hid h.quadsB
  clear h
  by_cases hv : ValidL l
  · have HV := Lib.hid (decide_eq_true hv)
    have hl6 := hv.1
    by_cases hk : 0 ≤ k ∧ k < (l.length : Int)
    · have HD := Lib.hid (decide_eq_true (p := DropOk l k) ⟨hv, hk.1, hk.2⟩)
      have HF := Lib.hid (show dropAll l k = l.take k.toNat ++ l.drop (k.toNat + 1) from if_pos ⟨hv, hk.1, hk.2⟩)
      obtain ⟨k0, k1⟩ := hk
      obtain ⟨n, rfl⟩ : ∃ n : Nat, k = (n : Int) := ⟨k.toNat, by omega⟩
      rw [Int.toNat_natCast] at HF
      obtain ⟨b, off, rfl, hb, _⟩ := hc3 (by omega)
      have t1 : decide ((n : Int) < 0) = false := decide_eq_false (by omega)
      have t2 : decide (l.length ≤ n) = false := decide_eq_false (by omega)
      clear hv hc3
      go_enter Try.func61, Try.ntmps61
      go_wp2_with fail
      refine (LabelsValid_any _ l _ (H.out.quads (Nat.le_refl _))).mono ?_
      rintro e w1 ⟨rfl, hb1⟩
      have hs1 := hb1.size
      have HB1 := Lib.hid hb1
      clear hb1
      rw [HV.out]
      go_wp2
      have g1 : n ≤ cap := by omega
      have g2 : n + 1 ≤ l.length := by omega
      have g3 : IntKind.i64.wrap ((n : Int) + 1) = (n : Int) + 1 := IntWalk.i64_in _ (by omega)
      have g4 : (0 : Int) ≤ (n : Int) + 1 := by omega
      have g5 : ((n : Int) + 1).toNat = n + 1 := by omega
      have g6 : (n : Int) + 1 ≤ (l.length : Int) := by omega
      obtain ⟨ad, had, hadd⟩ : ∃ ad : Addr, (if cap = n + 1 then some (⟨b, off, none⟩ : Addr) else some ⟨b, off + (n + 1) * 4, none⟩) = some ad ∧ (n + 1 < cap → ad = ⟨b, off + (n + 1) * 4, none⟩) := by
        by_cases e : cap = n + 1
        · exact ⟨_, if_pos e, fun h => by omega⟩
        · exact ⟨_, if_neg e, fun _ => rfl⟩
      have HA := Lib.hid hadd
      clear hadd
      have HQ := Lib.hid (H.out.below HB1.out.drew (Nat.le_refl _))
      go_still_tail 7, (by kernel_rfl)
      change wpList _ _ _ _ _ w1.drew
      go_wp2_with fail
      obtain ⟨W, hW⟩ : ∃ W, W = (w1.alloc (.cells #[.slice (some ⟨b, off, none⟩) n cap, .slice (some ad) (l.length - (n + 1)) (cap - (n + 1))] 25)).drew := ⟨_, rfl⟩
      obtain ⟨x1, x2⟩ := cell2_new w1 (.slice (some ⟨b, off, none⟩) n cap) (.slice (some ad) (l.length - (n + 1)) (cap - (n + 1))) 25
      have hbW : Below w1.heap.size w1 W := by rw [hW]; exact ((Below.refl _ _).alloc (Nat.le_refl _) _).drew
      have hsW : W.heap.size = w1.heap.size + 1 := by rw [hW]; simp
      rw [← hW] at x1 x2 ⊢
      have HQW := Lib.hid (H.out.below (HB1.out.trans (hbW.mono hs1)) (Nat.le_refl _))
      have HBW := Lib.hid (HB1.out.trans (hbW.mono hs1))
      clear hW hbW
      refine (ConcatL_any w1.heap.size _ _ _ _ _ _ (l.take n) (l.drop (n + 1)) W (by omega) (by simp; omega) (by simp) x1 x2 ((quads_take HQW.out n (by omega)).quads (by omega)) ((quads_drop HQW.out (n + 1) (by omega) ad HA.out).quads (by omega)) (by omega)).mono ?_
      rintro e w2 ⟨v2, rfl, hO, hb2⟩
      have HO := Lib.hid hO
      have HB2 := Lib.hid (HBW.out.trans (hb2.mono (by omega)))
      clear hO hb2 x1 x2
      go_wp2
      go_ret2
      exact ⟨_, tup_bool HD.out.symm, by rw [HF.out]; exact HO.out.mono (by omega) (Nat.le_refl _), HB2.out⟩
    · have HD := Lib.hid (decide_eq_false (p := DropOk l k) (fun h => hk ⟨h.2.1, h.2.2⟩))
      have HF := Lib.hid (show dropAll l k = [] from if_neg (fun h => hk ⟨h.2.1, h.2.2⟩))
      clear hv hc3
      by_cases hk0 : k < 0
      · have t1 : decide (k < 0) = true := decide_eq_true hk0
        clear hk
        go_enter Try.func61, Try.ntmps61
        go_wp2_with fail
        refine (LabelsValid_any _ l _ (H.out.quads (Nat.le_refl _))).mono ?_
        rintro e w1 ⟨rfl, hb1⟩
        rw [HV.out]
        go_wp2
        go_ret2
        exact ⟨_, tup_bool HD.out.symm, by rw [HF.out]; exact .inl ⟨rfl, none, 0, rfl, by omega⟩, hb1⟩
      · have t1 : decide (k < 0) = false := decide_eq_false hk0
        have hge : (l.length : Int) ≤ k := by omega
        have t2 : decide ((l.length : Int) ≤ k) = true := decide_eq_true hge
        clear hk
        go_enter Try.func61, Try.ntmps61
        go_wp2_with fail
        refine (LabelsValid_any _ l _ (H.out.quads (Nat.le_refl _))).mono ?_
        rintro e w1 ⟨rfl, hb1⟩
        rw [HV.out]
        go_wp2
        go_ret2
        exact ⟨_, tup_bool HD.out.symm, by rw [HF.out]; exact .inl ⟨rfl, none, 0, rfl, by omega⟩, hb1⟩
  · have HV := Lib.hid (decide_eq_false hv)
    have HD := Lib.hid (decide_eq_false (p := DropOk l k) (fun h => hv h.1))
    have HF := Lib.hid (show dropAll l k = [] from if_neg (fun h => hv h.1))
    clear hv hc3
    go_enter Try.func61, Try.ntmps61
    go_wp2_with fail
    refine (LabelsValid_any _ l _ (H.out.quads (Nat.le_refl _))).mono ?_
    rintro e w1 ⟨rfl, hb1⟩
    rw [HV.out]
    go_wp2
    go_ret2
    exact ⟨_, tup_bool HD.out.symm, by rw [HF.out]; exact .inl ⟨rfl, none, 0, rfl, by omega⟩, hb1⟩
end Go.Proofs.Ytcjcgbimilglaaa
