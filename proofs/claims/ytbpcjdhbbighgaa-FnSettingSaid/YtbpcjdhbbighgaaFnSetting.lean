/-
  FnSetting: for all arguments the law returns true and leaves what was there as it was. No condition.
-/
import Derived.Test.YtbpcjdhbbighgaaLawKit2
import Derived.Test.YtbpcjdhbbighgaaSettingD
import Derived.Test.YtbpcjdhbbighgaaPlaces
import Derived.Test.YtbpcjdhbbighgaaEachKit
import Derived.Test.YtbpcjdhbbighgaaKeep
import Derived.Test.YtbpcjdhbbighgaaL8
import Derived.Test.YtbpcjdhbbighgaaBoardOf
import Derived.Test.YtbpcjdhbbighgaaLawKit
import Derived.Test.YtbpcjdhbbighgaaBytes
import Derived.Test.YtbpcjdhbbighgaaFacts
import Derived.ProofKit
import Derived.OpenShut
import Derived.ShutString
import Derived.ChangeOld
import Derived.Below
import Derived.Deep.RegionHeld3
import Derived.Test.YtbpcjdhbbighgaaFacts
import Derived.ProofKit
import Derived.OpenShut
import Derived.ShutString
import Derived.ChangeOld
import Derived.Below
namespace Go.Proofs.Ytbpcjdhbbighgaa
open Go.RowKit Go.Deep

set_option maxHeartbeats 1000000 in
set_option maxRecDepth 100000 in
theorem hasInt_any (v : Value) (la : List Int) (x : Int) (w : World) (h : Ints w v la) :
    Calls Try.prog 36 #[v, .int .i64 x] w fun e w' => e = .returned (.bool (decide (x ∈ la))) ∧ w = w' := by
  obtain ⟨a, cap, rfl, h1, h2, h3⟩ := h
  have H3 := Lib.hid h3
  clear h3
  go_enter Try.func36, Try.ntmps36
  go_wp2_with fail
  go_loop [5] (fun i => ∃ k : Nat, k ≤ la.length ∧ i = .int .i64 k ∧ ∀ j, j < k → la[j]?.getD 0 ≠ x) (fun i => la.length - (intOf i).toNat)
  case atStart => exact ⟨0, Nat.zero_le _, rfl, fun j hj => by omega⟩
  case round =>
    obtain ⟨k, hk, rfl, hno⟩ := hrel
    have HN := Lib.hid hno
    clear hno
    by_cases hlt : k < la.length
    · obtain ⟨b, off, rfl, hb, hcell⟩ := H3.out (by omega)
      have c := hcell k hlt
      have GE := Lib.hid (getD_eq hlt)
      obtain ⟨z, hz⟩ : ∃ z, z = la[k]?.getD 0 := ⟨_, rfl⟩
      rw [← hz] at c GE
      have HZ := Lib.hid hz
      have x1 : (k : Int) < (la.length : Int) := by omega
      have x3 : (0 : Int) ≤ (k : Int) := by omega
      clear hcell hz
      by_cases he : z = x
      · have t1 : (z == x) = true := by simpa using he
        have MM : Hid (x ∈ la) := by show _ ∈ _; rw [← he, GE.out]; exact List.getElem_mem _
        clear he
        go_wp2_with fail
        go_ret
        exact ⟨ret_bool (decide_eq_true MM.out).symm, rfl⟩
      · have t1 : (z == x) = false := by simpa using he
        have HE := Lib.hid he
        clear he
        go_wp2_with fail
        go_round
        case rel =>
          refine ⟨k + 1, by omega, by go_num, fun j hj => ?_⟩
          by_cases e : j = k
          · subst e; rw [← HZ.out]; exact HE.out
          · exact HN.out j (by omega)
        case measure => simp [intOf]; omega
    · obtain rfl : k = la.length := by omega
      have NM : Hid (¬ x ∈ la) := by
        intro hm
        obtain ⟨j, hj, e⟩ := List.mem_iff_getElem.1 hm
        exact HN.out j hj (by rw [getD_eq hj]; exact e)
      go_wp2_with fail
      go_ret
      exact ⟨ret_bool (decide_eq_false NM.out).symm, rfl⟩

/-- a read list outside one block -/
def IntsR (R : Option Nat) (w : World) (v : Value) (l : List Int) : Prop :=
  ∃ a cap, v = .slice a l.length cap ∧ (0 < l.length → ∃ b off, a = some ⟨b, off, none⟩ ∧ b < w.heap.size ∧ some b ≠ R ∧ ∀ j, j < l.length → w.cell? ⟨b, off + j, none⟩ = some (.int .i64 (l[j]?.getD 0)))
theorem IntsR.below {R : Option Nat} {w w' : World} {v : Value} {l : List Int} (h : IntsR R w v l) (hb : Below w.heap.size w w') : IntsR R w' v l := by
  obtain ⟨a, cap, rfl, h3⟩ := h
  refine ⟨a, cap, rfl, fun h => ?_⟩
  obtain ⟨b, off, rfl, h4, h5, h6⟩ := h3 h
  exact ⟨b, off, rfl, Nat.lt_of_lt_of_le h4 hb.size, h5, fun j hj => (hb.cell (p := ⟨b, off + j, none⟩) h4).trans (h6 j hj)⟩
theorem IntsR.grown {R : Option Nat} {w w' : World} {v sv v' : Value} {l : List Int} {N : Nat} (h : IntsR R w v l) (hg : w.grownBy w' R) (hx : Ext N sv v') (hsv : sv.ownBlock = R) (hN : w.heap.size ≤ N) : IntsR v'.ownBlock w' v l := by
  obtain ⟨a, cap, rfl, h3⟩ := h
  refine ⟨a, cap, rfl, fun h => ?_⟩
  obtain ⟨b, off, rfl, h4, hr, h6⟩ := h3 h
  refine ⟨b, off, rfl, Nat.lt_of_lt_of_le h4 hg.size, ?_, fun j hj => (World.cell?_of_block (a := ⟨b, off + j, none⟩) (hg.block b h4 hr)).trans (h6 j hj)⟩
  rcases hx.row with e | ⟨g, e1, e2⟩
  · rw [e, hsv]; exact hr
  · rw [e1]; intro e; simp at e; omega
theorem Own.intsR {lo hi : Nat} {w : World} {v : Value} {l : List Int} {R : Option Nat} (h : Own lo hi w v l) (hR : ∀ g, R = some g → g < lo) : IntsR R w v l := by
  rcases h with ⟨rfl, a, cap, rfl, _⟩ | ⟨b, off, cap, t, n, f, rfl, h1, h2, h3, h4, h5, h6, h7⟩
  · exact ⟨a, cap, rfl, fun h => by simp at h⟩
  · refine ⟨_, cap, rfl, fun _ => ⟨b, off, rfl, h5.lt, fun e => ?_, fun j hj => by rw [h5.cell (by omega), h7 j hj]⟩⟩
    have := hR b e.symm
    omega
theorem IntsR.cell {R : Option Nat} {w : World} {pa : Option Addr} {n pc : Nat} {l : List Int} (h : IntsR R w (.slice pa n pc) l) {k : Nat} (hk : k < l.length) : ∃ b off, pa = some ⟨b, off, none⟩ ∧ w.cell? ⟨b, off + k, none⟩ = some (.int .i64 (l[k]?.getD 0)) := by
  obtain ⟨a, c, e, h3⟩ := h
  simp at e
  obtain ⟨b, off, rfl, hb, hr, hc⟩ := h3 (by omega)
  exact ⟨b, off, e.1, hc k hk⟩

theorem ints_one1 {w : World} {b : Nat} {x : Int} (h : w.cell? ⟨b, 0, none⟩ = some (.int .i64 x)) (hb : b < w.heap.size) : Ints w (.slice (some ⟨b, 0, none⟩) 1 1) [x] :=
  ⟨some ⟨b, 0, none⟩, 1, rfl, Nat.le_refl _, by omega, fun _ => ⟨b, 0, rfl, hb, fun j hj => by
    obtain rfl : j = 0 := by simpa using hj
    simpa using h⟩⟩
def ptI (q : Quad) : Int := 10 * q.2.1 + q.1
/-- the cells that are used are not free -/
def UsedOk (l : List Quad) (s : List Int) (i : Nat) (A : List Int) : Prop := A.length ≤ 6 + 5 * i ∧ ∀ c ∈ A, planUp l s i c.toNat ≠ 0
theorem used_start {l : List Quad} (hv : ValidL l) (s : List Int) : UsedOk l s 0 (l.map ptI) := by
  refine ⟨by rw [List.length_map]; have := hv.1; omega, fun c hc => ?_⟩
  obtain ⟨q, hq, rfl⟩ := List.mem_map.1 hc
  show mPts l _ ≠ 0
  rw [mPts, if_pos (show (ptI q).toNat ∈ l.map pt from List.mem_map.2 ⟨q, hq, rfl⟩)]
  omega
theorem used_next {l : List Quad} {s : List Int} {i : Nat} {A : List Int} (hs : SetOk l s) (hi : i < l.length) (h : UsedOk l s i A) :
    (placesAll (l[i]?.getD q0) (s[i]?.getD 0)).length ≤ 5 ∧ decide (LabOk (l[i]?.getD q0) ∧ Fits (l[i]?.getD q0) (s[i]?.getD 0)) = decide (0 ≤ s[i]?.getD 0) ∧ UsedOk l s (i + 1) (A ++ placesAll (l[i]?.getD q0) (s[i]?.getD 0)) ∧
      ∀ k, k < (placesAll (l[i]?.getD q0) (s[i]?.getD 0)).length → ¬ (placesAll (l[i]?.getD q0) (s[i]?.getD 0))[k]?.getD 0 ∈ A ++ (placesAll (l[i]?.getD q0) (s[i]?.getD 0)).take k := by
  have hq := (hs.1.2 i hi).1
  have e : placesAll (l[i]?.getD q0) (s[i]?.getD 0) = placesOf (l[i]?.getD q0) (s[i]?.getD 0) := if_pos hq
  have ho := okUp_less (k := i + 1) (l.length - (i + 1)) (by rw [show i + 1 + (l.length - (i + 1)) = l.length by omega]; exact hs.2.2)
  rw [e]
  obtain ⟨a1, a2⟩ := h
  rcases ho.2 with hm | hc
  · have nf : ¬ Fits (l[i]?.getD q0) (s[i]?.getD 0) := fun f => by have := f.1; omega
    have pe : placesOf (l[i]?.getD q0) (s[i]?.getD 0) = [] := if_neg nf
    rw [pe]
    refine ⟨by simp, ?_, ⟨by simp; omega, fun c hc => ?_⟩, fun k hk => by simp at hk⟩
    · rw [decide_eq_false (fun f => nf f.2), decide_eq_false (by omega)]
    · rw [List.append_nil] at hc
      rw [planUp, if_pos hm]
      exact a2 c hc
  · obtain ⟨hf, hfree⟩ := hc
    have h0 := hf.1
    have pl := placesOf_pos hq hf
    have w5 := hq.2.2.2.2.2.1
    refine ⟨by omega, ?_, ⟨by rw [List.length_append]; omega, fun c hc => ?_⟩, fun k hk hm => ?_⟩
    · rw [decide_eq_true ⟨hq, hf⟩, decide_eq_true h0]
    · rw [planUp, if_neg (by omega), setOn, putOn]
      split
      · omega
      · rename_i hn
        rcases List.mem_append.1 hc with hA | hP
        · exact a2 c hA
        · have := (places_in hP).2.2
          rw [this] at hn
          exact absurd hP hn
    · rcases List.mem_append.1 hm with hA | hP
      · refine a2 _ hA (hfree _ ?_)
        rw [getD_eq hk]; exact List.getElem_mem _
      · exact take_fresh (places_nodup _ _) hk hP
set_option maxHeartbeats 4000000 in
set_option maxRecDepth 100000 in
theorem FnSetting_walk (v : Value) (n : Nat) (w : World) (h : Bytes w v n) :
    Calls Try.prog 7 #[v] w fun e w' => e = .returned (.bool true) ∧ Below w.heap.size w w' := by
  have CD := Lib.hid (DrawSettingValid_any v n w h)
  obtain ⟨a, cap, rfl, h1, h2, h3⟩ := h
  clear h3
  by_cases hbig : 1048576 < n
  · have hb' : (1048576 : Int) < (n : Int) := by omega
    go_enter Try.func7, Try.ntmps7
    go_wp2
    go_ret
    exact ⟨rfl, Below.refl _ _⟩
  have hb' : ¬ (1048576 : Int) < (n : Int) := by omega
  clear hbig
  go_enter Try.func7, Try.ntmps7
  go_wp2_with fail
  refine CD.out.mono ?_
  rintro e w1 ⟨vl, l, vs, s, rfl, hA, hS, hsl, hl7, hb1⟩
  have s1 := hb1.size
  obtain ⟨la, lc, rfl, q1, q2, q3⟩ := id hA
  obtain ⟨sa, sc, rfl, q4, q5, q6⟩ := id hS
  clear q3 q6 CD
  have H := Lib.hid hA.quadsB
  have U := Lib.hid hS.intsB
  have SL := Lib.hid hsl
  have B := Lib.hid hb1
  clear hA hS hb1 hsl
  go_wp2_with fail
  refine (SettingValid_any _ _ l s w1 (H.out.quads (by omega)) (U.out.ints (by omega))).mono ?_
  rintro e w2 ⟨rfl, hb2⟩
  have s2 := hb2.size
  replace H := Lib.hid (H.out.below hb2 (by omega))
  replace U := Lib.hid (U.out.below hb2 (by omega))
  replace B := Lib.hid (B.out.trans (hb2.mono (by omega)))
  clear hb2
  go_wp2_with fail
  refine (specSettingValid_any _ _ l s w2 (H.out.quads (by omega)) (U.out.ints (by omega))).mono ?_
  rintro e w3 ⟨rfl, hb3⟩
  have s3 := hb3.size
  replace H := Lib.hid (H.out.below hb3 (by omega))
  replace U := Lib.hid (U.out.below hb3 (by omega))
  replace B := Lib.hid (B.out.trans (hb3.mono (by omega)))
  clear hb3
  by_cases hs : SetOk l s
  · rw [decide_eq_true hs]
    have HS := Lib.hid hs
    have hl6 := hs.1.1
    have hne : ((true : Bool) != true) = false := by simp
    have slen : s.length ≤ 1000 := by have := SL.out; omega
    clear hs
    have zW : w1.heap.size ≤ w3.heap.size := by omega
    have UI := Lib.hid (U.out.ints zW)
    go_wp2_with fail
    go_loopw [7, 8] (fun x i wr => ∃ k : Nat, k ≤ l.length ∧ i = .int .i64 k ∧ wr.ownsRow w3.heap.size 3 1 x ((l.map ptI).take k).length (((l.map ptI).take k).map (Value.int .i64)) ∧ Below w3.heap.size w3 wr) (fun _ i _ => l.length - (intOf i).toNat)
    case atStart => exact ⟨0, Nat.zero_le _, rfl, by simpa using (World.ownsRow_made (base := w3.heap.size) (e := 3) (size := 1) w3 #[] 0 (Nat.le_refl _) (by decide) rfl), (Below.refl _ _).alloc (Nat.le_refl _) _⟩
    case round =>
      obtain ⟨k, hk, rfl, hown, hbel⟩ := hrel
      have sr := hbel.size
      have HB := Lib.hid hbel
      obtain ⟨xa, xc, hx⟩ := ownsRow_slice hown
      subst hx
      have OX := Lib.hid hown
      by_cases hkl : k < l.length
      · have x1 : (k : Int) < (l.length : Int) := by omega
        have x3 : (0 : Int) ≤ (k : Int) := by omega
        obtain ⟨_, _, he, _, _, h3⟩ := H.out
        simp only [Value.slice.injEq] at he
        obtain ⟨rfl, _, rfl⟩ := he
        obtain ⟨lb, lo, rfl, hlb, hcell⟩ := h3 (by omega)
        obtain ⟨d0, d1, _, _⟩ := (hcell k hkl).below hbel (by omega)
        have hq := (HS.out.1.2 k hkl).1
        have NX : Hid ((l.map ptI).take k ++ [10 * (l[k]?.getD q0).2.1 + (l[k]?.getD q0).1] = (l.map ptI).take (k + 1)) := by
          show _ = _
          rw [List.take_succ_eq_append_getElem (by simpa using hkl), List.getElem_map, getQ_eq hkl]
          rfl
        have tl : ((l.map ptI).take k).length ≤ 1000 := by rw [List.length_take, List.length_map]; omega
        obtain ⟨X, hX⟩ : ∃ x, x = (l[k]?.getD q0).1 := ⟨_, rfl⟩
        obtain ⟨Y, hY⟩ : ∃ x, x = (l[k]?.getD q0).2.1 := ⟨_, rfl⟩
        have hq1 := hq.1
        have hq2 := hq.2.1
        have hq3 := hq.2.2.1
        have hq4 := hq.2.2.2.1
        rw [← hX] at d0 NX hq1 hq2
        rw [← hY] at d1 NX hq3 hq4
        have e1 : IntKind.i64.wrap (10 * Y) = 10 * Y := IntWalk.i64_in _ (by omega)
        obtain ⟨z, hz⟩ : ∃ z, z = 10 * Y + X := ⟨_, rfl⟩
        have e2 : IntKind.i64.wrap (10 * Y + X) = z := by rw [hz]; exact IntWalk.i64_in _ (by omega)
        rw [← hz] at NX
        obtain ⟨A, hA⟩ : ∃ A, A = (l.map ptI).take k := ⟨_, rfl⟩
        rw [← hA] at OX NX tl
        rw [← hA]
        have lbr : lb < wr.heap.size := by omega
        have k0 : wr.drew.cell? ⟨lb, lo + k * 4, none⟩ = some (.int .i64 X) := d0
        have k1 : wr.drew.cell? ⟨lb, lo + k * 4 + 1, none⟩ = some (.int .i64 Y) := d1
        have n0 : (wr.alloc (.cells #[.int .i64 z] 3)).drew.cell? ⟨lb, lo + k * 4, none⟩ = some (.int .i64 X) := cell_alloc d0 _
        have n1 : (wr.alloc (.cells #[.int .i64 z] 3)).drew.cell? ⟨lb, lo + k * 4 + 1, none⟩ = some (.int .i64 Y) := cell_alloc d1 _
        have OA := Lib.hid ((OX.out.alloc (.cells #[.int .i64 z] 3)).drew)
        have HBA := Lib.hid ((HB.out.alloc sr (.cells #[.int .i64 z] 3)).drew)
        have IA : Hid (Ints ((wr.alloc (.cells #[.int .i64 z] 3)).drew) (.slice (some ⟨wr.heap.size, 0, none⟩) 1 1) [z]) := ints_one1 (by show (wr.alloc (.cells #[.int .i64 z] 3)).cell? _ = _; simp) (by simp)
        have hbA : w3.heap.size ≤ ((wr.alloc (.cells #[.int .i64 z] 3)).drew).heap.size := by simp; omega
        have hl2 : A.length + [z].length ≤ 1099511627776 := by simp; omega
        have lb3 : lb < w3.heap.size := by omega
        have e0 := (hbel.cell (p := ⟨lb, lo + k * 4, none⟩) lb3).symm.trans d0
        have e0' := (hbel.cell (p := ⟨lb, lo + k * 4 + 1, none⟩) lb3).symm.trans d1
        clear hX hY hz hA hq hcell h3 hown hbel d0 d1
        go_wp2_with fail
        go_region_held3 (fun w' => w'.cell? ⟨lb, lo + k * 4, none⟩ = some (.int .i64 X) ∧ w'.cell? ⟨lb, lo + k * 4 + 1, none⟩ = some (.int .i64 Y))
          (first | with_reducible exact ⟨k0, k1⟩ | with_reducible exact ⟨n0, n1⟩ | with_reducible exact ⟨r0, r1⟩ | fail)
          (first | ((refine step_app_ints _ rfl (.tmp 45) (.tmp 58) rfl w3.heap.size _ A _ [z] OA.out IA.out rfl rfl hl2 hbA ?_); intro v4 w4 hown4 hg4; have hb4 := HBA.out.grown hg4 hbA (fun g hg => (OA.out.lt g hg).1); have r0 := (hb4.cell (p := ⟨lb, lo + k * 4, none⟩) lb3).trans e0; have r1 := (hb4.cell (p := ⟨lb, lo + k * 4 + 1, none⟩) lb3).trans e0'; have HO4 := Lib.hid hown4; have HB4 := Lib.hid hb4; clear hown4 hg4 hb4) | fail)
        all_goals
          rename_i hh
          clear hh r0 r1 n0 n1 k0 k1
          go_wp2_with fail
          go_roundw
          case rel => exact ⟨k + 1, by omega, by go_num, by rw [← NX.out]; exact HO4.out, HB4.out⟩
          case measure => simp [intOf]; omega
      · obtain rfl : k = l.length := by omega
        have US := Lib.hid (used_start HS.out.1 s)
        rw [List.take_of_length_le (by simp)] at OX
        rw [List.take_of_length_le (by simp)]
        obtain ⟨N, hN⟩ : ∃ N, N = w3.heap.size := ⟨_, rfl⟩
        rw [← hN] at OX HB
        have zN : w1.heap.size ≤ N := by omega
        have wN : w3.heap.size ≤ N := by omega
        have NE := Lib.hid hN
        have BN : Hid (∀ W, Below N w3 W → Below w.heap.size w W) := fun W h => B.out.trans (h.mono (by have := B.out.size; omega))
        clear hown hbel hkl hN
        go_wp2_with fail
        go_loopw [7, 9] (fun x i W => ∃ (k : Nat) (A : List Int), k ≤ s.length ∧ i = .int .i64 k ∧ UsedOk l s k A ∧ W.ownsRow N 3 1 x A.length (A.map (Value.int .i64)) ∧ Below N w3 W) (fun _ i _ => s.length - (intOf i).toNat)
        case atStart => exact ⟨0, l.map ptI, Nat.zero_le _, rfl, US.out, OX.out, HB.out⟩
        case round =>
          clear US OX HB sr
          obtain ⟨k, A, hk, rfl, hus, hown, hbel⟩ := hrel
          have sr : N ≤ wr.heap.size := by rw [NE.out]; exact hbel.size
          have s3r := hbel.size
          have HB := Lib.hid hbel
          obtain ⟨xa, xc, hx⟩ := ownsRow_slice hown
          subst hx
          have OX := Lib.hid hown
          have US := Lib.hid hus
          by_cases hks : k < s.length
          · have hkl : k < l.length := by rw [← SL.out]; exact hks
            have x1 : (k : Int) < (l.length : Int) := by omega
            have x2 : (k : Int) < (s.length : Int) := by omega
            have x3 : (0 : Int) ≤ (k : Int) := by omega
            obtain ⟨_, _, he, _, _, h3⟩ := H.out
            simp only [Value.slice.injEq] at he
            obtain ⟨rfl, _, rfl⟩ := he
            obtain ⟨lb, lo, rfl, hlb, hcell⟩ := h3 (by omega)
            obtain ⟨d0, d1, d2, d3⟩ := (hcell k hkl).below hbel (by omega)
            obtain ⟨sb, so, hsa, sb1, sc1⟩ := ints_cell UI.out (k := k) hks
            subst hsa
            have sc := (hbel.cell (p := ⟨sb, so + k, none⟩) (by show sb < N; omega)).trans sc1
            obtain ⟨un1, un2, un3, un4⟩ := used_next HS.out hkl hus
            have SV := Lib.hid (setOk_out k HS.out hks)
            obtain ⟨q, hq⟩ : ∃ q, q = l[k]?.getD q0 := ⟨_, rfl⟩
            obtain ⟨z, hz⟩ : ∃ z, z = s[k]?.getD 0 := ⟨_, rfl⟩
            rw [← hq] at d0 d1 d2 d3 un1 un2 un3 un4
            rw [← hz] at sc sc1 un1 un2 un3 un4
            obtain ⟨pl, hpl⟩ : ∃ x, x = placesAll q z := ⟨_, rfl⟩
            obtain ⟨bv, hbv⟩ : ∃ x, x = decide (LabOk q ∧ Fits q z) := ⟨_, rfl⟩
            have CP : Hid (∀ W, Calls Try.prog 14 #[qv q, .int .i64 z] W fun e w' => ∃ v, e = .returned (.tuple #[v, .bool bv]) ∧ Own W.heap.size w'.heap.size w' v pl ∧ Below W.heap.size W w') := by
              rw [hbv, hpl]; exact LabelPlaces_any q z
            rw [← hpl] at un1 un3 un4
            rw [← hbv] at un2
            have BV := Lib.hid un2
            have U3 := Lib.hid un3
            have U4 := Lib.hid un4
            have HZ := Lib.hid hz
            have pl5 := un1
            have a5 : A.length ≤ 40 := by have := hus.1; have := SL.out; omega
            have lbr : lb < wr.heap.size := by omega
            have sbr : sb < wr.heap.size := by omega
            have k0 : wr.drew.cell? ⟨lb, lo + k * 4, none⟩ = some (.int .i64 q.1) := d0
            have k1 : wr.drew.cell? ⟨lb, lo + k * 4 + 1, none⟩ = some (.int .i64 q.2.1) := d1
            have k2 : wr.drew.cell? ⟨lb, lo + k * 4 + 2, none⟩ = some (.int .i64 q.2.2.1) := d2
            have k3 : wr.drew.cell? ⟨lb, lo + k * 4 + 3, none⟩ = some (.int .i64 q.2.2.2) := d3
            have k4 : wr.drew.cell? ⟨sb, so + k, none⟩ = some (.int .i64 z) := sc
            clear hq hz hpl hbv hcell h3 hown hus hbel un1 un2 un3 un4 d0 d1 d2 d3 sc
            go_wp2_with fail
            go_region_held3 (fun w' => w'.cell? ⟨lb, lo + k * 4, none⟩ = some (.int .i64 q.1) ∧ w'.cell? ⟨lb, lo + k * 4 + 1, none⟩ = some (.int .i64 q.2.1) ∧ w'.cell? ⟨lb, lo + k * 4 + 2, none⟩ = some (.int .i64 q.2.2.1) ∧ w'.cell? ⟨lb, lo + k * 4 + 3, none⟩ = some (.int .i64 q.2.2.2) ∧ w'.cell? ⟨sb, so + k, none⟩ = some (.int .i64 z))
              (first | with_reducible exact ⟨k0, k1, k2, k3, k4⟩ | with_reducible exact ⟨r0, r1, r2, r3, r4⟩ | fail)
              (first | (go_at_call 14; (refine (CP.out _).mono ?_); rintro e w5 ⟨v5, rfl, hO5, hb5⟩; have r0 := (hb5.cell (p := ⟨lb, lo + k * 4, none⟩) lbr).trans k0; have r1 := (hb5.cell (p := ⟨lb, lo + k * 4 + 1, none⟩) lbr).trans k1; have r2 := (hb5.cell (p := ⟨lb, lo + k * 4 + 2, none⟩) lbr).trans k2; have r3 := (hb5.cell (p := ⟨lb, lo + k * 4 + 3, none⟩) lbr).trans k3; have r4 := (hb5.cell (p := ⟨sb, so + k, none⟩) sbr).trans k4; have HO5 := Lib.hid hO5; have HB5 := Lib.hid hb5; clear hO5 hb5) | fail)
            all_goals
              rename_i hh
              clear hh r0 r1 r2 r3 r4 k0 k1 k2 k3 k4
              have BX : Hid (Below wr.heap.size wr w5) := ((Below.refl wr.heap.size wr).drew).trans HB5.out
              have s5 : wr.heap.size ≤ w5.heap.size := BX.out.size
              have OX5 := Lib.hid (ownsRow_kb OX.out BX.out)
              have IR5 : Hid (IntsR (Value.ownBlock (.slice xa A.length xc)) w5 v5 pl) := HO5.out.intsR (fun g hg => (OX.out.lt g hg).2)
              have HB5' := Lib.hid (HB.out.trans (BX.out.mono sr))
              clear HB5 HO5 BX
              go_wp2_with fail
              go_loopw [7, 12] (fun x j W => ∃ m : Nat, m ≤ pl.length ∧ j = .int .i64 m ∧ W.ownsRow N 3 1 x (A ++ pl.take m).length ((A ++ pl.take m).map (Value.int .i64)) ∧ IntsR x.ownBlock W v5 pl ∧ N ≤ W.heap.size ∧ Below N w3 W) (fun _ j _ => pl.length - (intOf j).toNat)
              case atStart => exact ⟨0, Nat.zero_le _, rfl, by simpa using OX5.out, IR5.out, by omega, HB5'.out⟩
              case round =>
                clear OX5 IR5 HB5' OX HB s5 lbr sbr sr s3r
                obtain ⟨m, hm, rfl, hown, hir, sr, hbel⟩ := hrel
                have HB := Lib.hid hbel
                have s3r := hbel.size
                obtain ⟨ya, yc, hx⟩ := ownsRow_slice hown
                subst hx
                have OX := Lib.hid hown
                have IR := Lib.hid hir
                obtain ⟨pa, pc, hv5, _⟩ := id hir
                subst hv5
                by_cases hml : m < pl.length
                · have y1 : (m : Int) < (pl.length : Int) := by omega
                  have y3 : (0 : Int) ≤ (m : Int) := by omega
                  obtain ⟨pb, po, hpa, pc1⟩ := hir.cell (k := m) hml
                  subst hpa
                  have FR := Lib.hid (U4.out m hml)
                  have AI := Lib.hid ((own_of_ownsRow hown (Nat.le_refl _)).ints)
                  have NX : Hid ((A ++ pl.take m) ++ [pl[m]?.getD 0] = A ++ pl.take (m + 1)) := by
                    show _ = _
                    rw [List.append_assoc, ← take_one hml]
                  obtain ⟨c, hc⟩ : ∃ c, c = pl[m]?.getD 0 := ⟨_, rfl⟩
                  rw [← hc] at pc1 FR NX
                  have ul : (A ++ pl.take m).length ≤ 1000 := by rw [List.length_append, List.length_take]; omega
                  obtain ⟨UA, hUA⟩ : ∃ x, x = A ++ pl.take m := ⟨_, rfl⟩
                  rw [← hUA] at FR AI NX OX ul IR
                  rw [← hUA]
                  clear hc hUA hown hir hbel
                  go_wp2_with fail
                  refine (hasInt_any _ UA c wr AI.out).mono ?_
                  rintro e w6 ⟨rfl, rfl⟩
                  rw [decide_eq_false FR.out]
                  have HO9 : Hid ((wr.alloc (.cells #[.int .i64 c] 3)).ownsRow N 3 1 (.slice ya UA.length yc) UA.length (UA.map (Value.int .i64))) := OX.out.alloc _
                  have HC9 : Hid ((wr.alloc (.cells #[.int .i64 c] 3)).cell? ⟨wr.heap.size, 0, none⟩ = some (.int .i64 c)) := by show World.cell? _ _ = _; simp
                  have HS9 : N ≤ (wr.alloc (.cells #[.int .i64 c] 3)).heap.size := by simp; omega
                  have IR9 := Lib.hid (IR.out.below ((Below.refl wr.heap.size wr).alloc (Nat.le_refl _) (.cells #[.int .i64 c] 3)))
                  have HB9 := Lib.hid (HB.out.alloc sr (.cells #[.int .i64 c] 3))
                  clear IR HB OX
                  go_wp2_with (at_builtin; (refine app_keep (wr.alloc (.cells #[.int .i64 c] 3)) rfl _ _ rfl N _ UA c wr.heap.size HO9.out HC9.out rfl rfl ul HS9 ?_); intro v' w9 o1 o2 g1 xt; have IRN := Lib.hid (IR9.out.grown g1 xt rfl (Nat.le_refl _)); have hb9 := HB9.out.grown g1 HS9 (fun g hg => (HO9.out.lt g hg).1); have HBN := Lib.hid hb9; have s9 := Nat.le_trans HS9 g1.size; have ON := Lib.hid o1; clear o1 o2 g1 xt hb9)
                  go_roundw
                  case rel => exact ⟨m + 1, by omega, by go_num, by rw [← NX.out]; exact ON.out, IRN.out, s9, HBN.out⟩
                  case measure => simp [intOf]; omega
                · obtain rfl : m = pl.length := by omega
                  rw [List.take_length] at OX
                  rw [List.take_length]
                  have hI := Lib.hid (UI.out.below (HB.out.mono wN) (Nat.le_refl _))
                  have HH := Lib.hid (H.out.below HB.out zN)
                  have cs := (hbel.cell (p := ⟨sb, so + k, none⟩) (by show sb < N; omega)).trans sc1
                  have sbr : sb < wr.heap.size := by omega
                  obtain ⟨UA, hUA⟩ : ∃ x, x = A ++ pl := ⟨_, rfl⟩
                  rw [← hUA] at OX U3
                  rw [← hUA]
                  have ARM0 := True.intro
                  clear hUA hown hir hbel IR hml
                  by_cases hz0 : (0 : Int) ≤ z
                  · obtain rfl : bv = true := BV.out.trans (decide_eq_true hz0)
                    go_wp2_with (at_builtin; (refine app_copy wr rfl _ _ rfl _ s hI.out rfl rfl slen ?_); intro v' w6 hown6 hbel6; have s6 := hbel6.size; obtain ⟨xa2, xc2, hx, hxc⟩ := ints_shape hown6.ints; subst hx; obtain ⟨xb, xo, hxa, y1, y2, c0, f0, hset⟩ := own_at hown6 (k := k) hks; subst hxa; rw [← HZ.out] at c0; have AO := Lib.hid (hset (-1)); have hs6 := hbel6.setCell (p := ⟨xb, xo + k, none⟩) y1 (.int .i64 (-1)); have H6 := Lib.hid (HH.out.below hs6 (by omega)); have HB6 := Lib.hid (HB.out.trans (hs6.mono sr)); have OX6 := Lib.hid (ownsRow_kb OX.out hs6); have cz := (hs6.cell (p := ⟨sb, so + k, none⟩) sbr).trans cs; clear hown6 hbel6 hset hs6)
                    refine (SettingValid_any _ _ l (s.set k (-1)) _ (H6.out.quads (by simp; omega)) AO.out.ints).mono ?_
                    rintro e w7 ⟨rfl, hb7⟩
                    rw [decide_eq_true SV.out]
                    have OX7 := Lib.hid (ownsRow_kb OX6.out hb7)
                    have HB7 := Lib.hid (HB6.out.trans (hb7.mono (by simp; omega)))
                    clear hb7
                    go_wp2_with fail
                    go_roundw
                    case rel => exact ⟨k + 1, UA, by omega, by go_num, U3.out, OX7.out, HB7.out⟩
                    case measure => simp [intOf]; omega
                  · obtain rfl : bv = false := BV.out.trans (decide_eq_false hz0)
                    go_wp2_with (at_builtin; (refine app_copy wr rfl _ _ rfl _ s hI.out rfl rfl slen ?_); intro v' w6 hown6 hbel6; have s6 := hbel6.size; obtain ⟨xa2, xc2, hx, hxc⟩ := ints_shape hown6.ints; subst hx; obtain ⟨xb, xo, hxa, y1, y2, c0, f0, hset⟩ := own_at hown6 (k := k) hks; subst hxa; rw [← HZ.out] at c0; have AO := Lib.hid (hset (-1)); have hs6 := hbel6.setCell (p := ⟨xb, xo + k, none⟩) y1 (.int .i64 (-1)); have H6 := Lib.hid (HH.out.below hs6 (by omega)); have HB6 := Lib.hid (HB.out.trans (hs6.mono sr)); have OX6 := Lib.hid (ownsRow_kb OX.out hs6); have cz := (hs6.cell (p := ⟨sb, so + k, none⟩) sbr).trans cs; clear hown6 hbel6 hset hs6)
                    refine (SettingValid_any _ _ l (s.set k (-1)) _ (H6.out.quads (by simp; omega)) AO.out.ints).mono ?_
                    rintro e w7 ⟨rfl, hb7⟩
                    rw [decide_eq_true SV.out]
                    have OX7 := Lib.hid (ownsRow_kb OX6.out hb7)
                    have HB7 := Lib.hid (HB6.out.trans (hb7.mono (by simp; omega)))
                    clear hb7
                    go_wp2_with fail
                    go_roundw
                    case rel => exact ⟨k + 1, UA, by omega, by go_num, U3.out, OX7.out, HB7.out⟩
                    case measure => simp [intOf]; omega
          · obtain rfl : k = s.length := by omega
            have HF := Lib.hid (BN.out _ HB.out)
            clear OX US hown hus hbel
            go_wp2_with fail
            go_ret
            exact ⟨rfl, HF.out⟩
  · rw [decide_eq_false hs]
    clear hs
    go_wp2
    go_ret
    exact ⟨rfl, B.out⟩
end Go.Proofs.Ytbpcjdhbbighgaa
namespace Go.Proofs.Ytbpcjdhbbighgaa.fnSetting
open Go.ChangeShapes Go.WideShapes Go.ChangeAt Go.RowKit
set_option linter.unusedVariables false

theorem own : ownKnob Try.prog.godebug = none := by kernel_rfl
theorem laidOut : laidOutB Try.prog = true := fact_laid
set_option maxRecDepth 100000 in
theorem lifted (os : Os) (started : os.Started) (H : Type) (enc : TypeId × Value → H) :
    ReturnsInHanded {} Try.checked os 7 .any (Rows.fnSettingSpec.pre6 enc Try.prog Try.f7 Rows.fnSettingRow.domain false) (Rows.fnSettingSpec.post enc Try.prog Try.f7 false true false false) := by
  refine returnsInHanded_of_change (C := Try.checked) own started (by kernel_rfl) Try.func7
    (ChangeSpec.witness6 (enc := enc) (C := Try.checked) false ⟨#[], #[.slice none 0 0], []⟩ 8 (by kernel_rfl) (by kernel_rfl) (by kernel_rfl) (by kernel_rfl)) ?_
  intro W base args ds gs before hval0 hW hcnd _
  have hval : ∀ (j : Nat) t v, Try.f7.params[j]? = some t → args[j]? = some v → Value.okWide Try.prog W .any base t v := hval0
  have hW' := hW
  obtain ⟨p, q, hA0, hV, rfl, hfz, hnd⟩ := hW
  have hA : DataW.TrodAll enc Try.prog W 0 (fun _ => true) true Try.f7.params.toList args.toList ds p := hA0
  rw [Try.params7] at hA hval
  obtain ⟨v0, vs0, d0, ds0, p0, q0, hargs, rfl, rfl, h0, r0⟩ := trodAll_cons hA
  obtain ⟨rfl, rfl, rfl⟩ := trodAll_nil r0
  obtain rfl : args = #[v0] := by cases args; simp_all
  obtain ⟨rfl, rfl⟩ := trodVars_none hV
  obtain ⟨a0, len0, cap0, rfl⟩ := okWide_slice Try.underlying22 (hval 0 22 v0 rfl rfl)
  have k0 := h0
  have lt0 : ∀ x ∈ p0, x.block < W.heap.size := by obtain ⟨m, hm⟩ := k0; exact DataW.trod_lt m _ _ _ hm
  obtain ⟨z0, w0⟩ : ∃ zs, Bytes W (.slice a0 len0 cap0) zs := bytes_opened h0
  clear hA0 hval0
  refine (FnSetting_walk _ z0 W w0).mono fun e W' ⟨he, bel⟩ => ?_
  subst he
  exact ⟨_, rfl, _, _, _, [], _, [], hW', trodAll_mk1 (shut_bool Try.underlying4 _), (trodAll_cons_mk (Below.trod laidOut (by kernel_rfl) (of_decide_eq_true (by kernel_rfl)) k0 bel lt0) trodAll_mk0), rfl, bel.frame _, fun h => by cases h⟩
theorem fact_inPlace : (Rows.fnSettingRow.inPlace == Try.prog.inPlace 7) = true := by kernel_rfl
theorem fact_unfollowed : (Rows.fnSettingRow.unfollowed == Try.prog.unfollowed 7) = true := by kernel_rfl
theorem fact_recurses : (Rows.fnSettingRow.recurses == Try.prog.recurses 7) = true := by kernel_rfl
theorem fact_named : (Rows.fnSettingRow.named == Try.prog.varsNamed 7) = true := by kernel_rfl
theorem fact_plain : (Rows.fnSettingRow.plainKeys == Try.prog.plainKeys) = true := by kernel_rfl
theorem joined : joinedFacts Try.pinned.checked.prog 7 Try.f7 Rows.fnSettingSpec Rows.fnSettingRow = true :=
  joined_of (f := 7) (fn := Try.f7) (s := Rows.fnSettingSpec) (c := Rows.fnSettingRow) (by kernel_rfl) (by kernel_rfl) (by kernel_rfl) (by kernel_rfl) (by kernel_rfl) fact_inPlace fact_unfollowed fact_recurses fact_named (by kernel_rfl) (by kernel_rfl) (by kernel_rfl) (by kernel_rfl) (by kernel_rfl) (by kernel_rfl) (by kernel_rfl) (by kernel_rfl) (by kernel_rfl) fact_plain (by kernel_rfl) rfl rfl (by kernel_rfl) (by kernel_rfl) (by kernel_rfl) (by kernel_rfl)

/-- the statement -/
theorem proved : Rows.FnSettingSaid :=
  OpenClaim.holds_of_wide 7 Try.f7 rfl rfl rfl rfl rfl rfl rfl ⟨rfl, rfl, rfl, rfl, rfl⟩ rfl rfl rfl rfl rfl (by kernel_rfl) Try.func7 joined
    (of_decide_eq_true (by kernel_rfl)) (by unfold Func.isWrapper; first | (rw [if_pos (by decide +kernel)]; kernel_rfl) | (rw [if_neg (by decide +kernel)]; exact ⟨rfl, rfl⟩))
    (fun os started H enc _ => lifted os started H enc)
#print axioms proved
end Go.Proofs.Ytbpcjdhbbighgaa.fnSetting
