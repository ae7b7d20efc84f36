/-
  The draws of labels: l92Labels. Conditions: the reader has picked fewer than a million times; at most six labels are asked for.
-/
import Derived.Test.YtbpcjdhbbighgaaAppQ
import Derived.Test.YtbpcjdhbbighgaaRd
namespace Go.Proofs.Ytbpcjdhbbighgaa
open Go.RowKit Go.Deep

theorem pick_i (R P : Nat) (m : Int) (w : World) (h : Rd w R P) (hP : P ≤ 1000000) (h1 : 1 ≤ m) (h2 : m ≤ 1000000) :
    Calls Try.prog 49 #[.pointer (some ⟨R, 0, none⟩), .int .i64 m] w fun e w' => ∃ k : Int, e = .returned (.int .i64 k) ∧ 0 ≤ k ∧ k < m ∧ Rd w' R (P + 1) ∧ Touch R (R + 1) w w' := by
  obtain ⟨n, rfl⟩ : ∃ n : Nat, m = (n : Int) := ⟨m.toNat, by omega⟩
  refine (pick_any R P n w h (by omega) (by omega) (by omega)).mono fun e w' hp => ?_
  obtain ⟨k, he, hk, hr, ht⟩ := hp
  exact ⟨(k : Int), he, by omega, by omega, hr, ht⟩

theorem ownsRow_touch {w w' : World} {R base n size : Nat} {e : TypeId} {v : Value} {xs : List Value} (h : w.ownsRow base e size v n xs) (ht : Touch R (R + 1) w w') (hR : R < base) : w'.ownsRow base e size v n xs :=
  h.kept (row := some R) ⟨ht.os, ht.tape, ht.output, ht.size, fun k hk hne => ht.block k hk (fun hh => hne (by rw [show k = R by omega]))⟩ (by
    cases hb : v.ownBlock with
    | none => exact .inl rfl
    | some g => right; intro e; have hg := (h.lt g hb).1; simp at e; omega)
theorem ownsRow_mono {w : World} {base base' n size : Nat} {e : TypeId} {v : Value} {xs : List Value} (h : w.ownsRow base e size v n xs) (hb : base' ≤ base) : w.ownsRow base' e size v n xs := by
  refine ⟨h.1, ?_⟩
  rcases h.2 with h2 | ⟨g, cap, cur, hv, hg, r⟩
  · exact .inl h2
  · exact .inr ⟨g, cap, cur, hv, by omega, r⟩

theorem cell2_new' (w : World) (x y : Value) (t : TypeId) : (w.alloc (.cells #[x, y] t)).cell? ⟨w.heap.size, 0, none⟩ = some x ∧ (w.alloc (.cells #[x, y] t)).cell? ⟨w.heap.size, 1, none⟩ = some y := by
  have h := heap_alloc_new w (.cells #[x, y] t)
  constructor <;> (unfold World.cell?; simp only [h]; rfl)
theorem Touch.then {lo hi : Nat} {a b c : World} (h : Touch lo hi a b) (k : Below a.heap.size b c) : Touch lo hi a c :=
  ⟨k.os.trans h.os, k.tape.trans h.tape, k.output.trans h.output, Nat.le_trans h.size k.size, fun i hi hn => (k.block i hi).trans (h.block i hi hn)⟩

/-- a row of structs whose first one gets another width, or another X -/
theorem ownQ_setW {w : World} {lo hi b off cap n : Nat} {t : TypeId} {l : List Quad} {f : Nat → Value} (z : Int) (hp : 0 < l.length) (h1 : l.length ≤ cap) (h2 : cap ≤ 9223372036854775807) (h3 : lo ≤ b) (h4 : b < hi) (h5 : w.rowIs b t n f) (h6 : off + l.length * 4 ≤ n)
    (h7 : ∀ j, j < l.length → f (off + j * 4) = .int .i64 (l[j]?.getD q0).1 ∧ f (off + j * 4 + 1) = .int .i64 (l[j]?.getD q0).2.1 ∧ f (off + j * 4 + 2) = .int .i64 (l[j]?.getD q0).2.2.1 ∧ f (off + j * 4 + 3) = .int .i64 (l[j]?.getD q0).2.2.2) :
    OwnQ lo hi (w.setCell ⟨b, off + 2, none⟩ (.int .i64 z)) (.slice (some ⟨b, off, none⟩) l.length cap) (l.set 0 ((l[0]?.getD q0).1, (l[0]?.getD q0).2.1, z, (l[0]?.getD q0).2.2.2)) := by
  have hl : (l.set 0 ((l[0]?.getD q0).1, (l[0]?.getD q0).2.1, z, (l[0]?.getD q0).2.2.2)).length = l.length := by simp
  refine .inr ⟨b, off, cap, t, n, _, by rw [hl], by omega, h2, h3, h4, h5.set (off + 2) (.int .i64 z), by omega, fun j hj => ?_⟩
  rw [hl] at hj
  obtain ⟨g0, g1, g2, g3⟩ := h7 j hj
  by_cases e : j = 0
  · subst e
    simp only [Nat.zero_mul, Nat.add_zero] at g0 g1 g2 g3 ⊢
    rw [List.getElem?_set_self hp]
    exact ⟨(if_neg (by omega)).trans g0, (if_neg (by omega)).trans g1, by simp, (if_neg (by omega)).trans g3⟩
  · rw [List.getElem?_set_ne (fun h => e h.symm)]
    exact ⟨(if_neg (by omega)).trans g0, (if_neg (by omega)).trans g1, (if_neg (by omega)).trans g2, (if_neg (by omega)).trans g3⟩
theorem ownQ_setX {w : World} {lo hi b off cap n : Nat} {t : TypeId} {l : List Quad} {f : Nat → Value} (z : Int) (hp : 0 < l.length) (h1 : l.length ≤ cap) (h2 : cap ≤ 9223372036854775807) (h3 : lo ≤ b) (h4 : b < hi) (h5 : w.rowIs b t n f) (h6 : off + l.length * 4 ≤ n)
    (h7 : ∀ j, j < l.length → f (off + j * 4) = .int .i64 (l[j]?.getD q0).1 ∧ f (off + j * 4 + 1) = .int .i64 (l[j]?.getD q0).2.1 ∧ f (off + j * 4 + 2) = .int .i64 (l[j]?.getD q0).2.2.1 ∧ f (off + j * 4 + 3) = .int .i64 (l[j]?.getD q0).2.2.2) :
    OwnQ lo hi (w.setCell ⟨b, off, none⟩ (.int .i64 z)) (.slice (some ⟨b, off, none⟩) l.length cap) (l.set 0 (z, (l[0]?.getD q0).2)) := by
  have hl : (l.set 0 (z, (l[0]?.getD q0).2)).length = l.length := by simp
  refine .inr ⟨b, off, cap, t, n, _, by rw [hl], by omega, h2, h3, h4, h5.set off (.int .i64 z), by omega, fun j hj => ?_⟩
  rw [hl] at hj
  obtain ⟨g0, g1, g2, g3⟩ := h7 j hj
  by_cases e : j = 0
  · subst e
    simp only [Nat.zero_mul, Nat.add_zero] at g0 g1 g2 g3 ⊢
    rw [List.getElem?_set_self hp]
    exact ⟨by simp, (if_neg (by omega)).trans g1, (if_neg (by omega)).trans g2, (if_neg (by omega)).trans g3⟩
  · rw [List.getElem?_set_ne (fun h => e h.symm)]
    exact ⟨(if_neg (by omega)).trans g0, (if_neg (by omega)).trans g1, (if_neg (by omega)).trans g2, (if_neg (by omega)).trans g3⟩

set_option maxHeartbeats 2000000 in
set_option maxRecDepth 100000 in
theorem l92Labels_any (R P : Nat) (most : Int) (w : World) (h : Rd w R P) (hP : P ≤ 1000) (h0 : 0 ≤ most) (h6 : most ≤ 6) :
    Calls Try.prog 54 #[.pointer (some ⟨R, 0, none⟩), .int .i64 most] w fun e w' => ∃ v l P', e = .returned v ∧ OwnQ w.heap.size w'.heap.size w' v l ∧ l.length ≤ 7 ∧ Rd w' R P' ∧ P' ≤ P + 100 ∧ Touch R (R + 1) w w' := by
  have hRw := h.lt
  have HR0 := Lib.hid h
  clear h
  go_enter Try.func54, Try.ntmps54
  go_wp2_with fail
  have HRa := Lib.hid (HR0.out.below ((Below.refl w.heap.size w).alloc (Nat.le_refl _) (.cells #[] 24)) hRw)
  refine (pick_i R P _ _ HRa.out (by omega) (by omega) (by omega)).mono ?_
  rintro e w1 ⟨n, rfl, hn0, hn1, hrd1, ht1⟩
  have HR1 := Lib.hid hrd1
  have HT1 := Lib.hid ht1
  clear hrd1 ht1
  go_wp2_with fail
  refine (pick_i R (P + 1) _ _ HR1.out (by omega) (by omega) (by omega)).mono ?_
  rintro e w2 ⟨x, rfl, hx0, hx1, hrd2, ht2⟩
  have HR2 := Lib.hid hrd2
  have HT2 := Lib.hid (HT1.out.trans ht2)
  clear hrd2 ht2
  go_wp2_with fail
  refine (pick_i R (P + 1 + 1) _ _ HR2.out (by omega) (by omega) (by omega)).mono ?_
  rintro e w3 ⟨y, rfl, hy0, hy1, hrd3, ht3⟩
  have HR3 := Lib.hid hrd3
  have HT3 := Lib.hid (HT2.out.trans ht3)
  have hs3 := HT3.out.size
  simp at hs3
  have HO3 := Lib.hid (ownsRow_touch (World.ownsRow_made (base := w.heap.size) (e := 24) (size := 4) w #[] 0 (Nat.le_refl _) (by decide) rfl) HT3.out hRw)
  have HW3 := Lib.hid (show Touch R (R + 1) w w3 from (((Below.refl w.heap.size w).alloc (Nat.le_refl _) (.cells #[] 24)).touch w.heap.size (Nat.le_refl _) |> fun t => (Touch.mk t.os t.tape t.output t.size (fun k hk _ => t.block k hk (by omega)) : Touch R (R + 1) w _)).trans HT3.out)
  clear hrd3 ht3
  go_wp2
  obtain ⟨N, rfl⟩ : ∃ N : Nat, n = (N : Int) := ⟨n.toNat, by omega⟩
  go_loopw [5, 9, 10] (fun v i _ wr => ∃ (k : Nat) (P' : Nat) (l : List Quad), k ≤ N ∧ i = .int .i64 k ∧ wr.ownsRow w.heap.size 24 4 v l.length (flat l) ∧ l.length ≤ k ∧ Rd wr R P' ∧ P' ≤ P + 3 + 4 * k ∧ Touch R (R + 1) w wr) (fun _ i _ _ => N - (intOf i).toNat)
  case atStart => exact ⟨0, P + 3, [], Nat.zero_le _, rfl, HO3.out, Nat.le_refl _, HR3.out, Nat.le_refl _, HW3.out⟩
  case round =>
    obtain ⟨k, P', l, hk, rfl, hown, hlk, hrd, hPk, ht⟩ := hrel
    have HO := Lib.hid hown
    have HRd := Lib.hid hrd
    have HT := Lib.hid ht
    have hsr := ht.size
    clear hown hrd ht
    obtain ⟨a, cap, rfl, hcap1, hcap2, _⟩ := (ownQ_of_ownsRow HO.out (Nat.le_refl _)).quads
    by_cases hlt : k < N
    · have HQ := Lib.hid ((ownQ_of_ownsRow HO.out (Nat.le_refl _)).quads.quadsB)
      have hbA := (Below.refl wr.heap.size wr).alloc (Nat.le_refl _) (.cells #[] 24)
      have HBA := Lib.hid hbA
      clear hbA
      go_wp2_with (at_builtin; refine app_quads wr _ rfl _ _ rfl wr.heap.size _ [] _ l (World.ownsRow_made wr #[] 0 (Nat.le_refl _) (by decide) rfl) ((HQ.out.below HBA.out (Nat.le_refl _)).quads (by simp)) rfl rfl (by simp; omega) (by simp) HBA.out ?_; intro v4 w4 hown4 hbel4)
      have hs4 := hbel4.size
      have HR4 := Lib.hid (HRd.out.below hbel4 HRd.out.lt)
      have HB4 := Lib.hid hbel4
      have HO4 := Lib.hid hown4
      have hRr := HRd.out.lt
      clear hown4 hbel4
      go_wp2_with fail
      refine (pick_i R P' _ _ HR4.out (by omega) (by omega) (by omega)).mono ?_
      rintro e w5 ⟨a1, rfl, ha10, ha11, hrd5, ht5⟩
      have HR5 := Lib.hid hrd5
      have HT5 := Lib.hid ht5
      clear hrd5 ht5
      go_wp2_with fail
      refine (pick_i R (P' + 1) _ _ HR5.out (by omega) (by omega) (by omega)).mono ?_
      rintro e w6 ⟨a2, rfl, ha20, ha21, hrd6, ht6⟩
      have HR6 := Lib.hid hrd6
      have HT6 := Lib.hid (HT5.out.trans ht6)
      clear hrd6 ht6
      go_wp2_with fail
      refine (pick_i R (P' + 1 + 1) _ _ HR6.out (by omega) (by omega) (by omega)).mono ?_
      rintro e w7 ⟨a3, rfl, ha30, ha31, hrd7, ht7⟩
      have HR7 := Lib.hid hrd7
      have HT7 := Lib.hid (HT6.out.trans ht7)
      clear hrd7 ht7
      go_wp2_with fail
      refine (pick_i R (P' + 1 + 1 + 1) _ _ HR7.out (by omega) (by omega) (by omega)).mono ?_
      rintro e w8 ⟨a4, rfl, ha40, ha41, hrd8, ht8⟩
      have HR8 := Lib.hid hrd8
      have HT8 := Lib.hid (HT7.out.trans ht8)
      have hs8 := HT8.out.size
      have HO8 := Lib.hid (ownsRow_touch HO4.out HT8.out hRr)
      clear hrd8 ht8
      obtain ⟨q, hq⟩ : ∃ q : Quad, q = ((x + a1) % 10, (y + a2) % 10, 1 + a3, 1 + a4) := ⟨_, rfl⟩
      clear hq
      go_wp2_with (at_builtin; refine app_quad w8 w8 rfl _ _ rfl wr.heap.size _ l ((x + a1) % 10, (y + a2) % 10, 1 + a3, 1 + a4) HO8.out rfl w8.heap.size rfl rfl (by omega) (by omega) ((Below.refl w8.heap.size w8).mono (by omega)) ?_; intro v9 w9 hown9 hbel9)
      have hs9 := hbel9.size
      have HO9 := Lib.hid hown9
      have HT9 := Lib.hid ((((Touch.refl R (R + 1) wr).then HB4.out).trans HT8.out).then hbel9)
      have HR9 := Lib.hid (HR8.out.below hbel9 hRr)
      clear hown9 hbel9
      obtain ⟨a9, cap9, rfl, hcap91, hcap92, _⟩ := (ownQ_of_ownsRow HO9.out (Nat.le_refl _)).quads
      have HQ9 := Lib.hid ((ownQ_of_ownsRow HO9.out (Nat.le_refl _)).quads)
      go_wp2_with fail
      refine (specLabelsValid_any _ (l ++ [((x + a1) % 10, (y + a2) % 10, 1 + a3, 1 + a4)]) _ HQ9.out).mono ?_
      rintro e w10 ⟨rfl, hb10⟩
      have HO10 := Lib.hid (ownsRow_mono (ownsRow_below HO9.out hb10) hsr)
      have HOl10 := Lib.hid (ownsRow_below (ownsRow_touch HO.out HT9.out hRw) hb10)
      have HR10 := Lib.hid (HR9.out.below hb10 HR9.out.lt)
      have HT10 := Lib.hid ((HT.out.trans HT9.out).trans ((Touch.refl R (R + 1) w9).then hb10))
      clear hb10
      by_cases hv : ValidL (l ++ [((x + a1) % 10, (y + a2) % 10, 1 + a3, 1 + a4)])
      · have HV := Lib.hid (decide_eq_true hv)
        clear hv
        rw [HV.out]
        go_wp2
        go_roundw
        case rel => exact ⟨k + 1, P' + 1 + 1 + 1 + 1, l ++ [((x + a1) % 10, (y + a2) % 10, 1 + a3, 1 + a4)], by omega, by go_num, by have h := HO10.out; simp only [List.length_append, List.length_cons, List.length_nil] at h ⊢; exact h, by rw [List.length_append]; simp only [List.length_cons, List.length_nil]; omega, HR10.out, by omega, HT10.out⟩
        case measure => simp [intOf]; omega
      · have HV := Lib.hid (decide_eq_false hv)
        clear hv
        rw [HV.out]
        go_wp2
        go_roundw
        case rel => exact ⟨k + 1, P' + 1 + 1 + 1 + 1, l, by omega, by go_num, HOl10.out, by omega, HR10.out, by omega, HT10.out⟩
        case measure => simp [intOf]; omega
    · obtain rfl : N = k := by omega
      by_cases hpos : 0 < l.length
      · have hRr := HRd.out.lt
        go_wp2_with fail
        refine (pick_i R P' _ _ HRd.out (by omega) (by omega) (by omega)).mono ?_
        rintro e w4 ⟨c, rfl, hc0, hc1, hrd4, ht4⟩
        have HR4 := Lib.hid hrd4
        have HT4 := Lib.hid (HT.out.trans ht4)
        have hs4 := ht4.size
        have HO4 := Lib.hid (ownsRow_touch HO.out ht4 hRw)
        clear hrd4 ht4
        have hne0 : ∀ z : Int, c ≠ z → (c == z) = false := fun z h => by simp [h]
        have NE := Lib.hid hne0
        clear hne0
        by_cases e0 : c = 0
        · subst e0
          go_wp2_with fail
          obtain ⟨b9, off9, cap9, t9, n9, f9, hv9, hk91, hk92, hlo9, hhi9, hrow9, hlen9, hf9⟩ := (ownQ_of_ownsRow HO4.out (Nat.le_refl _)).resolve_left (fun h => by rw [h.1] at hpos; simp at hpos)
          obtain ⟨rfl, rfl⟩ : a = some ⟨b9, off9, none⟩ ∧ cap = cap9 := by simp at hv9; exact hv9
          have HB5 := Lib.hid ((Below.refl w4.heap.size w4).alloc (Nat.le_refl _) (.cells #[.int .i64 (0), .int .i64 (6)] 3))
          have HROW := Lib.hid hrow9
          have HF := Lib.hid hf9
          have hR4 := HR4.out.lt
          have hne : R ≠ b9 := by omega
          clear hrow9 hf9 hv9
          refine (pick_i R (P' + 1) _ _ (HR4.out.below HB5.out hR4) (by omega) (by omega) (by omega)).mono ?_
          rintro e w6 ⟨d, rfl, hd0, hd1, hrd6, ht6⟩
          have HT6 := Lib.hid (((Touch.refl R (R + 1) w4).then HB5.out).trans ht6)
          obtain ⟨x1, x2⟩ := cell2_new' w4 (.int .i64 (0)) (.int .i64 (6)) 3
          have y1 : w6.cell? ⟨w4.heap.size, 0, none⟩ = some (.int .i64 (0)) := (World.cell?_of_block (ht6.block w4.heap.size (by simp) (by omega))).trans x1
          have y2 : w6.cell? ⟨w4.heap.size, 1, none⟩ = some (.int .i64 (6)) := (World.cell?_of_block (ht6.block w4.heap.size (by simp) (by omega))).trans x2
          have hR6 := HROW.out.of_block (HT6.out.block b9 HROW.out.lt (by omega))
          have hs6 := HT6.out.size
          have d2 := hR6.cell (i := off9 + 2) (by omega)
          have f2 := hR6.frozen (off9 + 2)
          have HR6' := Lib.hid hR6
          have HRd6 := Lib.hid hrd6
          clear hrd6 ht6 x1 x2 hR6
          obtain ⟨u2, hu2⟩ : ∃ u, u = f9 (off9 + 2) := ⟨_, rfl⟩
          rw [← hu2] at d2
          clear hu2
          have hd : d = 0 ∨ d = 1 := by omega
          rcases hd with rfl | rfl
          · go_wp2
            go_ret
            have hset : Below b9 w6 (w6.setCell ⟨b9, off9 + 2, none⟩ (.int .i64 (0))) := (Below.refl b9 w6).setCell (p := ⟨b9, off9 + 2, none⟩) (Nat.le_refl b9) _
            exact ⟨_, _, P' + 1 + 1, rfl, ownQ_setW (hi := (w6.setCell ⟨b9, off9 + 2, none⟩ (.int .i64 (0))).heap.size) (0) hpos hk91 hk92 hlo9 (by simp [World.setCell]; omega) HR6'.out hlen9 HF.out, by rw [List.length_set]; omega, HRd6.out.below hset (by omega), by omega, (HT4.out.trans HT6.out).then (hset.mono hlo9)⟩
          · go_wp2
            go_ret
            have hset : Below b9 w6 (w6.setCell ⟨b9, off9 + 2, none⟩ (.int .i64 (6))) := (Below.refl b9 w6).setCell (p := ⟨b9, off9 + 2, none⟩) (Nat.le_refl b9) _
            exact ⟨_, _, P' + 1 + 1, rfl, ownQ_setW (hi := (w6.setCell ⟨b9, off9 + 2, none⟩ (.int .i64 (6))).heap.size) (6) hpos hk91 hk92 hlo9 (by simp [World.setCell]; omega) HR6'.out hlen9 HF.out, by rw [List.length_set]; omega, HRd6.out.below hset (by omega), by omega, (HT4.out.trans HT6.out).then (hset.mono hlo9)⟩
        · have q0' := NE.out 0 e0
          by_cases e1 : c = 1
          · subst e1
            clear e0 q0'
            go_wp2_with fail
            obtain ⟨b9, off9, cap9, t9, n9, f9, hv9, hk91, hk92, hlo9, hhi9, hrow9, hlen9, hf9⟩ := (ownQ_of_ownsRow HO4.out (Nat.le_refl _)).resolve_left (fun h => by rw [h.1] at hpos; simp at hpos)
            obtain ⟨rfl, rfl⟩ : a = some ⟨b9, off9, none⟩ ∧ cap = cap9 := by simp at hv9; exact hv9
            have HB5 := Lib.hid ((Below.refl w4.heap.size w4).alloc (Nat.le_refl _) (.cells #[.int .i64 (-1), .int .i64 (10)] 3))
            have HROW := Lib.hid hrow9
            have HF := Lib.hid hf9
            have hR4 := HR4.out.lt
            have hne : R ≠ b9 := by omega
            clear hrow9 hf9 hv9
            refine (pick_i R (P' + 1) _ _ (HR4.out.below HB5.out hR4) (by omega) (by omega) (by omega)).mono ?_
            rintro e w6 ⟨d, rfl, hd0, hd1, hrd6, ht6⟩
            have HT6 := Lib.hid (((Touch.refl R (R + 1) w4).then HB5.out).trans ht6)
            obtain ⟨x1, x2⟩ := cell2_new' w4 (.int .i64 (-1)) (.int .i64 (10)) 3
            have y1 : w6.cell? ⟨w4.heap.size, 0, none⟩ = some (.int .i64 (-1)) := (World.cell?_of_block (ht6.block w4.heap.size (by simp) (by omega))).trans x1
            have y2 : w6.cell? ⟨w4.heap.size, 1, none⟩ = some (.int .i64 (10)) := (World.cell?_of_block (ht6.block w4.heap.size (by simp) (by omega))).trans x2
            have hR6 := HROW.out.of_block (HT6.out.block b9 HROW.out.lt (by omega))
            have hs6 := HT6.out.size
            have d2 := hR6.cell (i := off9) (by omega)
            have f2 := hR6.frozen (off9)
            have HR6' := Lib.hid hR6
            have HRd6 := Lib.hid hrd6
            clear hrd6 ht6 x1 x2 hR6
            obtain ⟨u2, hu2⟩ : ∃ u, u = f9 (off9) := ⟨_, rfl⟩
            rw [← hu2] at d2
            clear hu2
            have hd : d = 0 ∨ d = 1 := by omega
            rcases hd with rfl | rfl
            · go_wp2
              go_ret
              have hset : Below b9 w6 (w6.setCell ⟨b9, off9, none⟩ (.int .i64 (-1))) := (Below.refl b9 w6).setCell (p := ⟨b9, off9, none⟩) (Nat.le_refl b9) _
              exact ⟨_, _, P' + 1 + 1, rfl, ownQ_setX (hi := (w6.setCell ⟨b9, off9, none⟩ (.int .i64 (-1))).heap.size) (-1) hpos hk91 hk92 hlo9 (by simp [World.setCell]; omega) HR6'.out hlen9 HF.out, by rw [List.length_set]; omega, HRd6.out.below hset (by omega), by omega, (HT4.out.trans HT6.out).then (hset.mono hlo9)⟩
            · go_wp2
              go_ret
              have hset : Below b9 w6 (w6.setCell ⟨b9, off9, none⟩ (.int .i64 (10))) := (Below.refl b9 w6).setCell (p := ⟨b9, off9, none⟩) (Nat.le_refl b9) _
              exact ⟨_, _, P' + 1 + 1, rfl, ownQ_setX (hi := (w6.setCell ⟨b9, off9, none⟩ (.int .i64 (10))).heap.size) (10) hpos hk91 hk92 hlo9 (by simp [World.setCell]; omega) HR6'.out hlen9 HF.out, by rw [List.length_set]; omega, HRd6.out.below hset (by omega), by omega, (HT4.out.trans HT6.out).then (hset.mono hlo9)⟩
          · have q1' := NE.out 1 e1
            by_cases e2 : c = 2
            · subst e2
              clear e0 e1 q0' q1'
              obtain ⟨a7, cap7, hv7, _, _, hq7⟩ := (ownQ_of_ownsRow HO4.out (Nat.le_refl _)).quads
              obtain ⟨rfl, rfl⟩ : a = a7 ∧ cap = cap7 := by simp at hv7; exact hv7
              obtain ⟨b7, off7, rfl, hb7, hc7⟩ := hq7 hpos
              have hc8 := hc7 0 hpos
              rw [Nat.zero_mul, Nat.add_zero] at hc8
              obtain ⟨q, hq⟩ : ∃ q : Quad, q = l[0]?.getD q0 := ⟨_, rfl⟩
              rw [← hq] at hc8
              obtain ⟨m0, m1, m2, m3⟩ := hc8
              clear hq hq7 hc7 hv7
              go_wp2_with (at_builtin; refine app_quad w4 w4 rfl _ _ rfl w.heap.size _ l q HO4.out rfl w4.heap.size rfl rfl (by omega) (by omega) ((Below.refl w4.heap.size w4).mono (by omega)) ?_; intro v5 w5 hown5 hbel5)
              go_ret
              have hlen5 : (l ++ [q]).length ≤ 7 := by rw [List.length_append]; simp only [List.length_cons, List.length_nil]; omega
              exact ⟨_, l ++ [q], P' + 1, rfl, ownQ_of_ownsRow hown5 (Nat.le_refl _), hlen5, HR4.out.below hbel5 (by omega), by omega, HT4.out.then hbel5⟩
            · have q2' := NE.out 2 e2
              clear e0 e1 e2
              go_wp2
              go_ret
              exact ⟨_, l, P' + 1, rfl, ownQ_of_ownsRow HO4.out (Nat.le_refl _), by omega, HR4.out, by omega, HT4.out⟩
      · go_wp2
        go_ret
        exact ⟨_, l, P', rfl, ownQ_of_ownsRow HO.out (Nat.le_refl _), by omega, HRd.out, by omega, HT.out⟩
end Go.Proofs.Ytbpcjdhbbighgaa
