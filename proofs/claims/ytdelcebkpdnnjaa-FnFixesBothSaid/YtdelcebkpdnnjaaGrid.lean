/-
  Slices of slices of ints: how one reads, its argument opened; the laws' size, copy and comparison of them. Conditions: sizes as the size function leaves them.
-/
import Derived.Test.YtdelcebkpdnnjaaInts
import Derived.Deep.Matrix
namespace Go.Proofs.Ytdelcebkpdnnjaa
open Go.RowKit Go.Deep

abbrev Rows := List (List Int)

/-- v reads as the rows g, all of it in blocks below B -/
def GridB (B : Nat) (w : World) (v : Value) (g : Rows) : Prop :=
  ∃ a cap, v = .slice a g.length cap ∧ g.length ≤ cap ∧ cap ≤ 9223372036854775807 ∧
    (0 < g.length → ∃ b off, a = some ⟨b, off, none⟩ ∧ b < B ∧
      ∀ j, j < g.length → ∃ r, w.cell? ⟨b, off + j, none⟩ = some r ∧ IntsB B w r (g[j]?.getD []))
def Grid (w : World) (v : Value) (g : Rows) : Prop := GridB w.heap.size w v g

theorem IntsB.mono {B B' : Nat} {w : World} {v : Value} {l : List Int} (h : IntsB B w v l) (hB : B ≤ B') : IntsB B' w v l := by
  obtain ⟨a, cap, rfl, h1, h2, h3⟩ := h
  refine ⟨a, cap, rfl, h1, h2, fun h => ?_⟩
  obtain ⟨b, off, rfl, hb', hc⟩ := h3 h
  exact ⟨b, off, rfl, by omega, hc⟩
theorem GridB.mono {B B' : Nat} {w : World} {v : Value} {g : Rows} (h : GridB B w v g) (hB : B ≤ B') : GridB B' w v g := by
  obtain ⟨a, cap, rfl, h1, h2, h3⟩ := h
  refine ⟨a, cap, rfl, h1, h2, fun h => ?_⟩
  obtain ⟨b, off, rfl, hb', hc⟩ := h3 h
  refine ⟨b, off, rfl, by omega, fun j hj => ?_⟩
  obtain ⟨r, hr, hi⟩ := hc j hj
  exact ⟨r, hr, hi.mono hB⟩
theorem GridB.below {B B' : Nat} {w w' : World} {v : Value} {g : Rows} (h : GridB B' w v g) (hb : Below B w w') (hd : B' ≤ B) : GridB B' w' v g := by
  obtain ⟨a, cap, rfl, h1, h2, h3⟩ := h
  refine ⟨a, cap, rfl, h1, h2, fun h => ?_⟩
  obtain ⟨b, off, rfl, hb', hc⟩ := h3 h
  refine ⟨b, off, rfl, hb', fun j hj => ?_⟩
  obtain ⟨r, hr, hi⟩ := hc j hj
  exact ⟨r, by rw [hb.cell (p := ⟨b, off + j, none⟩) (by show b < B; omega)]; exact hr, hi.below hb hd⟩
theorem GridB.touch {B lo hi : Nat} {w w' : World} {v : Value} {g : Rows} (h : GridB B w v g) (ht : Touch lo hi w w') (hd : B ≤ lo ∧ B ≤ w.heap.size) : GridB B w' v g :=
  h.below (ht.below hd.1 hd.2) (Nat.le_refl _)
theorem GridB.grid {B : Nat} {w : World} {v : Value} {g : Rows} (h : GridB B w v g) (hB : B ≤ w.heap.size) : Grid w v g := h.mono hB
theorem Own.intsB {lo hi : Nat} {w : World} {v : Value} {l : List Int} (h : Own lo hi w v l) : IntsB hi w v l := by
  rcases h with ⟨rfl, a, cap, rfl, hc⟩ | ⟨b, off, cap, t, n, f, rfl, h1, h2, h3, h4, h5, h6, h7⟩
  · exact ⟨a, cap, rfl, Nat.zero_le _, hc, fun h => absurd h (by simp)⟩
  · exact ⟨_, cap, rfl, h1, h2, fun _ => ⟨b, off, rfl, h4, fun j hj => by rw [h5.cell (by omega), h7 j hj]⟩⟩

theorem IntsB.slice {B : Nat} {w : World} {v : Value} {l : List Int} (h : IntsB B w v l) : ∃ a n c, v = .slice a n c := by
  obtain ⟨a, cap, rfl, _⟩ := h; exact ⟨_, _, _, rfl⟩

theorem Grid_nil (w : World) : Grid w (.slice none 0 0) [] := ⟨none, 0, rfl, Nat.le_refl _, by omega, fun h => absurd h (by simp)⟩

theorem getR_eq {g : Rows} {k : Nat} (h : k < g.length) : g[k]?.getD [] = g[k] := by simp [h]
theorem rows_eq {a b : Rows} (hl : a.length = b.length) (h : ∀ j, j < a.length → a[j]?.getD [] = b[j]?.getD []) : a = b := by
  refine List.ext_getElem hl fun i h1 h2 => ?_
  have := h i h1
  rwa [getR_eq h1, getR_eq h2] at this

theorem cells_islice : Try.prog.cellsOf 27 = 1 := by kernel_rfl
theorem cells_int1 : Try.prog.cellsOf 3 = 1 := by kernel_rfl

/-- an argument that is a slice of slices of ints -/
theorem rows_opened {H : Type} {enc : TypeId × Value → H} {W : World} {base : Nat} {held : Bool} {a : Option Addr} {len cap : Nat} {d : DataW H} {p : List MemPlace}
    (h : DataW.Trod enc Try.prog W base (fun _ => true) held 23 (.slice a len cap) d p) : ∃ g : Rows, Grid W (.slice a len cap) g := by
  obtain ⟨fuel, hf⟩ := h
  rcases open_int_rows Try.underlying23 Try.underlying27 Try.underlying3 cells_islice cells_int1 hf with ⟨hcs, _⟩ | ⟨x, l, c, A, L, C, Z, hcs, _, hl, hm, _, hel⟩
  · simp [Value.cells] at hcs
    obtain ⟨rfl, rfl, rfl⟩ := hcs
    exact ⟨[], Grid_nil W⟩
  · simp [Value.cells] at hcs
    obtain ⟨rfl, rfl, rfl⟩ := hcs
    have hmx := hm
    unfold maxLen at hm
    have hlen : ((List.range len).map (fun r => (Z r).take (L r))).length = len := by simp
    refine ⟨(List.range len).map (fun r => (Z r).take (L r)), some x, cap, by rw [hlen], by rw [hlen]; exact hl, hm, fun h => ?_⟩
    rw [hlen] at h
    obtain ⟨b, off, spot⟩ := x
    have hspot : spot = none := by
      have := (hel 0 (by omega)).1
      simpa [Addr.add] using World.cell?_spot this
    subst hspot
    have hadd : ∀ j, (⟨b, off, none⟩ : Addr).add j = ⟨b, off + j, none⟩ := fun j => by unfold Addr.add; split <;> simp_all
    have hlt : b < W.heap.size := World.block_lt_of_cell? W _ (hel 0 (by omega)).1 |> fun h => by rw [hadd] at h; exact h
    refine ⟨b, off, rfl, hlt, fun j hj => ?_⟩
    rw [hlen] at hj
    obtain ⟨e1, e2, e3, e4, e5, e6, e7⟩ := hel j (by omega)
    rw [hadd] at e1
    refine ⟨_, e1, ?_⟩
    have hget : ((List.range len).map (fun r => (Z r).take (L r)))[j]?.getD [] = (Z j).take (L j) := by simp [hj]
    rw [hget]
    cases hA : A j with
    | none =>
      have hC := e6 hA
      have hL : L j = 0 := by omega
      rw [hC, hL]
      exact ⟨none, 0, rfl, by simp, by omega, fun h => absurd h (by simp)⟩
    | some a' =>
      exact Ints_open e2 e3 e4 (fun i hi => (e7 a' hA).2 i (by omega)) e5

/-- what the size function leaves: it says no, or all sizes are small -/
def Small (n left : Int) (g : Rows) : Prop := n < 0 ∨ (0 ≤ n ∧ n ≤ left ∧ g.length ≤ 1048576 ∧ ∀ j, j < g.length → (g[j]?.getD []).length ≤ 1048576)

theorem ret_int' {a b : Int} (h : a = b) : Ending.returned (.int .i64 a) = .returned (.int .i64 b) := by rw [h]

set_option maxHeartbeats 400000 in
theorem szIntS_one (v : Value) (l : List Int) (left : Int) (w : World) (h : Ints w v l) (h1 : 0 ≤ left) (h2 : left ≤ 1048576) :
    Calls Try.prog 66 #[v, .int .i64 left] w fun e w' => ∃ n : Int, e = .returned (.int .i64 n) ∧ ((n = -1 ∧ left < l.length) ∨ (0 ≤ n ∧ n = left - l.length)) ∧ w' = w := by
  obtain ⟨a, cap, rfl, hc1, hc2, hc3⟩ := h
  clear hc3
  by_cases hb : left < l.length
  · go_enter Try.func66, Try.ntmps66
    go_wp2
    go_ret
    exact ⟨-1, rfl, .inl ⟨rfl, hb⟩, rfl⟩
  · go_enter Try.func66, Try.ntmps66
    go_wp2
    go_ret
    exact ⟨_, rfl, .inr ⟨by omega, rfl⟩, rfl⟩

set_option maxHeartbeats 1000000 in
set_option maxRecDepth 100000 in
theorem szIntSS_any (v : Value) (g : Rows) (left : Int) (w : World) (h : Grid w v g) (h1 : 0 ≤ left) (h2 : left ≤ 1048576) :
    Calls Try.prog 22 #[v, .int .i64 left] w fun e w' => ∃ n : Int, e = .returned (.int .i64 n) ∧ Small n left g ∧ Below w.heap.size w w' := by
  obtain ⟨a, cap, rfl, hc1, hc2, hc3⟩ := h
  by_cases hb : left < g.length
  · clear hc3
    go_enter Try.func22, Try.ntmps22
    go_wp2
    go_ret
    exact ⟨-1, rfl, .inl (by omega), Below.refl _ _⟩
  · have HS := Lib.hid hc3
    clear hc3
    go_enter Try.func22, Try.ntmps22
    go_wp2
    go_loopw [1, 5] (fun m i wr => ∃ k : Nat, ∃ lf : Int, k ≤ g.length ∧ i = .int .i64 k ∧ m = .int .i64 lf ∧ 0 ≤ lf ∧ lf ≤ left - g.length ∧ Below w.heap.size w wr ∧ ∀ j, j < k → (g[j]?.getD []).length ≤ 1048576) (fun _ i _ => g.length - (intOf i).toNat)
    case atStart => exact ⟨0, _, Nat.zero_le _, rfl, rfl, by omega, by omega, Below.refl _ _, fun j hj => by omega⟩
    case round =>
      obtain ⟨k, lf, hk, rfl, rfl, hl0, hl1, hbel, hall⟩ := hrel
      have HB := Lib.hid hbel
      have hsz := hbel.size
      have HA := Lib.hid hall
      clear hall
      by_cases hlt : k < g.length
      · obtain ⟨b, off, rfl, hbb, hcell⟩ := HS.out (by omega)
        obtain ⟨r, hr, hi⟩ := hcell k hlt
        have hr' : wr.cell? ⟨b, off + k, none⟩ = some r := (hbel.cell (p := ⟨b, off + k, none⟩) hbb).trans hr
        have HI := Lib.hid (hi.below hbel (Nat.le_refl _))
        obtain ⟨ra, rl, rc, rfl⟩ := hi.slice
        clear hi hcell hbel hr
        go_wp2_with (refine (szIntS_one _ _ _ _ (HI.out.ints hsz) (by omega) (by omega)).mono ?_; rintro e w1 ⟨n, rfl, hn, rfl⟩)
        · go_ret
          exact ⟨-1, rfl, .inl (by omega), HB.out⟩
        · go_roundw
          case rel =>
            refine ⟨k + 1, n, by omega, by go_num, rfl, by omega, by omega, HB.out, fun j hj => ?_⟩
            by_cases e : j = k
            · subst e; omega
            · exact HA.out j (by omega)
          case measure => simp [intOf]; omega
      · go_wp2
        go_ret
        exact ⟨lf, rfl, .inr ⟨hl0, by omega, by omega, fun j hj => HA.out j (by omega)⟩, HB.out⟩

theorem info_islice : (Try.prog.info? 27).map (fun i => (i.zero, i.size, i.bytes)) = some (some (.slice none 0 0), 1, 24) := by kernel_rfl

set_option maxHeartbeats 1000000 in
set_option maxRecDepth 100000 in
theorem toIntSS_any (v : Value) (g : Rows) (w : World) (h : Grid w v g) (hn : g.length ≤ 1048576) (hs : ∀ j, j < g.length → (g[j]?.getD []).length ≤ 1048576) :
    Calls Try.prog 24 #[v] w fun e w' => ∃ v', e = .returned v' ∧ Grid w' v' g ∧ Below w.heap.size w w' := by
  obtain ⟨a, cap, rfl, hc1, hc2, hc3⟩ := h
  have hmk := run_make_row' (P := Try.prog) 23 27 (.slice none 0 0) 24 Try.underlying23 info_islice rfl .i64 .i64 g.length (by omega) (by omega)
  have HS := Lib.hid hs
  have HC := Lib.hid hc3
  clear hs hc3
  go_enter Try.func24, Try.ntmps24
  go_wp2
  go_loopw [4] (fun i wr => ∃ k : Nat, k ≤ g.length ∧ i = .int .i64 k ∧ (∃ f, wr.rowIs w.heap.size 27 g.length f ∧ ∀ j, j < k → Own (w.heap.size + 1) wr.heap.size wr (f j) (g[j]?.getD [])) ∧ Below w.heap.size w wr) (fun i _ => g.length - (intOf i).toNat)
  case atStart => exact ⟨0, Nat.zero_le _, rfl, ⟨_, World.rowIs_made w (.slice none 0 0) g.length 27, fun j hj => by omega⟩, (Below.refl _ _).alloc (Nat.le_refl _) _⟩
  case round =>
    obtain ⟨k, hk, rfl, ⟨f, hrow, hf⟩, hbel⟩ := hrel
    by_cases hlt : k < g.length
    · obtain ⟨b, off, rfl, hb, hcell⟩ := HC.out (by omega)
      obtain ⟨r, hr, hi⟩ := hcell k hlt
      have hr' : wr.cell? ⟨b, off + k, none⟩ = some r := (hbel.cell (p := ⟨b, off + k, none⟩) hb).trans hr
      have HI := Lib.hid (hi.below hbel (Nat.le_refl _))
      have HR := Lib.hid hrow
      have HF := Lib.hid hf
      have HB := Lib.hid hbel
      have hsz := hbel.size
      have hlo := hrow.lt
      obtain ⟨ra, rl, rc, rfl⟩ := hi.slice
      clear hrow hf hbel hcell hi hr hmk
      go_wp2_with (refine (toIntS_any _ _ _ (HI.out.ints hsz) (by have := HS.out k hlt; omega)).mono ?_; rintro e w1 ⟨v1, rfl, hO, hb1⟩; have HO := Lib.hid hO; have HB1 := Lib.hid hb1; have hs1 := hb1.size; have HR1 := Lib.hid (HR.out.of_block (hb1.block _ hlo)); have hd := HR1.out.cell hlt; have hfr := HR1.out.frozen k; obtain ⟨va, vl, vc, rfl⟩ := hO.intsB.slice; clear hO hb1)
      go_roundw
      case rel =>
        refine ⟨k + 1, by omega, by go_num, ⟨_, HR1.out.set k _, fun j hj => ?_⟩, (HB.out.trans (HB1.out.mono (by omega))).setCell (by simp) _⟩
        by_cases e : j = k
        · subst e
          rw [if_pos rfl]
          exact (HO.out.touch ((Touch.refl w.heap.size (w.heap.size + 1) w1).setCell (by simp) (by simp) _) (by omega)).mono (by omega) (by simp)
        · rw [if_neg e]
          exact (((HF.out j (by omega)).below HB1.out (Nat.le_refl _)).touch ((Touch.refl w.heap.size (w.heap.size + 1) w1).setCell (by simp) (by simp) _) (by omega)).mono (by omega) (by simp; omega)
      case measure => simp [intOf]; omega
    · obtain rfl : k = g.length := by omega
      clear hmk
      go_wp2
      go_ret
      refine ⟨_, rfl, ⟨_, _, rfl, Nat.le_refl _, by omega, fun h0 => ⟨_, _, rfl, hrow.lt, fun j hj => ⟨_, by rw [Nat.zero_add]; exact hrow.cell hj, (hf j hj).intsB⟩⟩⟩, hbel⟩
theorem quiet_of2 {P : Program} {f : FuncId} {args : Array Value} {w : World} {n a : Nat} {v : Value}
    (h : Calls P f args (w.drewN (n + a)) fun e w' => e = .returned v ∧ ∃ m, w' = (w.drewN (n + a)).drewN m) : Calls P f args (w.drewN (n + a)) fun e w'' => e = .returned v ∧ ∃ m, w'' = w.drewN (n + m) :=
  h.mono fun _ _ ⟨he, m, hm⟩ => ⟨he, a + m, by rw [hm, World.drewN_drewN, Nat.add_assoc]⟩

theorem eqIntS_yes (va vb : Value) (la lb : List Int) (w : World) (ha : Ints w va la) (hb : Ints w vb lb) (he : la = lb) :
    Calls Try.prog 31 #[va, vb] w fun e w' => e = .returned (.bool true) ∧ ∃ n, w' = w.drewN n := by
  have h := eqIntS_any va vb la lb w ha hb
  rwa [decide_eq_true he] at h
theorem eqIntS_no (va vb : Value) (la lb : List Int) (w : World) (ha : Ints w va la) (hb : Ints w vb lb) (he : ¬ la = lb) :
    Calls Try.prog 31 #[va, vb] w fun e w' => e = .returned (.bool false) ∧ ∃ n, w' = w.drewN n := by
  have h := eqIntS_any va vb la lb w ha hb
  rwa [decide_eq_false he] at h

set_option maxHeartbeats 1000000 in
set_option maxRecDepth 100000 in
theorem eqIntSS_any (va vb : Value) (ga gb : Rows) (w : World) (ha : Grid w va ga) (hb : Grid w vb gb) :
    Calls Try.prog 27 #[va, vb] w fun e w' => e = .returned (.bool (decide (ga = gb))) ∧ ∃ n, w' = w.drewN n := by
  obtain ⟨a, ca, rfl, ha1, ha2, ha3⟩ := ha
  obtain ⟨b, cb, rfl, hb1, hb2, hb3⟩ := hb
  by_cases hlen : ga.length = gb.length
  · have hlt' : ((ga.length : Int) != (gb.length : Int)) = false := by simp [hlen]
    have HL := Lib.hid hlen
    have HA3 := Lib.hid ha3
    have HB3 := Lib.hid hb3
    clear hlen ha3 hb3
    go_enter Try.func27, Try.ntmps27
    go_wp2
    go_loopw [5] (fun i wr => ∃ k n : Nat, k ≤ ga.length ∧ i = .int .i64 k ∧ wr = w.drewN n ∧ ∀ j, j < k → ga[j]?.getD [] = gb[j]?.getD []) (fun i _ => ga.length - (intOf i).toNat)
    case atStart => exact ⟨0, 0, Nat.zero_le _, rfl, rfl, fun j hj => by omega⟩
    case round =>
      obtain ⟨k, n, hk, rfl, rfl, hsame⟩ := hrel
      have HS := Lib.hid hsame
      clear hsame
      by_cases hlt : k < ga.length
      · obtain ⟨b1, off1, rfl, hb1', hcell1⟩ := HA3.out (by omega)
        obtain ⟨b2, off2, rfl, hb2', hcell2⟩ := HB3.out (by have := HL.out; omega)
        have hl2 : k < gb.length := by have := HL.out; omega
        obtain ⟨r1, c1, i1⟩ := hcell1 k hlt
        obtain ⟨r2, c2, i2⟩ := hcell2 k hl2
        obtain ⟨x1, y1, z1, rfl⟩ := i1.slice
        obtain ⟨x2, y2, z2, rfl⟩ := i2.slice
        have I1 := Lib.hid i1
        have I2 := Lib.hid i2
        clear hcell1 hcell2 i1 i2
        by_cases he : ga[k]?.getD [] = gb[k]?.getD []
        · have HE := Lib.hid he
          clear he
          go_wp2
          go_quiet (exact quiet_of2 (eqIntS_yes _ _ _ _ _ ((I1.out.ints (Nat.le_refl _)).drewN _) ((I2.out.ints (Nat.le_refl _)).drewN _) HE.out))
          go_wp2
          go_roundw
          case rel =>
            refine ⟨k + 1, n + nq, by omega, by go_num, rfl, fun j hj => ?_⟩
            by_cases e : j = k
            · subst e; exact HE.out
            · exact HS.out j (by omega)
          case measure => simp [intOf]; omega
        · have HE := Lib.hid he
          clear he
          go_wp2
          go_quiet (exact quiet_of2 (eqIntS_no _ _ _ _ _ ((I1.out.ints (Nat.le_refl _)).drewN _) ((I2.out.ints (Nat.le_refl _)).drewN _) HE.out))
          go_wp2
          go_ret
          exact ⟨ret_bool (decide_eq_false fun h => HE.out (by rw [h])).symm, n + nq, World.drewN_drewN ..⟩
      · go_wp2
        go_ret
        exact ⟨ret_bool (decide_eq_true (rows_eq HL.out (fun j hj => HS.out j (by omega)))).symm, n, rfl⟩
  · have hlt' : ((ga.length : Int) != (gb.length : Int)) = true := by simp; omega
    have HL := Lib.hid hlen
    clear hlen ha3 hb3
    go_enter Try.func27, Try.ntmps27
    go_wp2
    go_ret
    exact ⟨ret_bool (decide_eq_false fun h => HL.out (by rw [h])).symm, 0, rfl⟩

end Go.Proofs.Ytdelcebkpdnnjaa
