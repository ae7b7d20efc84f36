/-
  fieldOf: the field of a list of rows, or none.
-/
import Derived.Test.YtdelcebkpdnnjaaField
import Derived.Laws.ResultCell
namespace Go.Proofs.Ytdelcebkpdnnjaa
open Go.RowKit Go.Deep Go.Sort

/-- the number of columns -/
def colsOf (g : Rows) : Nat := (g[0]?.getD []).length
def RowOk (c : Nat) (l : List Int) : Prop := l.length = c ∧ ∀ j, j < l.length → 0 ≤ l[j]?.getD 0 ∧ l[j]?.getD 0 ≤ 99
/-- the rows are a grid -/
def GridOk (g : Rows) : Prop := 1 ≤ g.length ∧ g.length ≤ 7 ∧ 1 ≤ colsOf g ∧ colsOf g ≤ 7 ∧ ∀ i, i < g.length → RowOk (colsOf g) (g[i]?.getD [])
instance (c : Nat) (l : List Int) : Decidable (RowOk c l) := by unfold RowOk; infer_instance
instance (g : Rows) : Decidable (GridOk g) := by unfold GridOk; infer_instance
/-- the height of the cell with an index -/
def cellOf (g : Rows) (n : Nat) : Int := (g[n / colsOf g]?.getD [])[n % colsOf g]?.getD 0

theorem field_result {w : World} {b : Nat} {f : Nat → Value} {x y z : Value} (h : w.rowIs b 64 3 f) (h0 : f 0 = x) (h1 : f 1 = y) (h2 : f 2 = z) (u : Value) :
    ((asAddr (.pointer (some ⟨b, 0, none⟩))).run Try.prog w).andThen (fun a w₁ => ((loadVar 64 a).run Try.prog w₁).andThen fun v w₂ => Result.ok (Value.tuple #[v, u]) w₂) = Result.ok (Value.tuple #[.agg #[x, y, z], u]) w := by
  obtain ⟨c, hc, hs, hg⟩ := h
  have e : c = #[x, y, z] := by
    refine Array.ext_getElem? fun i => ?_
    by_cases hi : i < 3
    · rw [hg i hi]
      match i, hi with
      | 0, _ => simp [h0]
      | 1, _ => simp [h1]
      | 2, _ => simp [h2]
    · rw [Array.getElem?_eq_none (by omega), Array.getElem?_eq_none (by simp; omega)]
  subst e
  simp [asAddr, run_loadVar_row w b 64 64 _ (0, 0) _ hc Try.underlying64 rfl size_field]

theorem cell_at {g : Rows} {c k j : Nat} (hc : c = colsOf g) (hj : j < c) : cellOf g (k * c + j) = (g[k]?.getD [])[j]?.getD 0 := by
  unfold cellOf
  rw [← hc, Nat.add_comm, Nat.add_mul_div_right _ _ (by omega), Nat.div_eq_of_lt hj, Nat.zero_add, Nat.add_mul_mod_self_right, Nat.mod_eq_of_lt hj]

set_option maxHeartbeats 2000000 in
set_option maxRecDepth 100000 in
theorem fieldOf_yes (v : Value) (g : Rows) (w : World) (h : Grid w v g) (hg : GridOk g) :
    Calls Try.prog 78 #[v] w fun e w' => ∃ b, e = .returned (.tuple #[fv g.length (colsOf g) (.slice (some ⟨b, 0, none⟩) (g.length * colsOf g) (g.length * colsOf g)), .bool true]) ∧
      w.heap.size ≤ b ∧ w'.rowIs b 3 (g.length * colsOf g) (fun i => .int .i64 (cellOf g i)) ∧ Below w.heap.size w w' := by
  obtain ⟨a, cap, rfl, h1, h2, h3⟩ := h
  obtain ⟨g1, g2, g3, g4, g5⟩ := hg
  obtain ⟨b, off, rfl, hb, hcell⟩ := h3 (by omega)
  obtain ⟨r0, c0, i0⟩ := hcell 0 (by omega)
  obtain ⟨x0, cap0, rfl, e0, _⟩ := i0
  have ec : (g[0]?.getD []).length = colsOf g := rfl
  rw [ec] at c0 e0
  have t1 : decide ((g.length : Int) < 1) = false := decide_eq_false (by omega)
  have t2 : decide ((7 : Int) < (g.length : Int)) = false := decide_eq_false (by omega)
  have t3 : decide ((colsOf g : Int) < 1) = false := decide_eq_false (by omega)
  have t4 : decide ((7 : Int) < (colsOf g : Int)) = false := decide_eq_false (by omega)
  obtain ⟨c, hc⟩ : ∃ c, c = colsOf g := ⟨_, rfl⟩
  rw [← hc] at c0 e0 t3 t4 g3 g4 g5 ⊢
  have HC := Lib.hid hcell
  have HG := Lib.hid g5
  have HH := Lib.hid hc
  clear hcell g5 ec hc h3
  rw [Nat.add_zero] at c0
  go_enter Try.func78, Try.ntmps78
  go_wp2_with (go_at_call 93; refine (blank_any _ _ _ (by omega) (by omega)).mono ?_; rintro e w1 ⟨rfl, hrow, hbl⟩)
  obtain ⟨F, hF⟩ : ∃ F, F = w1.heap.size := ⟨_, rfl⟩
  have hF2 : w.heap.size + 2 < F := by have := hrow.lt; simp at this; omega
  have e11 : (w.alloc (.cells #[.int .i64 0, .int .i64 0, .slice none 0 0] 64)).heap.size + 1 = w.heap.size + 2 := by simp
  rw [e11] at hrow
  have HB1 := Lib.hid hbl
  have HR := Lib.hid hrow
  have hs1 := hbl.size
  simp at hs1
  clear hbl hrow
  rw [← hF]
  have HFE := Lib.hid hF
  clear hF
  go_loopw [36] (fun i wr => ∃ k : Nat, k ≤ g.length ∧ i = .int .i64 k ∧
      wr.rowIs (w.heap.size + 2) 3 (g.length * c) (fun n => .int .i64 (if n < k * c then cellOf g n else 0)) ∧
      (∃ f, wr.rowIs w.heap.size 64 3 f) ∧
      (∃ f, wr.rowIs F 64 3 f ∧ f 0 = .int .i64 g.length ∧ f 1 = .int .i64 c ∧ f 2 = .slice (some ⟨w.heap.size + 2, 0, none⟩) (g.length * c) (g.length * c)) ∧
      Below w.heap.size w wr) (fun i _ => g.length - (intOf i).toNat)
  case atStart =>
    refine ⟨0, Nat.zero_le _, rfl, (HR.out.congr (fun j hj => by simp)).alloc _, ?_, ?_, ?_⟩
    · obtain ⟨f0, hf0⟩ : ∃ f, (w.alloc (.cells #[.int .i64 0, .int .i64 0, .slice none 0 0] 64)).rowIs w.heap.size 64 3 f :=
        ⟨_, World.rowIs_alloc w #[.int .i64 0, .int .i64 0, .slice none 0 0] 64 (fun i => (#[.int .i64 0, .int .i64 0, .slice none 0 0] : Array Value)[i]?.getD undef) (fun i hi => by simp at hi; match i, hi with | 0, _ => rfl | 1, _ => rfl | 2, _ => rfl)⟩
      exact ⟨f0, (hf0.of_block (HB1.out.block _ (by simp))).alloc _⟩
    · rw [HFE.out]
      exact ⟨_, World.rowIs_alloc w1 _ 64 (fun i => (#[.int .i64 g.length, .int .i64 c, .slice (some ⟨w.heap.size + 2, 0, none⟩) (g.length * c) (g.length * c)] : Array Value)[i]?.getD undef) (fun i hi => by simp at hi; match i, hi with | 0, _ => rfl | 1, _ => rfl | 2, _ => rfl), rfl, rfl, rfl⟩
    · exact (((Below.refl _ _).alloc (Nat.le_refl _) _).trans (HB1.out.mono (by simp))).alloc (by omega) _
  case round =>
    obtain ⟨k, hk, rfl, hrow, ⟨f0, hf0⟩, ⟨f6, hf6, z0, z1, z2⟩, hbel⟩ := hrel
    by_cases hlt : k < g.length
    · obtain ⟨r, c1, i1⟩ := HC.out k hlt
      obtain ⟨gl, gv⟩ := HG.out k hlt
      have c2 : wr.cell? ⟨b, off + k, none⟩ = some r := (hbel.cell (p := ⟨b, off + k, none⟩) hb).trans c1
      obtain ⟨lk, hlk⟩ : ∃ l, l = g[k]?.getD [] := ⟨_, rfl⟩
      rw [← hlk] at gl gv i1
      obtain ⟨xk, capk, rfl, q1, q2, q3⟩ := i1
      rw [gl] at c1 c2 q1
      have HQ := Lib.hid q3
      have HV := Lib.hid gv
      have HL := Lib.hid hlk
      have HROW := Lib.hid hrow
      have HF0 := Lib.hid hf0
      have HF6 := Lib.hid hf6
      have HB := Lib.hid hbel
      have hsz := hbel.size
      clear q3 gv hlk hrow hf0 hf6 hbel c1
      go_wp2
      obtain ⟨wo, rfl⟩ : ∃ wo : World, wo = wr := ⟨_, rfl⟩
      go_loopw [48] (fun i wi => ∃ j : Nat, j ≤ c ∧ i = .int .i64 j ∧
        wi.rowIs (w.heap.size + 2) 3 (g.length * c) (fun n => .int .i64 (if n < k * c + j then cellOf g n else 0)) ∧
        (∃ f, wi.rowIs w.heap.size 64 3 f) ∧ (wi.rowIs F 64 3 f6) ∧ Below w.heap.size w wi) (fun i _ => c - (intOf i).toNat)
      case atStart => exact ⟨0, Nat.zero_le _, rfl, by simpa using HROW.out, ⟨_, HF0.out⟩, HF6.out, HB.out⟩
      case round =>
        obtain ⟨j, hj, rfl, hrow, ⟨f0', hf0⟩, hf6, hbel⟩ := hrel
        by_cases hjl : j < c
        · obtain ⟨b2, off2, rfl, hb2, hcell2⟩ := HQ.out (by omega)
          have c3 := (hbel.cell (p := ⟨b2, off2 + j, none⟩) hb2).trans (hcell2 j (by omega))
          obtain ⟨y1, y2⟩ := HV.out j (by omega)
          obtain ⟨y, hy⟩ : ∃ y, y = lk[j]?.getD 0 := ⟨_, rfl⟩
          rw [← hy] at c3 y1 y2
          have d0 := hf6.cell (i := 0) (by omega)
          have d1 := hf6.cell (i := 1) (by omega)
          have d2 := hf6.cell (i := 2) (by omega)
          rw [z0] at d0
          rw [z1] at d1
          rw [z2] at d2
          have hidx : k * c + j < g.length * c := by
            have := Nat.mul_le_mul_right c (show k + 1 ≤ g.length by omega)
            rw [Nat.add_mul, Nat.one_mul] at this
            omega
          have HROW2 := Lib.hid hrow
          have HF02 := Lib.hid hf0
          have HF62 := Lib.hid hf6
          have HB2 := Lib.hid hbel
          have hsz2 := hbel.size
          have HY := Lib.hid hy
          have HI := Lib.hid hidx
          clear hcell2 hrow hf0 hf6 hbel hy hidx
          go_wp2_with (go_at_call 94; refine (isHeight_yes _ _ y1 y2).mono ?_; rintro e w' ⟨rfl, rfl⟩)
          obtain ⟨m, hm⟩ : ∃ m, m = k * c + j := ⟨_, rfl⟩
          have ix := HI.out
          rw [← hm] at ix
          have ix1 : (0 : Int) ≤ (m : Int) := by omega
          have ix2 : (m : Int) < ((g.length * c : Nat) : Int) := by exact_mod_cast ix
          have ix3 : (m : Int) < (g.length : Int) * (c : Int) := by exact_mod_cast ix
          have HM := Lib.hid hm
          clear hm
          have hne : F ≠ w.heap.size + 2 := by omega
          go_region_held3 (fun w' => w'.cell? ⟨F, 0, none⟩ = some (.int .i64 g.length) ∧ w'.cell? ⟨F, 1, none⟩ = some (.int .i64 c) ∧ w'.cell? ⟨F, 2, none⟩ = some (.slice (some ⟨w.heap.size + 2, 0, none⟩) (g.length * c) (g.length * c)))
            (first | exact ⟨d0, d1, d2⟩ | exact ⟨k0, k1, k2⟩ | exact ⟨(World.cell?_of_block (blk_setCell_other _ _ _ _ hne)).trans k0, (World.cell?_of_block (blk_setCell_other _ _ _ _ hne)).trans k1, (World.cell?_of_block (blk_setCell_other _ _ _ _ hne)).trans k2⟩ | go_keep)
            (first | (go_at_call 47; refine (index_any _ c k j m _ ⟨_, _, _, rfl⟩ _ (by omega) (by omega) (by omega) HM.out).mono ?_; rintro e w5 ⟨rfl, hbx⟩; have k0 := (hbx.cell (p := ⟨F, 0, none⟩) HF62.out.lt).trans d0; have k1 := (hbx.cell (p := ⟨F, 1, none⟩) HF62.out.lt).trans d1; have k2 := (hbx.cell (p := ⟨F, 2, none⟩) HF62.out.lt).trans d2; have HR5 := Lib.hid (HROW2.out.drew.of_block (hbx.block _ HROW2.out.lt)); have r1 := HR5.out.cell ix; have r2 := HR5.out.frozen m))
          go_wp2
          go_roundw
          case rel =>
            refine ⟨j + 1, by omega, by go_num, (HR5.out.set _ _).congr (fun n hn => ?_), ?_, ?_, ?_⟩
            · have hm := HM.out
              by_cases e : n = m
              · subst e
                rw [if_pos rfl, if_pos (by omega), hm, HY.out, HL.out, cell_at HH.out hjl]
              · rw [if_neg e]
                by_cases e2 : n < k * c + j
                · rw [if_pos e2, if_pos (by omega)]
                · rw [if_neg e2, if_neg (by omega)]
            · exact ⟨_, ((HF02.out.drew.of_block (hbx.block _ HF02.out.lt))).setOther (by simp) _⟩
            · exact ((HF62.out.drew.of_block (hbx.block _ HF62.out.lt))).setOther hne _
            · exact ((HB2.out.trans ((Touch.refl w.heap.size 0 _).drew.below (Nat.le_refl _) hsz2)).trans (hbx.mono hsz2)).setCell (by simp) _
          case measure => simp [intOf]; omega
        · have HROW2 := Lib.hid hrow
          have HF02 := Lib.hid hf0
          have HF62 := Lib.hid hf6
          have HB2 := Lib.hid hbel
          clear hrow hf0 hf6 hbel
          go_wp2
          go_roundw
          case rel =>
            refine ⟨k + 1, by omega, by go_num, HROW2.out.congr (fun n hn => ?_), ⟨_, HF02.out⟩, ⟨_, HF62.out, z0, z1, z2⟩, HB2.out⟩
            have e : k * c + j = (k + 1) * c := by rw [Nat.add_mul, Nat.one_mul]; omega
            rw [e]
          case measure => simp [intOf]; omega
    · have hkn : k = g.length := by omega
      have HROW := Lib.hid hrow
      have HB := Lib.hid hbel
      have HKN := Lib.hid hkn
      have d0 := hf6.cell (i := 0) (by omega)
      have d1 := hf6.cell (i := 1) (by omega)
      have d2 := hf6.cell (i := 2) (by omega)
      rw [z0] at d0
      rw [z1] at d1
      rw [z2] at d2
      have s0 := hf0.cell (i := 0) (by omega)
      have s1 := hf0.cell (i := 1) (by omega)
      have s2 := hf0.cell (i := 2) (by omega)
      have u0 := hf0.frozen 0
      have u1 := hf0.frozen 1
      have u2 := hf0.frozen 2
      have HF0 := Lib.hid hf0
      clear hrow hbel hkn hf0 hf6
      go_wp2
      have R := ((HF0.out.set 0 (.int .i64 g.length)).set 1 (.int .i64 c)).set 2 (.slice (some ⟨w.heap.size + 2, 0, none⟩) (g.length * c) (g.length * c))
      refine bodyPost_ret (v := .tuple #[fv g.length c (.slice (some ⟨w.heap.size + 2, 0, none⟩) (g.length * c) (g.length * c)), .bool true]) ?_ rfl ?_
      · rw [results_cell_tmp rfl]
        exact field_result R rfl rfl rfl _
      · refine ⟨w.heap.size + 2, rfl, by omega, ?_, ((HB.out.setCell (by simp) _).setCell (by simp) _).setCell (by simp) _⟩
        refine (((HROW.out.setOther (by simp) _).setOther (by simp) _).setOther (by simp) _).congr (fun n hn => ?_)
        rw [if_pos (by rw [HKN.out]; exact hn)]
end Go.Proofs.Ytdelcebkpdnnjaa
