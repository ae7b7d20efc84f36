/-
  Boards (arrays of a hundred bytes): pointed, with, boardOf, SettingValid. Conditions: as each says.
-/
import Derived.Test.YtbpcjdhbbighgaaLying
import Derived.Deep.WholeRow
import Derived.Laws.CopyOwn
namespace Go.Proofs.Ytbpcjdhbbighgaa
open Go.RowKit Go.Deep

/-- the cells of a board -/
def IsBd (c : Array Value) (B : Nat → Int) : Prop := c.size = 100 ∧ ∀ i, i < 100 → c[i]? = some (.int .u8 (B i))
theorem size_board : (Try.prog.info? 60).map (·.size) = some 100 := by kernel_rfl
theorem zero_board : Try.zeroCells60.size = 100 := by kernel_rfl
theorem row_zero (w : World) : ∃ f, (w.alloc (.cells Try.zeroCells60 60)).rowIs w.heap.size 60 100 f :=
  ⟨fun i => Try.zeroCells60[i]?.getD undef, _, heap_alloc_new w _, zero_board, fun i hi => by
    simp [Array.getElem?_eq_getElem (show i < _ by rw [zero_board]; exact hi)]⟩
theorem board_one {c : Array Value} {B : Nat → Int} (h : IsBd c B) : c.all (·.oneCell') = true := by
  rw [Array.all_eq_true]
  intro i hi
  have h1 := h.2 i (by have := h.1; omega)
  rw [Array.getElem?_eq_getElem hi] at h1
  rw [Option.some.inj h1]; rfl

/-- the index of a label's point -/
def pt (q : Quad) : Nat := (10 * q.2.1 + q.1).toNat
/-- the board with the points of labels on it -/
def bdPts (l : List Quad) (i : Nat) : Int := if i ∈ l.map pt then 42 else 46

set_option maxHeartbeats 1000000 in
set_option maxRecDepth 100000 in
theorem pointed_any (v : Value) (l : List Quad) (w : World) (h : Quads w v l) (hg : GoodUpTo l l.length) :
    Calls Try.prog 63 #[v] w fun e w' => ∃ c, e = .returned (.agg c) ∧ IsBd c (bdPts l) ∧ Below w.heap.size w w' := by
  obtain ⟨a, cap, rfl, h1, h2, h3⟩ := h
  have HG := Lib.hid hg
  clear hg
  go_enter Try.func63, Try.ntmps63
  go_wp2
  go_loopw [4, 7] (fun _ i wr => ∃ k : Nat, k ≤ 100 ∧ i = .int .i64 k ∧ (∃ f, wr.rowIs (w.heap.size + 1) 60 100 f ∧ ∀ j, j < k → f j = .int .u8 46) ∧ (∃ g, wr.rowIs w.heap.size 60 100 g) ∧ Below w.heap.size w wr) (fun _ i _ => 100 - (intOf i).toNat)
  case atStart =>
    obtain ⟨f0, hf0⟩ := row_zero w
    obtain ⟨f1, hf1⟩ := row_zero (w.alloc (.cells Try.zeroCells60 60))
    exact ⟨0, Nat.zero_le _, rfl, ⟨f1, by simpa using hf1, fun j hj => by omega⟩, ⟨f0, hf0.alloc _⟩, al (al (Below.refl _ _) _) _⟩
  case round =>
    obtain ⟨k, hk, rfl, ⟨f, hrow, hf⟩, ⟨g, hrow0⟩, hbel⟩ := hrel
    by_cases hlt : k < 100
    · have d := hrow.cell hlt
      have fr := hrow.frozen k
      obtain ⟨u, hu⟩ : ∃ u, u = f k := ⟨_, rfl⟩
      rw [← hu] at d
      have HR := Lib.hid (hrow.set k (.int .u8 46))
      have HR0 := Lib.hid (hrow0.setOther (a := ⟨w.heap.size + 1, k, none⟩) (by simp) (.int .u8 46))
      have HF := Lib.hid hf
      have HB := Lib.hid hbel
      clear hrow hrow0 hf hbel hu
      go_wp2
      go_roundw
      case rel =>
        refine ⟨k + 1, by omega, by go_num, ⟨_, HR.out, fun j hj => ?_⟩, ⟨_, HR0.out⟩, HB.out.setCell (by simp) _⟩
        by_cases e : j = k
        · subst e; simp
        · exact (if_neg e).trans (HF.out j (by omega))
      case measure => simp [intOf]; omega
    · have HK := Lib.hid (show k = 100 by omega)
      have HR := Lib.hid hrow
      have HR0 := Lib.hid hrow0
      have HF := Lib.hid hf
      have HB := Lib.hid hbel
      clear hrow hrow0 hf hbel
      go_wp2
      go_loopw [6, 15] (fun _ i wr => ∃ k : Nat, k ≤ l.length ∧ i = .int .i64 k ∧ (wr.rowIs (w.heap.size + 1) 60 100 (fun j => .int .u8 (bdPts (l.take k) j))) ∧ (∃ g, wr.rowIs w.heap.size 60 100 g) ∧ Below w.heap.size w wr) (fun _ i _ => l.length - (intOf i).toNat)
      case atStart => exact ⟨0, Nat.zero_le _, rfl, HR.out.congr (fun j hj => by rw [HF.out j (by have := HK.out; omega)]; simp [bdPts]), ⟨_, HR0.out⟩, HB.out⟩
      case round =>
        obtain ⟨k, hk, rfl, hrow, ⟨g, hrow0⟩, hbel⟩ := hrel
        by_cases hlt : k < l.length
        · obtain ⟨b, off, rfl, hb, hcell⟩ := h3 (by omega)
          obtain ⟨c0, c1, c2, c3⟩ := (hcell k hlt).below hbel hb
          obtain ⟨hok, _⟩ := HG.out k hlt
          have htk : l.take (k + 1) = l.take k ++ [l[k]] := by rw [List.take_add_one, List.getElem?_eq_getElem hlt]; rfl
          rw [getQ_eq hlt] at c0 c1 c2 c3 hok
          obtain ⟨q, hq⟩ : ∃ q, q = l[k] := ⟨_, rfl⟩
          rw [← hq] at c0 c1 c2 c3 hok htk
          obtain ⟨o1, o2, o3, o4, _, _, _, _⟩ := hok
          have hs := hbel.size
          have hlt1 := hrow.lt
          have HR := Lib.hid hrow
          have HR0 := Lib.hid hrow0
          have HB := Lib.hid hbel
          have HT := Lib.hid htk
          clear hrow hrow0 hbel hq htk hcell h3
          go_wp2_with (refine (pointOf_any q _ o1 o2 o3 o4).mono ?_; rintro e w1 ⟨rfl, hb1⟩; have hs1 := hb1.size; simp at hs1; have HR1 := Lib.hid ((HR.out.alloc (.cells #[.int .i64 q.1, .int .i64 q.2.1, .int .i64 q.2.2.1, .int .i64 q.2.2.2] 24)).of_block (hb1.block _ (by simp; omega))); have d := HR1.out.cell (i := (10 * q.2.1 + q.1).toNat) (by omega); have fr := HR1.out.frozen ((10 * q.2.1 + q.1).toNat))
          go_roundw
          case rel =>
            refine ⟨k + 1, by omega, by go_num, (HR1.out.set _ _).congr (fun j hj => ?_), ⟨g, ((HR0.out.alloc _).of_block (hb1.block _ (by simp; omega))).setOther (by simp) _⟩, ((HB.out.alloc (by omega) _).trans (hb1.mono (by simp; omega))).setCell (by simp) _⟩
            rw [HT.out]
            by_cases e : j = (10 * q.2.1 + q.1).toNat
            · simp [bdPts, pt, e]
            · simp [bdPts, pt, e]
          case measure => simp [intOf]; omega
        · obtain rfl : k = l.length := by omega
          obtain ⟨c, hc1, hc2, hc3⟩ := hrow
          obtain ⟨c0, hd1, hd2, hd3⟩ := hrow0
          rw [List.take_length] at hc3
          have hI : IsBd c (bdPts l) := ⟨hc2, hc3⟩
          have HH := Lib.hid hbel
          have H1 := Lib.hid hc1
          have H2 := Lib.hid hd1
          have H3 := Lib.hid hI
          clear hbel hc1 hd1 hI hc3 hd3
          go_wp2_with (first | (refine wpList_load_row rfl 60 _ rfl (w.heap.size + 1) rfl _ c (0, 0) _ H1.out Try.underlying60 rfl (size_board.trans (by rw [hc2])) ?_) | (refine wpList_store_row rfl 60 _ _ rfl w.heap.size c rfl rfl _ _ H2.out (size_board.trans (by rw [hc2])) (by omega) (board_one H3.out) ?_))
          refine bodyPost_ret (v := .agg c) ?_ rfl ⟨c, rfl, H3.out, below_setRow HH.out (Nat.le_refl _) _⟩
          exact results_cell_row rfl _ _ w.heap.size 60 c (0, 0) _ rfl (setRow_heap _ _ _ _ _ _ H2.out) Try.underlying60 rfl (size_board.trans (by rw [hc2]))
end Go.Proofs.Ytbpcjdhbbighgaa
