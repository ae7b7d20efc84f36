/-
  The stable sort of the labels' indexes by weight: slices.SortStableFunc at this dump. Condition: valid labels, the indexes in their order in a row of the call's own.
-/
import Derived.Test.YtbpcjdhbbighgaaShelfS
import Derived.Test.YtbpcjdhbbighgaaStable
import Derived.Test.YtbpcjdhbbighgaaLabValid
import Derived.Test.YtbpcjdhbbighgaaLawKit
import Derived.Deep.QuietTactic
namespace Go.Proofs.Ytbpcjdhbbighgaa
open Go.RowKit Go.Deep Go.Sort Go.Lib
set_option linter.unusedVariables false
set_option linter.unusedSimpArgs false

theorem sortW_block {α : Type} [Inhabited α] (enc : α → Value) (w : World) (blk off m : Nat) (dk : Array α) (os : Array Obj) {k : Nat} (h : k ≠ blk) (hk : k < w.heap.size) : (sortWorld enc w blk off m dk os).heap[k]? = w.heap[k]? := by
  show ((w.heap.modify blk (onCells (putCells enc off dk))) ++ os)[k]? = w.heap[k]?
  rw [Array.getElem?_append_left (by simpa using hk), Array.getElem?_modify, if_neg (Ne.symm h)]
theorem putW_touch {α : Type} [Inhabited α] (enc : α → Value) (w : World) (blk off q : Nat) (dk : Array α) : Touch blk (blk + 1) w ((putRow enc w blk off dk).drewN q) :=
  ⟨rfl, rfl, rfl, by simp [putRow, mapBlock], fun k hk hn => by
    have : blk ≠ k := fun e => hn (by omega)
    simp [putRow, mapBlock, Array.getElem?_modify, this]⟩
theorem qat_blockS {w w' : World} {b o : Nat} {q : Quad} (h : QAt w b o q) (hb : w'.heap[b]? = w.heap[b]?) : QAt w' b o q :=
  ⟨(World.cell?_of_block (a := ⟨b, o, none⟩) hb).trans h.1, (World.cell?_of_block (a := ⟨b, o + 1, none⟩) hb).trans h.2.1, (World.cell?_of_block (a := ⟨b, o + 2, none⟩) hb).trans h.2.2.1, (World.cell?_of_block (a := ⟨b, o + 3, none⟩) hb).trans h.2.2.2⟩

set_option maxHeartbeats 1000000 in
set_option maxRecDepth 100000 in
theorem greedy1_any (P1 lb lo lc : Nat) (l : List Quad) (x y : Nat) (W : World) (hx : x < l.length) (hy : y < l.length) (hv : ValidL l) (hbox : W.cell? ⟨P1, 0, none⟩ = some (.slice (some ⟨lb, lo, none⟩) l.length lc)) (hq : ∀ j, j < l.length → QAt W lb (lo + j * 4) (l[j]?.getD q0)) :
    Calls Try.prog 62 #[.int .i64 (x : Int), .int .i64 (y : Int), .pointer (some ⟨P1, 0, none⟩)] W fun e w' => e = .returned (.int .i64 (wOf l y - wOf l x)) ∧ ∃ q, w' = W.drewN q := by
  obtain ⟨_, _, _, c3⟩ := hq x hx
  obtain ⟨_, _, _, d3⟩ := hq y hy
  have bx := valid_w hv x hx
  have by' := valid_w hv y hy
  have ex : wOf l x = (l[x]?.getD q0).2.2.2 := rfl
  have ey : wOf l y = (l[y]?.getD q0).2.2.2 := rfl
  rw [← ex] at c3
  rw [← ey] at d3
  obtain ⟨a, ha⟩ : ∃ a, a = wOf l x := ⟨_, rfl⟩
  obtain ⟨b, hb⟩ : ∃ b, b = wOf l y := ⟨_, rfl⟩
  rw [← ha] at c3 bx ⊢
  rw [← hb] at d3 by' ⊢
  have e1 : IntKind.i64.wrap (b - a) = b - a := IntWalk.i64_in _ (by omega)
  have x1 : (x : Int) < (l.length : Int) := by omega
  have y1 : (y : Int) < (l.length : Int) := by omega
  have x3 : (0 : Int) ≤ (x : Int) := by omega
  have y3 : (0 : Int) ≤ (y : Int) := by omega
  clear ha hb ex ey hq hv
  go_enter Try.func62, Try.ntmps62
  go_wp2_with fail
  go_quiet (fail)
  go_wp2_with fail
  go_ret
  exact ⟨rfl, nq, rfl⟩

set_option maxHeartbeats 1000000 in
set_option maxRecDepth 100000 in
/-- no index at all -/
theorem ins_none (g : Nat) (cb : Array Value) (v : Value) (hvs : ∃ a c, v = .slice a 0 c) (w : World) :
    Calls Try.prog 79 #[v, .int .i64 0, .int .i64 0, .func (.func g) #[] cb] w fun e w' => e = .returned (.tuple #[]) ∧ w' = w := by
  obtain ⟨a, c, rfl⟩ := hvs
  go_enter Try.func79, Try.ntmps79
  go_wp2_with fail
  refine wp_loop_rounds 1 ?_
  rw [rounds_succ]
  go_wp2_with fail
  go_end0
  exact ⟨rfl, rfl⟩

set_option maxHeartbeats 1000000 in
set_option maxRecDepth 100000 in
theorem stable_any (g : Nat) (cb : Array Value) (a : Option Addr) (n c : Nat) (hn : n ≤ 6) (w : World) (Post : World → Prop)
    (hi : ∀ W, W = w → Calls Try.prog 79 #[.slice a n c, .int .i64 0, .int .i64 (n : Int), .func (.func g) #[] cb] W fun e w' => e = .returned (.tuple #[]) ∧ Post w') :
    Calls Try.prog 61 #[.slice a n c, .func (.func g) #[] cb] w fun e w' => e = .returned (.tuple #[]) ∧ Post w' := by
  have HI := Lib.hid hi
  clear hi
  have t1 : ¬ (20 : Int) ≤ (n : Int) := by omega
  have t2 : ¬ (20 : Int) < (n : Int) := by omega
  have hst : Calls Try.prog 77 #[.slice a n c, .int .i64 (n : Int), .func (.func g) #[] cb] w fun e w' => e = .returned (.tuple #[]) ∧ Post w' := by
    go_enter Try.func77, Try.ntmps77
    go_wp2_with fail
    refine wp_loop_rounds 1 ?_
    rw [rounds_succ]
    go_wp2_with fail
    refine (HI.out w rfl).mono ?_
    rintro e w' ⟨rfl, hp⟩
    have HP := Lib.hid hp
    clear hp
    go_wp2_with fail
    refine wp_loop_rounds 1 ?_
    rw [rounds_succ]
    go_wp2_with fail
    go_end0
    exact ⟨rfl, HP.out⟩
  have HST := Lib.hid hst
  clear hst
  go_enter Try.func61, Try.ntmps61
  go_wp2_with fail
  refine HST.out.mono ?_
  rintro e w' ⟨rfl, hp⟩
  have HP := Lib.hid hp
  clear hp
  go_wp2_with fail
  go_end0
  exact ⟨rfl, HP.out⟩

/-- the indexes as an array -/
def ixs (m : Nat) : Array (Fin (m + 1)) := Array.ofFn fun i => i
theorem ixs_size (m : Nat) : (ixs m).size = m + 1 := by simp [ixs]
theorem ixs_get (m q : Nat) (h : q < m + 1) : ((ixs m)[q]!).val = q := by
  rw [getElem!_pos (ixs m) q (by rw [ixs_size]; exact h)]
  simp [ixs]
def encF {m : Nat} (x : Fin (m + 1)) : Value := .int .i64 ((x.val : Nat) : Int)

set_option maxHeartbeats 1000000 in
theorem sort_any (l : List Quad) (P1 PO B lc : Nat) (la : Option Addr) (W : World) (hv : ValidL l) (hbox : W.cell? ⟨P1, 0, none⟩ = some (.slice la l.length lc)) (hq : QuadsB B W (.slice la l.length lc) l) (hB : B ≤ P1) (hP : P1 < PO) (hrow : W.rowIs PO 3 l.length fun j => .int .i64 (j : Int)) :
    Calls Try.prog 61 #[.slice (some ⟨PO, 0, none⟩) l.length l.length, .func (.func 62) #[] #[.pointer (some ⟨P1, 0, none⟩)]] W fun e w' => e = .returned (.tuple #[]) ∧
      (w'.rowIs PO 3 l.length fun j => .int .i64 (((orderOf l)[j]?.getD 0 : Nat) : Int)) ∧ Touch PO (PO + 1) W w' := by
  have hl6 := hv.1
  refine stable_any _ _ _ _ _ hl6 W (fun w' => (w'.rowIs PO 3 l.length fun j => .int .i64 (((orderOf l)[j]?.getD 0 : Nat) : Int)) ∧ Touch PO (PO + 1) W w') ?_
  rintro W' rfl
  rcases Nat.eq_zero_or_pos l.length with h0 | hpos
  · rw [h0]
    refine (ins_none _ _ _ ⟨_, _, rfl⟩ W').mono ?_
    rintro e w' ⟨rfl, rfl⟩
    obtain ⟨c, g1, g2, g3⟩ := hrow
    exact ⟨rfl, ⟨c, g1, by rw [g2, h0], fun i hi => by omega⟩, Touch.refl _ _ _⟩
  · obtain ⟨m, hm⟩ : ∃ m, l.length = m + 1 := ⟨l.length - 1, by omega⟩
    obtain ⟨a', c', e, _, _, h3⟩ := hq
    obtain ⟨rfl, rfl⟩ : la = a' ∧ lc = c' := by simp at e; exact e
    obtain ⟨lb, lo, rfl, hlb, hcell⟩ := h3 hpos
    have hPO := hrow.lt
    have hH : Holds (encF (m := m)) W' PO 0 (ixs m) := by
      intro j hj
      rw [ixs_size] at hj
      rw [Nat.zero_add, hrow.cell (by omega), encF, ixs_get m j hj]
      exact ⟨rfl, hrow.frozen j⟩
    have hc : CmpReads Try.prog 62 #[.pointer (some ⟨P1, 0, none⟩)] (encF (m := m)) (cfW l fun x : Fin (m + 1) => x.val) PO 0 (ixs m).size W' := by
      intro k os dk hs x y
      have hb1 : (sortWorld (encF (m := m)) W' PO 0 k dk os).heap[P1]? = W'.heap[P1]? := sortW_block _ _ _ _ _ _ _ (by omega) (by omega)
      have hb2 : (sortWorld (encF (m := m)) W' PO 0 k dk os).heap[lb]? = W'.heap[lb]? := sortW_block _ _ _ _ _ _ _ (by omega) (by omega)
      exact greedy1_any P1 lb lo lc l x.val y.val _ (by have := x.isLt; omega) (by have := y.isLt; omega) hv ((World.cell?_of_block (a := ⟨P1, 0, none⟩) hb1).trans hbox) (fun j hj => qat_blockS (hcell j hj) hb2)
    have hins := Any.insertionSortCmpFunc_one Try.laysIns (encF (m := m)) (by intro x; rfl) (cfW l fun x : Fin (m + 1) => x.val) _ #[.pointer (some ⟨P1, 0, none⟩)] PO 0 l.length 0 l.length (ixs m) W' (enters_of Try.func62 (by kernel_rfl) rfl) hc hH (Nat.zero_le _) (by rw [ixs_size]; omega) (by rw [ixs_size]; omega)
    have so := stable_order l (fun x : Fin (m + 1) => x.val) (valid_w hv) (ixs m) (by rw [ixs_size]; omega) (fun q hq => ixs_get m q (by rwa [ixs_size] at hq))
    rw [show (ixs m).size = l.length by rw [ixs_size]; omega] at hins so
    refine hins.mono ?_
    rintro e w' ⟨rfl, q, rfl⟩
    refine ⟨rfl, ?_, putW_touch _ _ _ _ _ _⟩
    generalize hd : insertionSort (ltOf (cfW l fun x : Fin (m + 1) => x.val)) (ixs m) 0 l.length = d' at so
    have hsz : d'.size = l.length := by
      have := congrArg List.length so
      rw [List.length_map, Array.length_toList] at this
      rw [this]
      have hp := insertionSort_holds (ltB_swo l fun x : Fin (m + 1) => x.val) (ixs m) 0 l.length (Nat.zero_le _) (by rw [ixs_size]; omega)
      have : (orderOf l).Perm (List.range l.length) := (List.perm_ext_iff_of_nodup (orderOf_nodup l) List.nodup_range).2 fun a => by rw [mem_orderOf (valid_w hv), List.mem_range]
      rw [this.length_eq, List.length_range]
    obtain ⟨cur, g1, g2, g3⟩ := hrow
    have hg : ∀ j, j < l.length → ((putRow (encF (m := m)) W' PO 0 d').drewN q).cell? ⟨PO, 0 + j, none⟩ = some (.int .i64 (((orderOf l)[j]?.getD 0 : Nat) : Int)) := by
      intro j hj
      have h1 := cell?_putRow (encF (m := m)) W' PO 0 (ixs m) d' hH (by rw [hsz, ixs_size]; omega) j (by omega)
      have h2 : (orderOf l)[j]?.getD 0 = (d'[j]!).val := by
        rw [← so, List.getElem?_map, getElem!_pos d' j (by omega)]
        simp [hsz, hj]
      rw [h2]
      exact h1
    refine ⟨putCells (encF (m := m)) 0 d' cur, by simp [putRow, mapBlock, Array.getElem?_modify, g1, onCells], ?_, fun i hi => ?_⟩
    · simp [putCells, g2]
    · have := hg i hi
      rw [Nat.zero_add] at this
      simpa [World.cell?, putRow, mapBlock, Array.getElem?_modify, g1, onCells] using this
end Go.Proofs.Ytbpcjdhbbighgaa
