/-
  slices.Backward over a list of corrections: the iterator's contract, for every loop body that keeps what lay below a bound.
-/
import Derived.RangeFuncNested
import Derived.RangeFuncBound
import Derived.RangeFuncCalls
import Derived.RangeFuncLeaves
import Derived.Shelf.Abstract
import Derived.Shelf.RegionOpen
import Derived.WalkKit
import Derived.OwnWalkIn
import Derived.TacticsInMore
import Derived.LoopNIn
import Derived.LoopIn
import Derived.Test.YtdelcebkpdnnjaaQuad
namespace Go.Proofs.Ytdelcebkpdnnjaa
open Go.RowKit Go.Shelf

attribute [local go_sem] Oper.semAt_some

/-- what has come when k rounds are over -/
def cameN (n : Nat) (l : List Quad) (k : Nat) : List (Nat × Quad) := (List.range k).map fun j => (n - 1 - j, l[n - 1 - j]?.getD q0)
theorem cameN_succ (n : Nat) (l : List Quad) (k : Nat) : cameN n l (k + 1) = cameN n l k ++ [(n - 1 - k, l[n - 1 - k]?.getD q0)] := by simp [cameN, List.range_succ]
theorem cameN_length (n : Nat) (l : List Quad) (k : Nat) : (cameN n l k).length = k := by simp [cameN]
theorem cameN_all (l : List Quad) : ((cameN l.length l l.length).map (·.2)).reverse = l := by
  apply List.ext_getElem
  · simp [cameN]
  · intro i h1 h2
    simp only [cameN, List.map_map, List.getElem_reverse, List.getElem_map, List.length_map, List.length_range, List.getElem_range, Function.comp]
    rw [show l.length - 1 - (l.length - 1 - i) = i by omega]
    simp [h2]

/-- what a round keeps: all that lay below a bound, and the box of the slice -/
def KpB (n₀ Bs : Nat) (W W' : World) : Prop := Below n₀ W W' ∧ W'.heap[Bs]? = W.heap[Bs]?
theorem KpB.refl (n₀ Bs : Nat) (W : World) : KpB n₀ Bs W W := ⟨Below.refl _ _, rfl⟩
theorem KpB.trans {n₀ Bs : Nat} {A B C : World} (h : KpB n₀ Bs A B) (k : KpB n₀ Bs B C) : KpB n₀ Bs A C := ⟨h.1.trans k.1, k.2.trans h.2⟩
theorem KpB.put {n₀ Bs : Nat} {w : World} (h1 : n₀ ≤ w.heap.size) (h2 : Bs < w.heap.size) (W : World) (l : Nat) (o o' : Obj) (hl : w.heap.size ≤ l) (hg : W.heap[l]? = some o) (ho : o.isCells = false) (hw : o.isWalk = false) : KpB n₀ Bs W (W.putObj l o') :=
  ⟨belowK_b h1 W l o o' hl hg ho hw, World.putObj_heap_other (by omega)⟩

set_option maxRecDepth 100000 in
set_option maxHeartbeats 2000000 in
theorem back1_in (F : Fence) (n : Nat) (hf : F.fn 118) (hro : F.round = none) (hn : 1 ≤ n) (l Bs n₀ b off len cap : Nat) (zs : List Quad) (hlen : len ≤ 1099511627776) (hb : b < n₀) (J Jx : List (Nat × Quad) → World → Prop)
    (hY : ∀ pre x W, J pre W → pre.length < len → YieldAt F (n - 1) Try.prog l #[.int .i64 (x.1 : Int), qv x.2] W fun e W' =>
      (e = .returned (.bool true) ∧ J (pre ++ [x]) W' ∧ KpB n₀ Bs W W') ∨ (e = .returned (.bool false) ∧ Jx (pre ++ [x]) W'))
    (W : World) (hBs : W.cell? ⟨Bs, 0, none⟩ = some (.slice (some ⟨b, off, none⟩) len cap)) (hc : ∀ j, j < len → QAt W b (off + j * 4) (zs[j]?.getD q0)) (h0 : J [] W) :
    CallsIn F n Try.prog 118 #[.func (.yield l) #[] #[], .pointer (some ⟨Bs, 0, none⟩)] W fun e W' => (∃ v, e = .returned v) ∧
      ((∃ ys, ys = cameN len zs len ∧ J ys W') ∨ (∃ pre, (∃ k, k ≤ len ∧ pre = cameN len zs k) ∧ Jx pre W')) := by
  have HC := Lib.hid hc
  have HY := Lib.hid hY
  have HB := Lib.hid hBs
  have HS := Lib.hid (cameN_succ len zs)
  clear hc hY
  refine callsIn_of_wp Try.func118 rfl hf ?_ hro
  simp only [Try.ntmps118, List.size_toArray, List.length_cons, List.length_nil, Nat.reduceAdd, Nat.reduceSub, Array.replicate_succ, Array.replicate_zero, List.push_toArray, List.append_toArray, List.nil_append, List.cons_append]
  gi_wp2
  clear hBs
  gi_loopw [3] (fun i wr => ∃ m k : Nat, m + k = len ∧ i = .int .i64 ((m : Int) - 1) ∧ J (cameN len zs k) wr ∧ KpB n₀ Bs W wr)
    (fun i _ => (intOf i + 1).toNat)
  case atStart => exact ⟨len, 0, by omega, rfl, h0, KpB.refl _ _ _⟩
  case round =>
    obtain ⟨m, k, hmk, rfl, hJs, hnx⟩ := hrel
    cases m with
    | zero =>
      obtain rfl : k = len := by omega
      gi_wp2
      go_end0
      exact ⟨⟨_, rfl⟩, .inl ⟨_, rfl, hJs⟩⟩
    | succ m =>
      have e1 : ((m + 1 : Nat) : Int) - 1 = (m : Int) := by omega
      rw [e1]
      have hm0 : (0 : Int) ≤ (m : Int) := by omega
      have hm1 : (m : Int) < (len : Int) := by omega
      have hq := (HC.out m (by omega)).below hnx.1 hb
      obtain ⟨q, hqe⟩ : ∃ q, q = zs[m]?.getD q0 := ⟨_, rfl⟩
      rw [← hqe] at hq
      have hs1 : cameN len zs (k + 1) = cameN len zs k ++ [(m, q)] := by rw [HS.out, show len - 1 - k = m by omega, ← hqe]
      have HS1 := Lib.hid hs1
      have hbs := (World.cell?_of_block (a := ⟨Bs, 0, none⟩) hnx.2).trans HB.out
      obtain ⟨fn, tmps, assign, body, hy, hR⟩ := HY.out _ (m, q) wr hJs (by rw [cameN_length]; omega)
      dsimp only at hy
      obtain ⟨c0, c1, c2, c3⟩ := hq
      have HMK := Lib.hid hmk
      have HJ := Lib.hid hJs
      have HN := Lib.hid hnx
      clear hs1 hqe hmk hJs hnx
      gi_wp2
      refine hR.mono ?_
      rintro e W3 (⟨rfl, hJ3, hk3⟩ | ⟨rfl, hJx3⟩)
      · have HJ3 := Lib.hid hJ3
        have HK3 := Lib.hid hk3
        clear hJ3 hk3
        gi_wp2
        go_roundw
        case rel => exact ⟨m, k + 1, by have := HMK.out; omega, rfl, by rw [HS1.out]; exact HJ3.out, HN.out.trans HK3.out⟩
        case measure => simp [intOf]
      · have HX := Lib.hid hJx3
        clear hJx3
        gi_wp2
        refine bodyPost_ret (results_none rfl _ _ _) rfl ?_
        exact ⟨⟨_, rfl⟩, .inr ⟨_, ⟨k + 1, by have := HMK.out; omega, HS1.out.symm⟩, HX.out⟩⟩

set_option maxRecDepth 100000 in
set_option maxHeartbeats 1000000 in
theorem back1_nil_in (F : Fence) (n : Nat) (hf : F.fn 118) (hro : F.round = none) (l Bs : Nat) (a : Option Addr) (cap : Nat) (J : List (Nat × Quad) → World → Prop) (W : World) (hBs : W.cell? ⟨Bs, 0, none⟩ = some (.slice a 0 cap)) (h0 : J [] W) :
    CallsIn F n Try.prog 118 #[.func (.yield l) #[] #[], .pointer (some ⟨Bs, 0, none⟩)] W fun e W' => (∃ v, e = .returned v) ∧ J [] W' := by
  refine callsIn_of_wp Try.func118 rfl hf ?_ hro
  simp only [Try.ntmps118, List.size_toArray, List.length_cons, List.length_nil, Nat.reduceAdd, Nat.reduceSub, Array.replicate_succ, Array.replicate_zero, List.push_toArray, List.append_toArray, List.nil_append, List.cons_append]
  gi_wp2
  gi_loopw [3] (fun i wr => i = .int .i64 (-1) ∧ J [] wr) (fun _ _ => 0)
  case atStart => exact ⟨rfl, h0⟩
  case round =>
    obtain ⟨rfl, hJs⟩ := hrel
    gi_wp2
    go_end0
    exact ⟨⟨_, rfl⟩, hJs⟩

set_option maxHeartbeats 1000000 in
/-- slices.Backward(s): the slice value is boxed; the function value captures the box -/
theorem backward_in (F : Fence) (n : Nat) (hf : F.fn 97) (hro : F.round = none) (a : Option Addr) (len cap : Nat) (w : World) :
    CallsIn F n Try.prog 97 #[.slice a len cap] w fun e w' => e = .returned (.func (.func 118) #[] #[.pointer (some ⟨w.heap.size, 0, none⟩)]) ∧ w' = w.alloc (.cells #[.slice a len cap] 24) := by
  refine callsIn_of_wp Try.func97 rfl hf ?_ hro
  simp only [Try.ntmps97, List.size_toArray, List.length_cons, List.length_nil, Nat.reduceAdd, Nat.reduceSub, Array.replicate_succ, Array.replicate_zero, List.push_toArray, List.append_toArray, List.nil_append, List.cons_append]
  gi_wp2
  go_ret
  exact ⟨rfl, rfl⟩

/-- slices.Backward(s) hands back a value that gives the pairs (index, correction), the last one first -/
theorem backward_stops (F : Fence) (n : Nat) (hf : F.fn 118) (hro : F.round = none) (hn : 1 ≤ n) (Bs n₀ B : Nat) (sv : Value) (zs : List Quad) (hlen : zs.length ≤ 1099511627776) (w : World) (hBs : Bs < w.heap.size) (hn₀ : n₀ ≤ w.heap.size) (hB : B ≤ n₀)
    (hc : w.cell? ⟨Bs, 0, none⟩ = some sv) (hI : QuadsB B w sv zs) :
    SeqStopsK F n Try.prog 118 #[.pointer (some ⟨Bs, 0, none⟩)] (fun x : Nat × Quad => #[Value.int .i64 (x.1 : Int), qv x.2]) (KpB n₀ Bs) (fun ys => ys = cameN zs.length zs zs.length)
      (fun pre => ∃ k, k ≤ zs.length ∧ pre = cameN zs.length zs k) zs.length w := fun l J Jx W hW _ _ hY h0 => by
  have hc' := (hW.cell (p := ⟨Bs, 0, none⟩) hBs).trans hc
  have hI' : QuadsB B W sv zs := hI.below hW (by omega)
  obtain ⟨a, cap, rfl, q1, q2, q3⟩ := hI'
  by_cases hz : zs.length = 0
  · rw [hz] at hc'
    exact (back1_nil_in F n hf hro l Bs a cap J W hc' h0).mono fun e W' ⟨he, hj⟩ => ⟨he, .inl ⟨_, by rw [hz]; rfl, hj⟩⟩
  · obtain ⟨b, off, rfl, hb, hq⟩ := q3 (by omega)
    exact back1_in F n hf hro hn l Bs n₀ b off zs.length cap zs hlen (by omega) J Jx hY W hc' hq h0
end Go.Proofs.Ytdelcebkpdnnjaa
