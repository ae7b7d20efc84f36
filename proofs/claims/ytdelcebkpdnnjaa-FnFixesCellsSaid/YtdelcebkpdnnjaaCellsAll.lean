/-
  slices.Sort and Compact at ints; FixesCells, the program's and the reference's. No condition but small lengths.
-/
import Derived.Test.YtdelcebkpdnnjaaEditions
import Derived.Ground.NamesProg
import Derived.Ground.Names2Prog
import Derived.Shelf.Sort.Plain
import Derived.Shelf.Slices.CompactI
import Derived.Sort.OwnSortedInts
import Derived.Lib.OwnBridge
import Derived.Test.YtdelcebkpdnnjaaAt
import Derived.Test.YtdelcebkpdnnjaaSome
namespace Go.Proofs
open Go.Shelf
def Try.laysSortI_ren : Go.Shelf.Ren := ⟨fun | 189 => 48 | 125 => 82 | 257 => 81 | 128 => 107 | 129 => 108 | 294 => 98 | 295 => 99 | 296 => 100 | 297 => 101 | 298 => 102 | 299 => 103 | 216 => 104 | 300 => 105 | 301 => 106 | 328 => 119 | 329 => 120 | 330 => 121 | 331 => 122 | 332 => 123 | 215 => 117 | 343 => 127 | n => n, fun | 28 => 27 | 3 => 3 | 46 => 98 | 0 => 0 | 51 => 124 | 53 => 126 | 4 => 4 | 183 => 118 | 182 => 117 | 131 => 57 | 5 => 5 | 9 => 9 | 218 => 133 | 222 => 137 | 228 => 141 | 229 => 142 | n => n, fun | n => n⟩
theorem Try.laysSortI : Go.Proofs.Lays.n189 Try.prog Try.laysSortI_ren := {
  mixed := by kernel_rfl
  f125 := Try.func82.trans (congrArg some (by kernel_rfl))
  f128 := Try.func107.trans (congrArg some (by kernel_rfl))
  f129 := Try.func108.trans (congrArg some (by kernel_rfl))
  f189 := Try.func48.trans (congrArg some (by kernel_rfl))
  f215 := Try.func117.trans (congrArg some (by kernel_rfl))
  f216 := Try.func104.trans (congrArg some (by kernel_rfl))
  f257 := Try.func81.trans (congrArg some (by kernel_rfl))
  f294 := Try.func98.trans (congrArg some (by kernel_rfl))
  f295 := Try.func99.trans (congrArg some (by kernel_rfl))
  f296 := Try.func100.trans (congrArg some (by kernel_rfl))
  f297 := Try.func101.trans (congrArg some (by kernel_rfl))
  f298 := Try.func102.trans (congrArg some (by kernel_rfl))
  f299 := Try.func103.trans (congrArg some (by kernel_rfl))
  f300 := Try.func105.trans (congrArg some (by kernel_rfl))
  f301 := Try.func106.trans (congrArg some (by kernel_rfl))
  f328 := Try.func119.trans (congrArg some (by kernel_rfl))
  f329 := Try.func120.trans (congrArg some (by kernel_rfl))
  f330 := Try.func121.trans (congrArg some (by kernel_rfl))
  f331 := Try.func122.trans (congrArg some (by kernel_rfl))
  f332 := Try.func123.trans (congrArg some (by kernel_rfl))
  f343 := Try.func127.trans (congrArg some (by kernel_rfl))
  t0 := Try.underlying0
  a0 := Try.isAgg0
  z0 := Try.sizeOf0
  v0 := Try.zeroValue0
  t3 := Try.underlying3
  a3 := Try.isAgg3
  z3 := Try.sizeOf3
  v3 := Try.zeroValue3
  t4 := Try.underlying4
  a4 := Try.isAgg4
  z4 := Try.sizeOf4
  v4 := Try.zeroValue4
  t5 := Try.underlying5
  a5 := Try.isAgg5
  z5 := Try.sizeOf5
  v5 := Try.zeroValue5
  t9 := Try.underlying9
  a9 := Try.isAgg9
  z9 := Try.sizeOf9
  v9 := Try.zeroValue9
  t28 := Try.underlying27
  a28 := Try.isAgg27
  z28 := Try.sizeOf27
  v28 := Try.zeroValue27
  t46 := Try.underlying98
  a46 := Try.isAgg98
  z46 := Try.sizeOf98
  v46 := Try.zeroValue98
  t51 := Try.underlying124
  a51 := Try.isAgg124
  z51 := Try.sizeOf124
  v51 := Try.zeroValue124
  t53 := Try.underlying126
  a53 := Try.isAgg126
  z53 := Try.sizeOf126
  v53 := Try.zeroValue126
  t131 := Try.underlying57
  a131 := Try.isAgg57
  z131 := Try.sizeOf57
  v131 := Try.zeroValue57
  t182 := Try.underlying117
  a182 := Try.isAgg117
  z182 := Try.sizeOf117
  v182 := Try.zeroValue117
  t183 := Try.underlying118
  a183 := Try.isAgg118
  z183 := Try.sizeOf118
  v183 := Try.zeroValue118
  t218 := Try.underlying133
  a218 := Try.isAgg133
  z218 := Try.sizeOf133
  v218 := Try.zeroValue133
  t222 := Try.underlying137
  a222 := Try.isAgg137
  z222 := Try.sizeOf137
  v222 := Try.zeroValue137
  t228 := Try.underlying141
  a228 := Try.isAgg141
  z228 := Try.sizeOf141
  v228 := Try.zeroValue141
  t229 := Try.underlying142
  a229 := Try.isAgg142
  z229 := Try.sizeOf142
  v229 := Try.zeroValue142 }
def Try.laysCompactI_ren : Go.Shelf.Ren := ⟨fun | 20 => 49 | n => n, fun | 22 => 27 | 3 => 3 | 4 => 4 | 0 => 0 | n => n, fun | n => n⟩
theorem Try.laysCompactI : Go.Proofs.Lays2.n20 Try.prog Try.laysCompactI_ren := {
  mixed := by kernel_rfl
  f20 := Try.func49.trans (congrArg some (by kernel_rfl))
  t0 := Try.underlying0
  a0 := Try.isAgg0
  z0 := Try.sizeOf0
  v0 := Try.zeroValue0
  t3 := Try.underlying3
  a3 := Try.isAgg3
  z3 := Try.sizeOf3
  v3 := Try.zeroValue3
  t4 := Try.underlying4
  a4 := Try.isAgg4
  z4 := Try.sizeOf4
  v4 := Try.zeroValue4
  t22 := Try.underlying27
  a22 := Try.isAgg27
  z22 := Try.sizeOf27
  v22 := Try.zeroValue27
  i3 := by kernel_rfl }
end Go.Proofs
namespace Go.Proofs.Ytdelcebkpdnnjaa
open Go.RowKit Go.Deep Go.Sort

theorem sortI_any (v : Value) (l : List Int) (base : Nat) (w : World) (hown : w.ownsRow base 3 1 v l.length (l.map (Value.int .i64))) (hv : v ≠ .slice none 0 0) (hl : l.length ≤ 1000) :
    Calls Try.prog 48 #[v] w fun e w' => e = .returned (.tuple #[]) ∧ w'.ownsRow base 3 1 v l.length ((l.mergeSort fun x y => decide (x ≤ y)).map (Value.int .i64)) ∧ w.grownBy w' v.ownBlock := by
  obtain ⟨g, cap, rfl, hb, hg, hn, hm, hz, hH⟩ := Lib.holds_of_ownsRow hown hv
  refine (Any.slices_Sort_int Try.laysSortI g 0 cap l w hH hg (by omega)).mono ?_
  rintro e w' ⟨rfl, n, os, rfl⟩
  refine ⟨rfl, ?_, grownBy_sortedI _⟩
  rcases hown.2 with ⟨h0, _⟩ | ⟨g', cap', cur, e0, hbase, hg2, h1, h2, h3, h4⟩
  · cases h0
  cases e0
  exact ownsRow_sortedI (List.length_mergeSort l) hbase hg2 h1 h2 h3

theorem compactI_any (v : Value) (l : List Int) (base : Nat) (w : World) (hown : w.ownsRow base 3 1 v l.length (l.map (Value.int .i64))) (hv : v ≠ .slice none 0 0) (hl : l.length ≤ 1000) :
    Calls Try.prog 49 #[v] w fun e w' => ∃ u, e = .returned u ∧ w'.ownsRow base 3 1 u (Lib.compact l).length ((Lib.compact l).map (Value.int .i64)) ∧ w.grownBy w' v.ownBlock := by
  obtain ⟨g, cap, rfl, hb, hg, hn, hm, hz, hH⟩ := Lib.holds_of_ownsRow hown hv
  refine (Any.slices_Compact_int Try.laysCompactI g 0 cap l w hH (by omega) hn).mono ?_
  rintro e w' ⟨rfl, q, rfl⟩
  have hle := Lib.compact_length_le l
  have h := Lib.ownsRow_putRow (q := q) (k := (Lib.compact l).length) (ys := Lib.compact l ++ List.replicate (l.length - (Lib.compact l).length) 0) hown (by simp; omega) hle
  rw [List.take_left] at h
  exact ⟨_, rfl, h, rfl, rfl, rfl, by simp [putRow, mapBlock, Sort.ahead], fun k hk hne => by
    have : g ≠ k := fun e => hne (by rw [e]; rfl)
    simp [putRow, mapBlock, Sort.ahead, Array.getElem?_modify, this]⟩

/-- sorted, each number once -/
def cellsL (l : List Int) : List Int := Lib.compact (l.mergeSort fun x y => decide (x ≤ y))
theorem upTo_asc (d : Array Int) (hs : ∀ i j, i ≤ j → j < d.size → d[i]! ≤ d[j]!) : ∀ m, m ≤ d.size → (Lib.compactUpTo d m).Pairwise (· < ·) ∧ ∀ x, x ∈ Lib.compactUpTo d m ↔ ∃ j, j < m ∧ d[j]! = x := by
  intro m
  induction m with
  | zero => intro _; exact ⟨List.Pairwise.nil, fun x => ⟨fun h => by simp [Lib.compactUpTo] at h, fun ⟨j, hj, _⟩ => by omega⟩⟩
  | succ m ih =>
    intro hm
    obtain ⟨i1, i2⟩ := ih (by omega)
    rw [Lib.compactUpTo_succ]
    by_cases hk : Lib.keeps d m = true
    · rw [if_pos hk]
      have hlt : ∀ j, j < m → d[j]! < d[m]! := by
        intro j hj
        have h1 := hs j (m - 1) (by omega) (by omega)
        have h2 := hs (m - 1) m (by omega) (by omega)
        have h3 : m = 0 ∨ d[m]! ≠ d[m - 1]! := by simpa [Lib.keeps] using hk
        omega
      refine ⟨List.pairwise_append.2 ⟨i1, List.pairwise_singleton _ _, fun x hx y hy => ?_⟩, fun x => ?_⟩
      · rw [List.mem_singleton] at hy
        subst hy
        obtain ⟨j, hj, rfl⟩ := (i2 x).1 hx
        exact hlt j hj
      · rw [List.mem_append, List.mem_singleton, i2]
        constructor
        · rintro (⟨j, hj, e⟩ | e)
          · exact ⟨j, by omega, e⟩
          · exact ⟨m, by omega, e.symm⟩
        · rintro ⟨j, hj, e⟩
          by_cases ej : j = m
          · subst ej; exact .inr e.symm
          · exact .inl ⟨j, by omega, e⟩
    · rw [if_neg hk, List.append_nil]
      refine ⟨i1, fun x => ?_⟩
      rw [i2]
      have h3 : ¬ (m = 0 ∨ d[m]! ≠ d[m - 1]!) := by simpa [Lib.keeps] using hk
      constructor
      · rintro ⟨j, hj, e⟩; exact ⟨j, by omega, e⟩
      · rintro ⟨j, hj, e⟩
        by_cases ej : j = m
        · subst ej
          refine ⟨j - 1, by omega, ?_⟩
          have : d[j]! = d[j - 1]! := by
            refine Classical.byContradiction fun h => h3 (.inr h)
          rw [← this]; exact e
        · exact ⟨j, by omega, e⟩
theorem cellsL_asc (l : List Int) : (cellsL l).Pairwise (· < ·) ∧ ∀ x, x ∈ cellsL l ↔ x ∈ l := by
  have hp := List.pairwise_mergeSort (le := fun x y : Int => decide (x ≤ y)) (by intro a b c; simp; omega) (by intro a b; simp; omega) l
  have hs : ∀ i j, i ≤ j → j < (l.mergeSort fun x y => decide (x ≤ y)).toArray.size → (l.mergeSort fun x y => decide (x ≤ y)).toArray[i]! ≤ (l.mergeSort fun x y => decide (x ≤ y)).toArray[j]! := by
    intro i j hij hj
    have hj' : j < (l.mergeSort fun x y => decide (x ≤ y)).length := by simpa using hj
    by_cases e : i = j
    · subst e; exact Int.le_refl _
    · have := List.pairwise_iff_getElem.1 hp i j (by omega) hj' (by omega)
      simp only [decide_eq_true_eq] at this
      have hi' : i < (l.mergeSort fun x y => decide (x ≤ y)).length := by omega
      rw [getElem!_pos _ _ (by simpa using hi'), getElem!_pos _ _ (by simpa using hj')]
      simpa using this
  have h := upTo_asc _ hs _ (Nat.le_refl _)
  have e : Lib.compactUpTo (l.mergeSort fun x y => decide (x ≤ y)).toArray (l.mergeSort fun x y => decide (x ≤ y)).toArray.size = cellsL l := by unfold cellsL Lib.compact; simp
  rw [e] at h
  refine ⟨h.1, fun x => ?_⟩
  rw [h.2, ← List.mem_mergeSort (le := fun x y : Int => decide (x ≤ y)) (l := l), List.mem_iff_getElem]
  constructor
  · rintro ⟨j, hj, rfl⟩
    have hj' : j < (l.mergeSort fun x y => decide (x ≤ y)).length := by simpa using hj
    exact ⟨j, hj', by rw [getElem!_pos (l.mergeSort fun x y => decide (x ≤ y)).toArray j hj]; simp⟩
  · rintro ⟨j, hj, rfl⟩
    have hj' : j < (l.mergeSort fun x y => decide (x ≤ y)).toArray.size := by simpa using hj
    exact ⟨j, hj', by rw [getElem!_pos (l.mergeSort fun x y => decide (x ≤ y)).toArray j hj']; simp⟩
theorem asc_ext : ∀ a b : List Int, a.Pairwise (· < ·) → b.Pairwise (· < ·) → (∀ x, x ∈ a ↔ x ∈ b) → a = b
  | [], [], _, _, _ => rfl
  | [], y :: b, _, _, h => absurd ((h y).2 (List.mem_cons_self ..)) (by simp)
  | x :: a, [], _, _, h => absurd ((h x).1 (List.mem_cons_self ..)) (by simp)
  | x :: a, y :: b, ha, hb, h => by
    rw [List.pairwise_cons] at ha hb
    have e : x = y := by
      have h1 := (h x).1 (List.mem_cons_self ..)
      have h2 := (h y).2 (List.mem_cons_self ..)
      rw [List.mem_cons] at h1 h2
      rcases h1 with h1 | h1
      · exact h1
      · rcases h2 with h2 | h2
        · exact h2.symm
        · have := ha.1 y h2
          have := hb.1 x h1
          omega
    subst e
    rw [asc_ext a b ha.2 hb.2 fun z => ?_]
    constructor
    · intro hz
      have := (h z).1 (List.mem_cons_of_mem _ hz)
      rw [List.mem_cons] at this
      rcases this with this | this
      · have := ha.1 z hz; omega
      · exact this
    · intro hz
      have := (h z).2 (List.mem_cons_of_mem _ hz)
      rw [List.mem_cons] at this
      rcases this with this | this
      · have := hb.1 z hz; omega
      · exact this

/-- a correction's cell's number -/
def idxQ (c : Nat) (q : Quad) : Int := q.1 * (c : Int) + q.2.1
def cellsOut (g : Rows) (l : List Quad) : List Int := if EdOk g l then cellsL (l.map (idxQ (colsOf g))) else []
theorem cellsOut_yes {g : Rows} {l : List Quad} (h : EdOk g l) : cellsOut g l = cellsL (l.map (idxQ (colsOf g))) := if_pos h
theorem cellsOut_no {g : Rows} {l : List Quad} (h : ¬ EdOk g l) : cellsOut g l = [] := if_neg h
theorem ownsRow_ne {w : World} {base n size : Nat} {e : TypeId} {v : Value} {xs : List Value} (h : w.ownsRow base e size v n xs) (hn : 0 < n) : v ≠ .slice none 0 0 := by
  rintro rfl
  rcases h.2 with ⟨_, h0⟩ | ⟨g, cap, cur, e, _⟩
  · omega
  · cases e
theorem idx_up {l : List Quad} {c k : Nat} (h : k < l.length) : (l.take (k + 1)).map (idxQ c) = (l.take k).map (idxQ c) ++ [idxQ c (l[k]?.getD q0)] := by
  rw [List.take_add_one, List.map_append, List.getElem?_eq_getElem h]; rfl

set_option maxHeartbeats 2000000 in
set_option maxRecDepth 100000 in
theorem FixesCells_any (vg vl : Value) (g : Rows) (l : List Quad) (w : World) (hG : Grid w vg g) (hL : Quads w vl l) :
    Calls Try.prog 10 #[vg, vl] w fun e w' => ∃ v, e = .returned v ∧ Own w.heap.size w'.heap.size w' v (cellsOut g l) ∧ Below w.heap.size w w' := by
  by_cases h : EdOk g l
  · have CE := Lib.hid (editions_yes vg vl g l w hG hL h)
    have HL := Lib.hid hL.quadsB
    obtain ⟨la, lc, rfl, q1, q2, q3⟩ := hL
    have HQ := Lib.hid q3
    have hl60 := h.2.1
    have hgl := h.1.2.1
    have hca := h.1.2.2.2.1
    have HE := Lib.hid h
    have HIN : Hid (∀ k, k < l.length → ∃ i j : Nat, (l[k]?.getD q0).1 = (i : Int) ∧ (l[k]?.getD q0).2.1 = (j : Int) ∧ i < g.length ∧ j < colsOf g) := by
      show ∀ k, _
      intro k hk
      have cn := h.2.2 k hk
      have d := doneUp_grid h.1 k (by omega) (h.2.2.less (by omega))
      have a1 := cn.1
      have a2 := cn.2.1
      have a3 := cn.2.2.1
      have a4 := cn.2.2.2.1
      rw [d.2.1] at a2
      rw [d.2.2] at a4
      exact ⟨(l[k]?.getD q0).1.toNat, (l[k]?.getD q0).2.1.toNat, by omega, by omega, by omega, by omega⟩
    rw [cellsOut_yes h]
    clear hG q3 h
    go_enter Try.func10, Try.ntmps10
    go_wp2_with fail
    refine CE.out.mono ?_
    rintro e w1 ⟨a, b, cap, m, f, rfl, _, _, hra, hrow, hfo, hb⟩
    have hz := hb.size
    have HB := Lib.hid ((hb.alloc hb.size (.cells #[.int .i64 g.length, .int .i64 (colsOf g), .slice (some ⟨a, 0, none⟩) (g.length * colsOf g) (g.length * colsOf g)] 64)).alloc (by simp; omega) (.cells #[.int .i64 g.length, .int .i64 (colsOf g), .slice (some ⟨b, 0, none⟩) (g.length * colsOf g) cap] 64))
    have BX := Lib.hid (Box3.block (Box3.row (field_row w1 (.int .i64 g.length) (.int .i64 (colsOf g)) (.slice (some ⟨a, 0, none⟩) (g.length * colsOf g) (g.length * colsOf g)))) (Below.heap_alloc (w1.alloc (.cells #[.int .i64 g.length, .int .i64 (colsOf g), .slice (some ⟨a, 0, none⟩) (g.length * colsOf g) (g.length * colsOf g)] 64)) (.cells #[.int .i64 g.length, .int .i64 (colsOf g), .slice (some ⟨b, 0, none⟩) (g.length * colsOf g) cap] 64) w1.heap.size (by simp)))
    clear hra hrow hfo hb CE
    obtain ⟨w0, hw0⟩ : ∃ w0, w0 = (w1.alloc (.cells #[.int .i64 g.length, .int .i64 (colsOf g), .slice (some ⟨a, 0, none⟩) (g.length * colsOf g) (g.length * colsOf g)] 64)).alloc (.cells #[.int .i64 g.length, .int .i64 (colsOf g), .slice (some ⟨b, 0, none⟩) (g.length * colsOf g) cap] 64) := ⟨_, rfl⟩
    have hzw0 : w0.heap.size = w1.heap.size + 2 := by rw [hw0]; simp
    have HW0 := Lib.hid hw0
    rw [← hw0] at HB BX
    clear hw0
    have hFw : w1.heap.size < w0.heap.size := by omega
    obtain ⟨F, hF⟩ : ∃ F, F = w1.heap.size := ⟨_, rfl⟩
    go_wp2_with fail
    rw [← HW0.out]
    rw [← hF] at BX hFw ⊢
    have hz2 : w0.heap.size = F + 1 + 1 := by omega
    clear hF hzw0
    have hz0 : w.heap.size ≤ w0.heap.size := HB.out.size
    have HM : Hid ((w0.alloc (.cells #[] 3)).ownsRow w0.heap.size 3 1 (.slice (some ⟨F + 1 + 1, 0, none⟩) 0 0) 0 []) := by
      show World.ownsRow _ _ _ _ _ _ _
      rw [← hz2]
      exact World.ownsRow_made w0 #[] 0 (Nat.le_refl _) (by decide) rfl
    clear hz2
    go_loopw [8, 10, 23] (fun v _ s wr => ∃ k : Nat, k ≤ l.length ∧ s = .int .i64 k ∧ v ≠ .slice none 0 0 ∧ wr.ownsRow w0.heap.size 3 1 v ((l.take k).map (idxQ (colsOf g))).length (((l.take k).map (idxQ (colsOf g))).map (Value.int .i64)) ∧ Below w0.heap.size w0 wr) (fun _ _ s _ => l.length - (intOf s).toNat)
    case atStart => exact ⟨0, Nat.zero_le _, rfl, (by simp), HM.out, (Below.refl _ _).alloc (Nat.le_refl _) _⟩
    case round =>
      obtain ⟨k, hk, rfl, hvn, hown, hbel⟩ := hrel
      have HO := Lib.hid hown
      have HBE := Lib.hid hbel
      have HVN := Lib.hid hvn
      have hzw := hbel.size
      by_cases hlt : k < l.length
      · obtain ⟨bb, off, hae, hbb, hq⟩ := HQ.out (by omega)
        subst hae
        obtain ⟨c0, c1, c2, c3⟩ := (hq k hlt).below (HB.out.trans (hbel.mono hz0)) hbb
        obtain ⟨i, j, ei, ej, hi, hj⟩ := HIN.out k hlt
        have HS := Lib.hid (idx_up (c := colsOf g) hlt)
        obtain ⟨x0, x1, x2, x3, hx⟩ : ∃ x0 x1 x2 x3, (x0, x1, x2, x3) = l[k]?.getD q0 := ⟨_, _, _, _, rfl⟩
        have hidx : idxQ (colsOf g) (l[k]?.getD q0) = ((i * colsOf g + j : Nat) : Int) := by unfold idxQ; rw [ei, ej]; simp
        rw [← hx] at c0 c1 c2 c3 ei ej
        dsimp only at c0 c1 c2 c3 ei ej
        subst ei ej
        obtain ⟨n, hn⟩ : ∃ n, n = i * colsOf g + j := ⟨_, rfl⟩
        rw [← hn] at hidx
        rw [hidx] at HS
        have HQB := Lib.hid (QBox_new wr ((i : Int), (j : Int), x2, x3) 41)
        have HBA := Lib.hid (HBE.out.alloc hzw (.cells #[.int .i64 (i : Int), .int .i64 (j : Int), .int .i64 x2, .int .i64 x3] 41))
        have HOA := Lib.hid (HO.out.alloc (.cells #[.int .i64 (i : Int), .int .i64 (j : Int), .int .i64 x2, .int .i64 x3] 41))
        obtain ⟨k0, k1, k2⟩ := BX.out.block (HBA.out.block F hFw)
        have CI : Hid (∀ W, Calls Try.prog 47 #[fv g.length (colsOf g) (.slice (some ⟨a, 0, none⟩) (g.length * colsOf g) (g.length * colsOf g)), .int .i64 i, .int .i64 j] W fun e w' => e = .returned (.int .i64 n) ∧ Below W.heap.size W w') := fun W => index_any g.length (colsOf g) i j n _ ⟨_, _, _, rfl⟩ W (by omega) (by omega) (by omega) hn
        obtain ⟨L, hL⟩ : ∃ L, L = (l.take k).map (idxQ (colsOf g)) := ⟨_, rfl⟩
        rw [← hL] at HO HOA HS
        have hLn : L.length ≤ 1000 := by rw [hL, List.length_map, List.length_take]; omega
        clear hq hx hbel hown hL hidx hn hvn
        go_wp2_with fail
        refine (CI.out _).mono ?_
        rintro e w5 ⟨rfl, hb5⟩
        have z5 := hb5.size
        simp only [World.size_alloc] at z5
        have HB5 := Lib.hid (HBA.out.trans (hb5.mono (by simp; omega)))
        have HO5 := Lib.hid (ownsRow_blk HOA.out (fun k e => hb5.block k (HOA.out.lt k e).2))
        have hzb : w0.heap.size ≤ (w5.alloc (.cells #[.int .i64 n] 3)).heap.size := by simp; omega
        have HO6 := Lib.hid (HO5.out.alloc (.cells #[.int .i64 (n : Int)] 3))
        have HB6 := Lib.hid (HB5.out.alloc (by omega) (.cells #[.int .i64 (n : Int)] 3))
        clear c0 c1 c2 c3 k0 k1 k2 hb5
        go_wp2_with (at_builtin; refine app_ints _ rfl _ _ rfl w0.heap.size _ L _ [(n : Int)] HO6.out (ints_single (by simp)) rfl rfl (by simp; omega) hzb ?_; intro v9 w9 hown9 hg9; have HO9 := Lib.hid hown9; have HB9 := Lib.hid (HB6.out.grown hg9 hzb (fun k e => (HO6.out.lt k e).1)); clear hown9 hg9)
        go_roundw
        case rel =>
          refine ⟨k + 1, by omega, by go_num, ownsRow_ne HO9.out (by simp), ?_, HB9.out⟩
          rw [HS.out]
          exact HO9.out
        case measure => simp [intOf]; omega
      · obtain rfl : k = l.length := by omega
        rw [List.take_length] at HO
        obtain ⟨L, hL⟩ : ∃ L, L = l.map (idxQ (colsOf g)) := ⟨_, rfl⟩
        rw [← hL] at HO
        have HLE := Lib.hid hL
        have hLn : L.length ≤ 1000 := by rw [hL, List.length_map]; omega
        clear hown hbel hvn hL
        go_wp2_with fail
        refine (sortI_any _ L w0.heap.size _ HO.out HVN.out hLn).mono ?_
        rintro e w6 ⟨rfl, hown6, hg6⟩
        have hl6 : (L.mergeSort fun x y => decide (x ≤ y)).length = L.length := List.length_mergeSort L
        have HB6 := Lib.hid (HBE.out.grown hg6 hzw (fun k e => (HO.out.lt k e).1))
        rw [← hl6] at hown6
        have HO6 := Lib.hid hown6
        clear hown6 hg6
        go_wp2_with fail
        refine (compactI_any _ _ w0.heap.size _ HO6.out HVN.out (by omega)).mono ?_
        rintro e w7 ⟨u, rfl, hown7, hg7⟩
        have HB7 := Lib.hid (HB6.out.grown hg7 HB6.out.size (fun k e => (HO6.out.lt k e).1))
        have HO7 := Lib.hid hown7
        clear hown7 hg7
        go_wp2_with fail
        go_ret
        exact ⟨u, rfl, by rw [← HLE.out]; exact (own_of_ownsRow HO7.out (Nat.le_refl _)).mono hz0 (Nat.le_refl _), HB.out.trans (HB7.out.mono hz0)⟩
  · have CE := Lib.hid (editions_no vg vl g l w hG hL h)
    rw [cellsOut_no h]
    clear hG hL h
    go_enter Try.func10, Try.ntmps10
    go_wp2_with fail
    refine CE.out.mono ?_
    rintro e w1 ⟨rfl, hb⟩
    go_wp2_with fail
    go_ret
    exact ⟨_, rfl, .inl ⟨rfl, none, 0, rfl, by omega⟩, (hb.alloc hb.size _).alloc (by have := hb.size; simp; omega) _⟩

def HitC (c : Nat) (l : List Quad) (i : Nat) : Prop := ∃ k, k < l.length ∧ idxQ c (l[k]?.getD q0) = (i : Int)
instance (c : Nat) (l : List Quad) (i : Nat) : Decidable (HitC c l i) := by unfold HitC; infer_instance
def specUp (c : Nat) (l : List Quad) : Nat → List Int
  | 0 => []
  | m + 1 => specUp c l m ++ if HitC c l m then [(m : Int)] else []
theorem specUp_len (c : Nat) (l : List Quad) : ∀ m, (specUp c l m).length ≤ m := by
  intro m
  induction m with
  | zero => exact Nat.le_refl _
  | succ m ih =>
    show (specUp c l m ++ _).length ≤ _
    rw [List.length_append]
    split <;> simp <;> omega
theorem specUp_asc (c : Nat) (l : List Quad) : ∀ m, (specUp c l m).Pairwise (· < ·) ∧ ∀ x, x ∈ specUp c l m ↔ ∃ i : Nat, i < m ∧ x = (i : Int) ∧ HitC c l i := by
  intro m
  induction m with
  | zero => exact ⟨List.Pairwise.nil, fun x => ⟨fun h => by simp [specUp] at h, fun ⟨i, hi, _⟩ => by omega⟩⟩
  | succ m ih =>
    show (specUp c l m ++ _).Pairwise _ ∧ ∀ x, x ∈ specUp c l m ++ _ ↔ _
    by_cases hh : HitC c l m
    · rw [if_pos hh]
      refine ⟨List.pairwise_append.2 ⟨ih.1, List.pairwise_singleton _ _, fun x hx y hy => ?_⟩, fun x => ?_⟩
      · rw [List.mem_singleton] at hy
        obtain ⟨i, hi, rfl, _⟩ := (ih.2 x).1 hx
        omega
      · rw [List.mem_append, List.mem_singleton, ih.2]
        constructor
        · rintro (⟨i, hi, e⟩ | e)
          · exact ⟨i, by omega, e⟩
          · exact ⟨m, by omega, e, hh⟩
        · rintro ⟨i, hi, e, h2⟩
          by_cases ei : i = m
          · subst ei; exact .inr e
          · exact .inl ⟨i, by omega, e, h2⟩
    · rw [if_neg hh, List.append_nil]
      refine ⟨ih.1, fun x => ?_⟩
      rw [ih.2]
      constructor
      · rintro ⟨i, hi, e⟩; exact ⟨i, by omega, e⟩
      · rintro ⟨i, hi, e, h2⟩
        by_cases ei : i = m
        · subst ei; exact absurd h2 hh
        · exact ⟨i, by omega, e, h2⟩
theorem fix_in {g : Rows} {l : List Quad} (h : EdOk g l) {k : Nat} (hk : k < l.length) : ∃ i j : Nat, (l[k]?.getD q0).1 = (i : Int) ∧ (l[k]?.getD q0).2.1 = (j : Int) ∧ i < g.length ∧ j < colsOf g := by
  have cn := h.2.2 k hk
  have d := doneUp_grid h.1 k (by omega) (h.2.2.less (by omega))
  have a1 := cn.1
  have a2 := cn.2.1
  have a3 := cn.2.2.1
  have a4 := cn.2.2.2.1
  rw [d.2.1] at a2
  rw [d.2.2] at a4
  exact ⟨(l[k]?.getD q0).1.toNat, (l[k]?.getD q0).2.1.toNat, by omega, by omega, by omega, by omega⟩
theorem specUp_all {g : Rows} {l : List Quad} (h : EdOk g l) : specUp (colsOf g) l (g.length * colsOf g) = cellsOut g l := by
  rw [cellsOut_yes h]
  have a := specUp_asc (colsOf g) l (g.length * colsOf g)
  have b := cellsL_asc (l.map (idxQ (colsOf g)))
  refine asc_ext _ _ a.1 b.1 fun x => ?_
  rw [a.2, b.2, List.mem_map]
  constructor
  · rintro ⟨i, hi, rfl, k, hk, e⟩
    exact ⟨_, List.getElem_mem hk, by rw [← e, getQ_eq hk]⟩
  · rintro ⟨q, hq, rfl⟩
    obtain ⟨k, hk, rfl⟩ := List.mem_iff_getElem.1 hq
    obtain ⟨i, j, e1, e2, hi, hj⟩ := fix_in h hk
    rw [getQ_eq hk] at e1 e2
    have e : idxQ (colsOf g) l[k] = ((i * colsOf g + j : Nat) : Int) := by unfold idxQ; rw [e1, e2]; simp
    refine ⟨i * colsOf g + j, ?_, e, k, hk, by rw [getQ_eq hk]; exact e⟩
    have := Nat.mul_le_mul_right (colsOf g) (show i + 1 ≤ g.length by omega)
    rw [Nat.succ_mul] at this
    omega
theorem cellsOut_len (g : Rows) (l : List Quad) : (cellsOut g l).length ≤ 1099511627776 := by
  by_cases h : EdOk g l
  · rw [← specUp_all h]
    have := specUp_len (colsOf g) l (g.length * colsOf g)
    have := small_cells h.1
    omega
  · rw [cellsOut_no h]; exact Nat.zero_le _

set_option maxHeartbeats 1000000 in
theorem l2Cells_any (v : Value) (g : Rows) (w : World) (h : Grid w v g) (hg : GridOk g) :
    Calls Try.prog 51 #[v] w fun e w' => e = .returned (.int .i64 ((g.length * colsOf g : Nat) : Int)) ∧ Below w.heap.size w w' := by
  obtain ⟨ga, gc, rfl, g1, g2, g3⟩ := h
  obtain ⟨gb, go, rfl, gb1, hcc⟩ := g3 (by have := hg.1; omega)
  obtain ⟨r, hr, a2, c2, rfl, r1, r2, r3⟩ := hcc 0 (by have := hg.1; omega)
  rw [(hg.2.2.2.2 0 (by have := hg.1; omega)).1, Nat.add_zero] at hr
  have hgl := hg.1
  have hgl2 := hg.2.1
  have hca := hg.2.2.1
  have hca2 := hg.2.2.2.1
  have hsm := small_cells hg
  have e0 : ((g.length * colsOf g : Nat) : Int) = (g.length : Int) * (colsOf g : Int) := by simp
  have e1 : 0 ≤ (g.length : Int) * (colsOf g : Int) ∧ (g.length : Int) * (colsOf g : Int) ≤ 49 := by rw [← e0]; omega
  have w1 := wrap_small (x := (g.length : Int) * (colsOf g : Int)) (by omega) (by omega)
  obtain ⟨n, hn⟩ : ∃ n, n = g.length := ⟨_, rfl⟩
  obtain ⟨c, hc⟩ : ∃ n, n = colsOf g := ⟨_, rfl⟩
  rw [← hn, ← hc] at w1
  rw [← hn] at hgl hgl2 g1 ⊢
  rw [← hc] at hca hr ⊢
  have n1 : (0 : Int) < (n : Int) := by omega
  have n2 : 0 < n := by omega
  clear hcc hg e0 e1 hsm hn hc g3 r3 r1 r2
  go_enter Try.func51, Try.ntmps51
  go_wp2
  go_ret
  exact ⟨ret_int (by simp), below_n (Below.refl _ _) 0⟩

set_option maxHeartbeats 4000000 in
set_option maxRecDepth 100000 in
theorem specFixesCells_any (vg vl : Value) (g : Rows) (l : List Quad) (w : World) (hG : Grid w vg g) (hL : Quads w vl l) :
    Calls Try.prog 11 #[vg, vl] w fun e w' => ∃ v, e = .returned v ∧ Own w.heap.size w'.heap.size w' v (cellsOut g l) ∧ Below w.heap.size w w' := by
  have HGR := Lib.hid (show GridB w.heap.size w vg g from hG)
  have HL := Lib.hid hL.quadsB
  have CV : Hid (∀ W, Below w.heap.size w W → Calls Try.prog 50 #[vg, vl] W fun e w' => e = .returned (.bool (decide (EdOk g l))) ∧ Below W.heap.size W w') := fun W hb => specFixesValid_any vg vl g l W ((HGR.out.below hb (Nat.le_refl _)).grid hb.size) ((HL.out.below hb (Nat.le_refl _)).quads hb.size)
  have HB0 := Lib.hid ((Below.refl w.heap.size w).alloc (Nat.le_refl _) (.cells #[] 3))
  have HM : Hid ((w.alloc (.cells #[] 3)).ownsRow w.heap.size 3 1 (.slice (some ⟨w.heap.size, 0, none⟩) 0 0) 0 []) := World.ownsRow_made w #[] 0 (Nat.le_refl _) (by decide) rfl
  by_cases h : EdOk g l
  · rw [decide_eq_true h] at CV
    obtain ⟨la, lc, rfl, q1, q2, q3⟩ := hL
    have HQ := Lib.hid q3
    have hl60 := h.2.1
    have hgl := h.1.2.1
    have hgl1 := h.1.1
    have hca := h.1.2.2.2.1
    have hca1 := h.1.2.2.1
    have HIN : Hid (∀ k, k < l.length → ∃ i j : Nat, (l[k]?.getD q0).1 = (i : Int) ∧ (l[k]?.getD q0).2.1 = (j : Int) ∧ i < g.length ∧ j < colsOf g) := fun k hk => fix_in h hk
    have HALL := Lib.hid (specUp_all h)
    have sm := small_cells h.1
    obtain ⟨ga, gc, rfl, g1, g2, g3⟩ := HGR.out
    obtain ⟨gb, go, rfl, gb1, hcc⟩ := g3 (by omega)
    obtain ⟨r, hr, a2, c2, rfl, r1, r2, r3⟩ := hcc 0 (by omega)
    rw [(h.1.2.2.2.2 0 (by omega)).1, Nat.add_zero] at hr
    have HR := Lib.hid hr
    obtain ⟨c, hc⟩ : ∃ c, c = colsOf g := ⟨_, rfl⟩
    obtain ⟨R, hR⟩ : ∃ R, R = g.length := ⟨_, rfl⟩
    rw [← hc] at HIN HALL HR hca hca1 sm
    rw [← hR] at HIN HALL hgl hgl1 sm CV HGR g1 ⊢
    obtain ⟨N, hN⟩ : ∃ N, N = R * c := ⟨_, rfl⟩
    rw [← hN] at HALL sm
    have eN : (R : Int) * (c : Int) = (N : Int) := by rw [hN]; simp
    have wN := IntWalk.i64_in (N : Int) (by omega)
    have HNR := Lib.hid hN
    have CC : Hid (∀ W, Below w.heap.size w W → Calls Try.prog 51 #[.slice (some ⟨gb, go, none⟩) R gc] W fun e w' => e = .returned (.int .i64 (N : Int)) ∧ Below W.heap.size W w') := by
      intro W hb
      have := l2Cells_any (.slice (some ⟨gb, go, none⟩) R gc) g W ((HGR.out.below hb (Nat.le_refl _)).grid hb.size) h.1
      rw [← hR, ← hc, ← hN] at this
      exact this
    clear hG q3 h hcc r3 r1 r2 g3 hr hc hR hN
    go_enter Try.func11, Try.ntmps11
    go_wp2_with fail
    refine (CV.out _ HB0.out).mono ?_
    rintro e w1 ⟨rfl, hb1⟩
    have HB1 := Lib.hid (HB0.out.trans (hb1.mono (by simp)))
    have HM1 := Lib.hid (ownsRow_blk HM.out (fun k e => hb1.block k (HM.out.lt k e).2))
    have z1 := HB1.out.size
    clear hb1
    go_wp2_with fail
    go_loopw [5, 6, 7] (fun v s _ wr => ∃ m : Nat, m ≤ N ∧ s = .int .i64 m ∧ wr.ownsRow w.heap.size 3 1 v (specUp c l m).length ((specUp c l m).map (Value.int .i64)) ∧ Below w.heap.size w wr) (fun _ s _ _ => N - (intOf s).toNat)
    case atStart => exact ⟨0, Nat.zero_le _, rfl, HM1.out, HB1.out⟩
    case round =>
      obtain ⟨m, hm, rfl, hown, hbel⟩ := hrel
      obtain ⟨ra, rc, rfl⟩ := ownsRow_sl hown
      have HO := Lib.hid hown
      have HBE := Lib.hid hbel
      clear hown hbel
      obtain ⟨S, hS⟩ : ∃ S, S = (specUp c l m).length := ⟨_, rfl⟩
      rw [← hS] at HO ⊢
      have HSL := Lib.hid hS
      clear hS
      go_wp2_with fail
      refine (CC.out _ HBE.out).mono ?_
      rintro e w2 ⟨rfl, hb2⟩
      have HB2 := Lib.hid (HBE.out.trans (hb2.mono HBE.out.size))
      have HO2 := Lib.hid (ownsRow_blk HO.out (fun k e => hb2.block k (HO.out.lt k e).2))
      clear hb2
      by_cases hmN : m < N
      · have hx0 := (HB2.out.cell (p := ⟨gb, go, none⟩) gb1).trans HR.out
        have hmI : (m : Int) < (N : Int) := by omega
        go_wp2_with fail
        go_loopw [5, 7] (fun u s wi => ∃ k n : Nat, k ≤ l.length ∧ s = .int .i64 k ∧ u = .slice ra S rc ∧ wi = w2.drewN n ∧ ∀ j, j < k → idxQ c (l[j]?.getD q0) ≠ (m : Int)) (fun _ s _ => l.length - (intOf s).toNat)
        case atStart => exact ⟨0, 0, Nat.zero_le _, rfl, rfl, rfl, fun j hj => absurd hj (Nat.not_lt_zero _)⟩
        case round =>
          obtain ⟨k, n, hk, rfl, rfl, rfl, hno⟩ := hrel
          have HNO := Lib.hid hno
          clear hno
          by_cases hlt : k < l.length
          · obtain ⟨bb, off, hae, hbb, hq⟩ := HQ.out (by omega)
            subst hae
            obtain ⟨d0, d1, d2, d3⟩ := (hq k hlt).below HB2.out hbb
            obtain ⟨i, j, ei, ej, hi, hj⟩ := HIN.out k hlt
            have hidx : idxQ c (l[k]?.getD q0) = (i : Int) * (c : Int) + (j : Int) := by unfold idxQ; rw [ei, ej]
            rw [ei] at d0
            rw [ej] at d1
            have ms := mul_small i c (by omega) (by omega)
            have v1 := wrap_small (x := (i : Int) * (c : Int)) (by omega) (by omega)
            have v2 := wrap_small (x := (i : Int) * (c : Int) + (j : Int)) (by omega) (by omega)
            have HID := Lib.hid hidx
            clear hq ei ej hidx d2 d3
            by_cases he : (i : Int) * (c : Int) + (j : Int) = (m : Int)
            · have te : ((i : Int) * (c : Int) + (j : Int) == (m : Int)) = true := by simp [he]
              have HS : Hid (specUp c l (m + 1) = specUp c l m ++ [(m : Int)]) := by show specUp c l m ++ _ = _; rw [if_pos ⟨k, hlt, by rw [HID.out]; exact he⟩]
              have HLN := Lib.hid (specUp_len c l m)
              obtain ⟨L, hL⟩ : ∃ L, L = specUp c l m := ⟨_, rfl⟩
              rw [← hL] at HS HO2
              have HO2' : Hid (w2.ownsRow w.heap.size 3 1 (.slice ra S rc) L.length (L.map (Value.int .i64))) := by
                show World.ownsRow _ _ _ _ _ _ _
                rw [show L.length = S by rw [hL]; exact HSL.out.symm]
                exact HO2.out
              have hLn : L.length ≤ 1000 := by rw [hL]; have := HLN.out; omega
              clear he hL
              go_wp2_with fail
              go_quiet (fail)
              have HD := Lib.hid (below_n (Below.refl w2.heap.size w2) (n + nq))
              have HO3 := Lib.hid ((ownsRow_blk HO2'.out (fun k e => HD.out.block k (HO2'.out.lt k e).2)).alloc (.cells #[.int .i64 (m : Int)] 3))
              have HB3 := Lib.hid ((HB2.out.trans (HD.out.mono HB2.out.size)).alloc (by exact (HB2.out.trans (HD.out.mono HB2.out.size)).size) (.cells #[.int .i64 (m : Int)] 3))
              go_wp2_with (at_builtin; refine app_ints _ rfl _ _ rfl w.heap.size _ L _ [(m : Int)] HO3.out (ints_single (by simp)) rfl rfl (by simp; omega) HB3.out.size ?_; intro v9 w9 hown9 hg9; have HO9 := Lib.hid hown9; have HB9 := Lib.hid (HB3.out.grown hg9 HB3.out.size (fun k e => (HO3.out.lt k e).1)); clear hown9 hg9)
              go_roundw
              case rel => exact ⟨m + 1, by omega, by go_num, by rw [HS.out]; exact HO9.out, HB9.out⟩
              case measure => simp [intOf]; omega
            · have te : ((i : Int) * (c : Int) + (j : Int) == (m : Int)) = false := by simp [he]
              have HNE := Lib.hid he
              clear he
              go_wp2_with fail
              go_quiet (fail)
              go_wp2_with fail
              go_roundw
              case rel =>
                refine ⟨k + 1, n + nq, by omega, by go_num, rfl, rfl, fun j' hj' => ?_⟩
                by_cases e : j' = k
                · subst e; rw [HID.out]; exact HNE.out
                · exact HNO.out j' (by omega)
              case measure => simp [intOf]; omega
          · obtain rfl : k = l.length := by omega
            have HS : Hid (specUp c l (m + 1) = specUp c l m) := by show specUp c l m ++ _ = _; rw [if_neg (fun ⟨k, hk, e⟩ => HNO.out k hk e), List.append_nil]
            go_wp2_with fail
            go_roundw
            case rel => exact ⟨m + 1, by omega, by go_num, by rw [HS.out, ← HSL.out]; exact ownsRow_blk HO2.out (fun k e => (below_n (Below.refl w2.heap.size w2) n).block k (HO2.out.lt k e).2), below_n HB2.out _⟩
            case measure => simp [intOf]; omega
      · obtain rfl : m = N := by omega
        have hmI : ¬ (m : Int) < (m : Int) := by omega
        go_wp2_with fail
        go_ret
        exact ⟨_, rfl, by have h9 := HO2.out; rw [HSL.out] at h9 ⊢; rw [← HALL.out]; exact own_of_ownsRow h9 (Nat.le_refl _), HB2.out⟩
  · rw [decide_eq_false h] at CV
    rw [cellsOut_no h]
    clear hG hL h
    go_enter Try.func11, Try.ntmps11
    go_wp2_with fail
    refine (CV.out _ HB0.out).mono ?_
    rintro e w1 ⟨rfl, hb1⟩
    have HB1 := Lib.hid (HB0.out.trans (hb1.mono (by simp)))
    clear hb1
    go_wp2_with fail
    go_ret
    exact ⟨_, rfl, .inl ⟨rfl, _, 0, rfl, by omega⟩, HB1.out⟩
end Go.Proofs.Ytdelcebkpdnnjaa
