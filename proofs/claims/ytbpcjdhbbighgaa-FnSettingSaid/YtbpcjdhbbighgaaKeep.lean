/-
  An append that leaves the shorter slice as it was; a frame for calls that write behind a slice's end. Own work; no condition.
-/
import Derived.Test.YtbpcjdhbbighgaaFlip
namespace Go.Proofs.Ytbpcjdhbbighgaa
open Go.RowKit Go.Deep

/-- v' goes on from v: in v's own block, or in a new one -/
def Ext (N : Nat) (v v' : Value) : Prop :=
  (∃ g n cap, v = .slice (some ⟨g, 0, none⟩) n cap ∧ v' = .slice (some ⟨g, 0, none⟩) (n + 1) cap) ∨ ∃ g n cap, N ≤ g ∧ v' = .slice (some ⟨g, 0, none⟩) n cap
theorem run_append_keep {P : Program} {w : World} (base : Nat) (t ty e : TypeId) (i : TypeInfo) (z : Value) (ht : P.underlying t = some (.slice e)) (hi : P.info? e = some i) (hz : i.zero = some z)
    (hsize : i.size = 1) (hby : i.bytes ≤ 8) (hzs : z.cells.size = 1)
    (v : Value) (n : Nat) (xs : List Value) (hown : w.ownsRow base e 1 v n xs) (a : Addr) (c : Nat) (x : Value) (hx : w.cell? a = some x) (h1 : x.oneCell' = true) (hn : n ≤ 1000) (hbase : base ≤ w.heap.size) :
    ∃ v' w', (Builtin.append_ #[t, t] ty #[v, .slice (some a) 1 c]).run P w = .ok v' w' ∧ w'.ownsRow base e 1 v' (n + 1) (xs ++ [x]) ∧ w'.ownsRow base e 1 v n xs ∧ w.grownBy w' v.ownBlock ∧ Ext w.heap.size v v' := by
  have hnews : ∀ j u, [x][j]? = some u → w.cell? (a.add j) = some u := by
    intro j u hj
    match j, hj with
    | 0, hj =>
      simp at hj; subst hj
      obtain ⟨b, o, s⟩ := a
      have hs : s = none := by simpa using World.cell?_spot hx
      subst hs
      simpa [Addr.add] using hx
    | j + 1, hj => simp at hj
  have h1' : ∀ u ∈ [x], u.oneCell' = true := by intro u hu; simp at hu; subst hu; exact h1
  have hlen : (xs ++ [x]).length = (n + 1) * 1 := by rw [List.length_append, hown.1]; simp
  have h63 : n + 1 ≤ maxLen := by simp only [maxLen]; omega
  have hbytes : (n + 1) * i.bytes ≤ 140737488355328 := by
    have : (n + 1) * i.bytes ≤ (n + 1) * 8 := Nat.mul_le_mul_left _ hby
    omega
  have grown : ∀ (old : Nat), old < n + 1 → ∀ (row : Option Nat),
      (w.drew.alloc (.cells (xs.toArray ++ [x].toArray ++ Builtin.zeroCells z.cells (grownCap w (n + 1) old e - (n + 1))) e)).ownsRow base e 1
        (.slice (some ⟨w.heap.size, 0, none⟩) (n + 1) (grownCap w (n + 1) old e)) (n + 1) (xs ++ [x]) ∧
      w.grownBy (w.drew.alloc (.cells (xs.toArray ++ [x].toArray ++ Builtin.zeroCells z.cells (grownCap w (n + 1) old e - (n + 1))) e)) row ∧
      (w.drew.alloc (.cells (xs.toArray ++ [x].toArray ++ Builtin.zeroCells z.cells (grownCap w (n + 1) old e - (n + 1))) e)).ownsRow base e 1 v n xs := by
    intro old ho row
    have hge := grownCap_ge w (n + 1) old e
    have hcm : grownCap w (n + 1) old e ≤ maxLen := grownCap_le_maxLen w (n + 1) old e h63
    refine ⟨⟨hlen, .inr ⟨w.heap.size, _, _, rfl, hbase, heap_alloc_new w.drew _, hge, hcm, ?_, ?_⟩⟩, ⟨rfl, rfl, rfl, by simp, fun k hk _ => heap_alloc_old w.drew _ hk⟩, ?_⟩
    · simp only [Array.size_append, List.size_toArray, size_zeroCells, hzs, hown.1, List.length_singleton]
      omega
    · simp only [Array.toList_append, List.append_assoc]
      rw [← List.append_assoc, ← hlen]
      exact List.take_left
    · exact World.ownsRow.alloc (w := w.drew) hown _
  rcases id hown.2 with ⟨hv, hn0⟩ | ⟨g, cap, cur, hv, hbg, hg, hnc, hcm, hcs, htake⟩
  · subst hv; subst hn0
    have hxs : xs = [] := List.eq_nil_of_length_eq_zero (by simpa using hown.1)
    subst hxs
    have hr := run_append_nil (P := P) w t ty e i z ht hi hz a 1 c [x] (by rw [hsize]; rfl) hnews (by omega) (by omega) (by have hb := hbytes; simp only [Nat.zero_add] at hb; omega)
    have hgr := grown 0 (by omega) (Value.ownBlock (.slice none 0 0))
    simp only [Nat.zero_add, List.nil_append, Array.empty_append] at hgr ⊢
    exact ⟨_, _, hr, hgr.1, hgr.2.2, hgr.2.1, .inr ⟨_, _, _, Nat.le_refl _, rfl⟩⟩
  · subst hv
    by_cases hroom : n + 1 ≤ cap
    · have hfit : n * i.size + [x].length ≤ cur.size := by rw [hcs, hsize, List.length_singleton]; omega
      have hr := run_append_room (P := P) w t ty e i ht hi g n cap cur hg a 1 c [x] (by rw [hsize]; rfl) hnews h1' hroom hfit
      have hset := setRow_heap w g cur (cur.toList.take (n * i.size) ++ [x] ++ cur.toList.drop (n * i.size + [x].length)).toArray e (0, 0) hg
      have hsz : (cur.toList.take (n * i.size) ++ [x] ++ cur.toList.drop (n * i.size + [x].length)).toArray.size = cap * 1 := by
        rw [hsize]
        simp only [List.size_toArray, List.length_append, List.length_take, List.length_drop, Array.length_toList, List.length_singleton]
        omega
      have htk : (cur.toList.take (n * i.size) ++ [x] ++ cur.toList.drop (n * i.size + [x].length)).toArray.toList.take ((n + 1) * 1) = xs ++ [x] := by
        rw [hsize, htake, ← hlen]
        exact List.take_left
      refine ⟨_, _, hr, ⟨hlen, .inr ⟨g, cap, _, rfl, hbg, hset, hroom, hcm, hsz, htk⟩⟩, ⟨hown.1, .inr ⟨g, cap, _, rfl, hbg, hset, hnc, hcm, hsz, ?_⟩⟩, ⟨rfl, rfl, rfl, by simp, fun k _ hk => setRow_other w g k _ (fun e => hk (by simp [Value.ownBlock, e]))⟩, .inl ⟨g, n, cap, rfl, rfl⟩⟩
      have := congrArg (List.take (n * 1)) htk
      rw [List.take_take, show min (n * 1) ((n + 1) * 1) = n * 1 by omega] at this
      rw [this, ← hown.1]
      exact List.take_left
    · have holds : ∀ j u, xs[j]? = some u → w.cell? ((⟨g, 0, none⟩ : Addr).add j) = some u := hown.cells (g := g) rfl
      have hr := run_append_grow (P := P) w t ty e i z ht hi hz ⟨g, 0, none⟩ n cap xs (by rw [hsize]; exact hown.1) holds a 1 c [x] (by rw [hsize]; rfl) hnews (by omega) (by omega) (growslice_fits (by omega) hbytes)
      have hgr := grown cap (by omega) (Value.ownBlock (.slice (some ⟨g, 0, none⟩) n cap))
      exact ⟨_, _, hr, hgr.1, hgr.2.2, hgr.2.1, .inr ⟨_, _, _, Nat.le_refl _, rfl⟩⟩

theorem wp_app_keep {o : Oper} {a : Act} {K : Act → World → Prop} {Q : Exit → Act → World → Prop} (w : World) (s x : Operand)
    (ho : o.op = .call { callee := .builtin .append, args := #[s, x], argTypes := #[27, 27] }) (base : Nat) (v : Value) (l : List Int) (n : Int) (A : Nat)
    (hown : w.ownsRow base 3 1 v l.length (l.map (Value.int .i64))) (hc : w.cell? ⟨A, 0, none⟩ = some (.int .i64 n)) (hs : a.eval s = v) (hx : a.eval x = .slice (some ⟨A, 0, none⟩) 1 1) (hlen : l.length ≤ 1000) (hb : base ≤ w.heap.size)
    (h : ∀ v' w', w'.ownsRow base 3 1 v' (l ++ [n]).length ((l ++ [n]).map (Value.int .i64)) → w'.ownsRow base 3 1 v l.length (l.map (Value.int .i64)) → w.grownBy w' v.ownBlock → Ext w.heap.size v v' → K (a.put o.dst v') w') : o.wp Try.prog a w K Q := by
  obtain ⟨i0, hi, hz0, hz1, hz2⟩ := info_parts info_int
  obtain ⟨v', w', hr, h2, h3, h4, h5⟩ := run_append_keep (P := Try.prog) base 27 o.type 3 i0 (.int .i64 0) Try.underlying27 hi hz0 hz1 (by omega) rfl v l.length _ hown ⟨A, 0, none⟩ 1 (.int .i64 n) hc rfl hlen hb
  unfold Oper.wp execOp
  simp only [ho, resolve, invoke, builtin, Sem.run_bind, Sem.run_pure, Result.andThen_ok, List.map_toArray, List.map_cons, List.map_nil, hs, hx, hr]
  exact h v' w' (by simpa using h2) h3 h4 h5
theorem app_keep {ops : Array Oper} {rest : List Oper} {o : Oper} {a : Act} {Q : Exit → Act → World → Prop} (w : World) (hgd : o.guard = none) (s x : Operand)
    (ho : o.op = .call { callee := .builtin .append, args := #[s, x], argTypes := #[27, 27] }) (base : Nat) (v : Value) (l : List Int) (n : Int) (A : Nat)
    (hown : w.ownsRow base 3 1 v l.length (l.map (Value.int .i64))) (hc : w.cell? ⟨A, 0, none⟩ = some (.int .i64 n)) (hs : a.eval s = v) (hx : a.eval x = .slice (some ⟨A, 0, none⟩) 1 1) (hlen : l.length ≤ 1000) (hb : base ≤ w.heap.size)
    (h : ∀ v' w', w'.ownsRow base 3 1 v' (l ++ [n]).length ((l ++ [n]).map (Value.int .i64)) → w'.ownsRow base 3 1 v l.length (l.map (Value.int .i64)) → w.grownBy w' v.ownBlock → Ext w.heap.size v v' → wpList Try.prog ops Q rest (a.put o.dst v') w') :
    wpList Try.prog ops Q (o :: rest) a w :=
  wpList_plain hgd fun _ hK => wp_app_keep w s x ho base v l n A hown hc hs hx hlen hb fun v' w' h1 h2 h3 h4 => hK _ _ (h v' w' h1 h2 h3 h4)
theorem step_app_keep {ops : Array Oper} {o : Oper} {a : Act} {K : Act → World → Prop} {Q : Exit → Act → World → Prop} {E : Prop} (w : World) (hgd : o.guard = none) (s x : Operand)
    (ho : o.op = .call { callee := .builtin .append, args := #[s, x], argTypes := #[27, 27] }) (base : Nat) (v : Value) (l : List Int) (n : Int) (A : Nat)
    (hown : w.ownsRow base 3 1 v l.length (l.map (Value.int .i64))) (hc : w.cell? ⟨A, 0, none⟩ = some (.int .i64 n)) (hs : a.eval s = v) (hx : a.eval x = .slice (some ⟨A, 0, none⟩) 1 1) (hlen : l.length ≤ 1000) (hb : base ≤ w.heap.size)
    (h : ∀ v' w', w'.ownsRow base 3 1 v' (l ++ [n]).length ((l ++ [n]).map (Value.int .i64)) → w'.ownsRow base 3 1 v l.length (l.map (Value.int .i64)) → w.grownBy w' v.ownBlock → Ext w.heap.size v v' → K (a.put o.dst v') w') :
    if Region.wanted o (yielded ops a.tmps) = true then Oper.wp Try.prog o a w K Q else E := by
  have hw : Region.wanted o (yielded ops a.tmps) = true := by simp [Region.wanted, hgd]
  rw [if_pos hw]
  exact wp_app_keep w s x ho base v l n A hown hc hs hx hlen hb h

/-- outside the blocks [lo, hi) and the block 'row' nothing has changed -/
structure Fr (lo hi : Nat) (row : Option Nat) (w w' : World) : Prop where
  os : w'.os = w.os
  tape : w'.tape = w.tape
  output : w'.output = w.output
  size : w.heap.size ≤ w'.heap.size
  block : ∀ k, k < w.heap.size → ¬ (lo ≤ k ∧ k < hi) → some k ≠ row → w'.heap[k]? = w.heap[k]?
theorem Fr.refl (lo hi : Nat) (row : Option Nat) (w : World) : Fr lo hi row w w := ⟨rfl, rfl, rfl, Nat.le_refl _, fun _ _ _ _ => rfl⟩
theorem Fr.trans {lo hi : Nat} {row : Option Nat} {a b c : World} (h : Fr lo hi row a b) (k : Fr lo hi row b c) : Fr lo hi row a c :=
  ⟨k.os.trans h.os, k.tape.trans h.tape, k.output.trans h.output, Nat.le_trans h.size k.size, fun i hi hn hr => (k.block i (Nat.lt_of_lt_of_le hi h.size) hn hr).trans (h.block i hi hn hr)⟩
theorem Fr.of_below {lo hi : Nat} {row : Option Nat} {a b : World} (h : Below a.heap.size a b) : Fr lo hi row a b := ⟨h.os, h.tape, h.output, h.size, fun k hk _ _ => h.block k hk⟩
theorem Fr.of_touch {lo hi : Nat} {row : Option Nat} {a b : World} (h : Touch lo hi a b) : Fr lo hi row a b := ⟨h.os, h.tape, h.output, h.size, fun k hk hn _ => h.block k hk hn⟩
theorem Fr.of_grown {lo hi : Nat} {row : Option Nat} {a b : World} (h : a.grownBy b row) : Fr lo hi row a b := ⟨h.os, h.tape, h.output, h.size, fun k hk _ hr => h.block k hk hr⟩
/-- a frame whose own block is new, or the same -/
theorem Fr.into {lo hi : Nat} {row row' : Option Nat} {a b c : World} (h : Fr lo hi row a b) (k : Fr lo hi row' b c) (hr : row' = row ∨ ∃ g, row' = some g ∧ a.heap.size ≤ g) : Fr lo hi row a c := by
  refine ⟨k.os.trans h.os, k.tape.trans h.tape, k.output.trans h.output, Nat.le_trans h.size k.size, fun i hi hn hrr => (k.block i (Nat.lt_of_lt_of_le hi h.size) hn ?_).trans (h.block i hi hn hrr)⟩
  rcases hr with rfl | ⟨g, rfl, hg⟩
  · exact hrr
  · intro e; simp at e; omega
/-- what lies below lo, or in the new blocks [hi, B) without the row -/
theorem Fr.low {lo hi : Nat} {row : Option Nat} {a b : World} (h : Fr lo hi row a b) (hr : ∀ g, row = some g → lo ≤ g) (hl : lo ≤ a.heap.size) : Below lo a b :=
  ⟨h.os, h.tape, h.output, h.size, fun k hk => h.block k (by omega) (by omega) (fun e => by have := hr k e.symm; omega)⟩
theorem Ext.row {N : Nat} {v v' : Value} (h : Ext N v v') : v'.ownBlock = v.ownBlock ∨ ∃ g, v'.ownBlock = some g ∧ N ≤ g := by
  rcases h with ⟨g, n, cap, rfl, rfl⟩ | ⟨g, n, cap, hg, rfl⟩
  · exact .inl rfl
  · exact .inr ⟨g, rfl, hg⟩
/-- after a call that writes behind the longer slice's end the shorter one is as it was -/
theorem Ext.kept {N base lo hi n : Nat} {e : TypeId} {v v' : Value} {w w' : World} {xs ys : List Value} (h : Ext N v v') (hv : w.ownsRow base e 1 v n xs) (hv2 : w'.ownsRow base e 1 v' (n + 1) (xs ++ ys)) (hf : Fr lo hi v'.ownBlock w w') (hb : hi ≤ base) (hN : ∀ g, v.ownBlock = some g → g < N) :
    w'.ownsRow base e 1 v n xs := by
  rcases h with ⟨g, m, cap, rfl, rfl⟩ | ⟨g, m, cap, hg, rfl⟩
  · rcases hv.2 with ⟨h1, _⟩ | ⟨g1, cap1, cur1, h1, a1, a2, a3, a4, a5, a6⟩
    · cases h1
    · rcases hv2.2 with ⟨h2, _⟩ | ⟨g2, cap2, cur2, h2, b1, b2, b3, b4, b5, b6⟩
      · cases h2
      · simp at h1 h2
        obtain ⟨rfl, rfl, rfl⟩ := h1
        obtain ⟨rfl, _, rfl⟩ := h2
        refine ⟨hv.1, .inr ⟨g, cap, cur2, rfl, b1, b2, a3, b4, b5, ?_⟩⟩
        have := congrArg (List.take (m * 1)) b6
        rw [List.take_take, show min (m * 1) ((m + 1) * 1) = m * 1 by omega] at this
        rw [this, ← hv.1]
        exact List.take_left
  · rcases id hv.2 with ⟨h1, h2⟩ | ⟨g1, cap1, cur1, rfl, a1, a2, a3, a4, a5, a6⟩
    · exact ⟨hv.1, .inl ⟨h1, h2⟩⟩
    · refine ⟨hv.1, .inr ⟨g1, cap1, cur1, rfl, a1, ?_, a3, a4, a5, a6⟩⟩
      have hlt := hN g1 rfl
      rw [hf.block g1 (Array.getElem?_eq_some_iff.1 a2).1 (by omega) (by simp [Value.ownBlock]; omega), a2]
theorem ownsRow_fr {base lo hi n size : Nat} {e : TypeId} {row : Option Nat} {v : Value} {w w' : World} {xs : List Value} (h : w.ownsRow base e size v n xs) (hf : Fr lo hi row w w') (hb : hi ≤ base) (hr : v.ownBlock = none ∨ v.ownBlock ≠ row) : w'.ownsRow base e size v n xs := by
  rcases id h.2 with ⟨h1, h2⟩ | ⟨g1, cap1, cur1, rfl, a1, a2, a3, a4, a5, a6⟩
  · exact ⟨h.1, .inl ⟨h1, h2⟩⟩
  · refine ⟨h.1, .inr ⟨g1, cap1, cur1, rfl, a1, ?_, a3, a4, a5, a6⟩⟩
    rw [hf.block g1 (Array.getElem?_eq_some_iff.1 a2).1 (by omega) (by simpa [Value.ownBlock] using hr), a2]
end Go.Proofs.Ytbpcjdhbbighgaa
