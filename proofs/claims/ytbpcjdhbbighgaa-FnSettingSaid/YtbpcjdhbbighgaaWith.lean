/-
  Contracts of the board's with and of signOf. Conditions: the label is valid, the board's cells are those of a map.
-/
import Derived.Test.YtbpcjdhbbighgaaPlan2
import Derived.Laws.ResultCell
import Derived.Deep.MidRow
namespace Go.Proofs.Ytbpcjdhbbighgaa
open Go.RowKit Go.Deep

/-- the sign of a cell -/
def encI (m : Int) : Int := if m < 0 then 42 else if m = 0 then 46 else 47 + m
theorem encI_free (m : Int) : encI m = 46 ↔ m = 0 := by unfold encI; split <;> (try split) <;> omega
theorem encI_set {m : Int} (h : 1 ≤ m) : encI m = 47 + m := by unfold encI; rw [if_neg (by omega), if_neg (by omega)]
/-- the signs of the map M, as cells -/
def bdL (M : Plan) : List Value := (List.range 100).map fun i => .int .u8 (encI (M i))
theorem bdL_length (M : Plan) : (bdL M).length = 100 := by simp [bdL]
theorem bdL_get (M : Plan) (i : Nat) (h : i < 100) : (bdL M)[i]? = some (.int .u8 (encI (M i))) := by simp [bdL, h]
theorem bdL_one (M : Plan) : ∀ v ∈ bdL M, v.oneCell' = true := by
  intro v hv
  obtain ⟨i, _, rfl⟩ := List.mem_map.1 hv
  rfl
theorem bdL_arr (M : Plan) : (bdL M).toArray.size = 100 := by simp [bdL_length]
theorem board_info (M : Plan) : (Try.prog.info? 60).map (·.size) = some (bdL M).length := by rw [bdL_length]; exact size_board
theorem arr_bdL {c : Array Value} {M : Plan} (h1 : c.size = 100) (h2 : ∀ i, i < 100 → c[i]? = some (.int .u8 (encI (M i)))) : c = (bdL M).toArray := by
  apply Array.ext
  · rw [h1, bdL_arr]
  · intro i hi hi2
    have := h2 i (by omega)
    rw [Array.getElem?_eq_getElem hi] at this
    have e := bdL_get M i (by omega)
    rw [List.getElem?_eq_getElem (by rw [bdL_length]; omega)] at e
    simp only [List.getElem_toArray]
    exact Option.some.inj (this.trans e.symm)
theorem results_row_tmp {P : Program} {fn : Func} {p u : Tmp} {ty : TypeId} (h : fn.results = #[.cell p ty, .tmp u]) (tmps : Array Value) (w : World) (g : Nat) (t : TypeId) (cs : Array Value) (fr : Nat × Nat) (d : TypeDesc)
    (hp : tmps.getD p undef = .pointer (some ⟨g, 0, none⟩)) (hg : w.heap[g]? = some (.cells cs t fr))
    (hu : P.underlying ty = some d) (hd : (match d with | .struct _ | .array _ _ => true | _ => false) = true) (hi : (P.info? ty).map (·.size) = some cs.size) :
    (results fn tmps).run P w = .ok (.tuple #[.agg cs, tmps.getD u undef]) w := by
  rw [results_cell_tmp h, hp]
  simp [asAddr, Result.andThen, run_loadVar_row w g t ty cs fr d hg hu hd hi]
theorem row_bdL (w : World) (M : Plan) : (w.alloc (.cells (bdL M).toArray 60)).rowIs w.heap.size 60 100 fun i => .int .u8 (encI (M i)) :=
  ⟨_, heap_alloc_new w _, bdL_arr M, fun i hi => by simp [bdL_get M i hi]⟩
theorem take_one {l : List Int} {k : Nat} (h : k < l.length) : l.take (k + 1) = l.take k ++ [l[k]?.getD 0] := by
  rw [List.take_add_one, List.getElem?_eq_getElem h]; rfl
theorem places_nodup (q : Quad) (side : Int) : (placesOf q side).Nodup := by
  unfold placesOf; split
  · exact rowOf_nodup ..
  · exact List.nodup_nil
theorem take_fresh {l : List Int} (h : l.Nodup) {k : Nat} (hk : k < l.length) : ¬ l[k]?.getD 0 ∈ l.take k := by
  intro hm
  rw [List.mem_iff_getElem] at hm
  obtain ⟨i, hi, he⟩ := hm
  simp at hi
  rw [List.getElem_take, List.getElem?_eq_getElem hk] at he
  have : i = k := (List.getElem_inj h).1 he
  omega

set_option maxHeartbeats 1000000 in
theorem signOf_any (k : Nat) (w : World) (hk : k ≤ 5) :
    Calls Try.prog 65 #[.int .i64 (k : Int)] w fun e w' => e = .returned (.int .u8 (47 + ((k : Int) + 1))) ∧ w = w' := by
  rcases (show k = 0 ∨ k = 1 ∨ k = 2 ∨ k = 3 ∨ k = 4 ∨ k = 5 by omega) with rfl | rfl | rfl | rfl | rfl | rfl
  all_goals
    go_enter Try.func65, Try.ntmps65
    go_wp2
    go_ret
    exact ⟨rfl, rfl⟩

set_option maxHeartbeats 2000000 in
set_option maxRecDepth 100000 in
theorem with_any (M : Plan) (q : Quad) (side m sg : Int) (w : World) (hq : LabOk q) (hm : 1 ≤ m) (hsg : sg = 47 + m) :
    Calls Try.prog 64 #[.agg (bdL M).toArray, qv q, .int .i64 side, .int .u8 sg] w fun e w' => ∃ M', e = .returned (.tuple #[.agg (bdL M').toArray, .bool (decide (CanSet M q side))]) ∧ (CanSet M q side → M' = setOn M q side m) ∧ Below w.heap.size w w' := by
  have R0 := Lib.hid (row_bdL w M)
  have HQ := Lib.hid hq
  have SG := Lib.hid hsg
  have EQ1 := Lib.hid (bdL_arr M)
  obtain ⟨C, hC⟩ : ∃ C, C = (bdL M).toArray := ⟨_, rfl⟩
  rw [← hC] at R0 EQ1 ⊢
  have HC := Lib.hid hC
  clear hq hsg hC
  go_enter Try.func64, Try.ntmps64
  go_wp2_with fail
  refine (lying_any q side _ HQ.out).mono ?_
  rintro e w1 ⟨v, rfl, hO, hb1⟩
  obtain ⟨f2, hf2⟩ := row_zero ((w.alloc (.cells C 60)).alloc (.cells #[.int .i64 q.1, .int .i64 q.2.1, .int .i64 q.2.2.1, .int .i64 q.2.2.2] 24))
  have R2 : Hid (∃ f, w1.rowIs (w.heap.size + 2) 60 100 f) := ⟨f2, by have := hf2.of_block (w' := w1) (hb1.block _ (by simp)); simpa using this⟩
  have R1 : Hid (w1.rowIs w.heap.size 60 100 fun i => .int .u8 (encI (M i))) := ((R0.out.alloc _).alloc _).of_block (hb1.block _ (by simp; omega))
  have s1 := hb1.size
  simp at s1
  have B := Lib.hid ((al (al (al (Below.refl w.heap.size w) _) _) _).trans (hb1.mono (by simp; omega)))
  have O := Lib.hid (hO.mono (lo' := w.heap.size + 3) (hi' := w1.heap.size) (by simp) (Nat.le_refl _))
  clear hb1 hO hf2 f2 R0
  rcases Decidable.em (¬ Fits q side) with hf | hf
  · have FC := Lib.hid (show ¬ CanSet M q side from fun h => hf h.1)
    rw [decide_eq_false hf]
    obtain ⟨c1, k1, k2, k3⟩ := R1.out
    obtain ⟨g2, c2, l1, l2, l3⟩ := R2.out
    have K1 := Lib.hid k1
    have K2 := Lib.hid l1
    have E1 := Lib.hid (show c1 = (bdL M).toArray from arr_bdL k2 k3)
    have ho := (Array.all_eq_true_iff_forall_mem.2 (show ∀ x ∈ (bdL M).toArray, x.oneCell' = true from fun x hx => bdL_one M x (by simpa using hx)))
    rw [← E1.out] at ho
    have OC := Lib.hid ho
    clear k1 k3 l1 l3 hf ho R1 R2
    go_wp2_with (first | (refine wpList_load_row rfl 60 _ rfl w.heap.size rfl _ c1 (0, 0) _ K1.out Try.underlying60 rfl (size_board.trans (by rw [k2])) ?_) | (refine wpList_store_row rfl 60 _ _ rfl (w.heap.size + 2) c1 rfl rfl _ _ K2.out (size_board.trans (by rw [k2])) (by omega) OC.out ?_))
    refine bodyPost_ret (v := .tuple #[.agg c1, .bool false]) ?_ rfl ⟨M, ?_, fun h => absurd h FC.out, below_setRow B.out (by omega) _⟩
    · exact results_row_tmp (p := 8) (u := 9) (ty := 60) rfl _ _ (w.heap.size + 2) 60 c1 (0, 0) _ rfl (setRow_heap _ _ _ _ _ _ K2.out) Try.underlying60 rfl (size_board.trans (by rw [k2]))
    · rw [E1.out, decide_eq_false FC.out]
  have hf := Decidable.of_not_not hf
  rw [decide_eq_true hf]
  have HF := Lib.hid hf
  obtain ⟨cs, hcs⟩ : ∃ cs, cs = placesOf q side := ⟨_, rfl⟩
  rw [← hcs] at O
  have HND : Hid cs.Nodup := by show cs.Nodup; rw [hcs]; exact places_nodup q side
  have HIN : Hid (∀ c ∈ cs, 0 ≤ c ∧ c ≤ 99) := by show ∀ c ∈ cs, _; rw [hcs]; exact fun c hc => ⟨(places_in hc).1, (places_in hc).2.1⟩
  have CS := Lib.hid hcs
  have hn5 : cs.length ≤ 5 := by rw [hcs, places_yes hf, rowOf_length]; have := HQ.out; unfold LabOk at this; omega
  have hfit := HF
  obtain ⟨a, cap, rfl, o1, o2, o3⟩ := O.out.ints
  clear o3 hf hcs hfit
  go_wp2_with fail
  go_loopw [13, 25] (fun _ i wr => ∃ k : Nat, k ≤ cs.length ∧ i = .int .i64 k ∧ FreeOn (cs.take k) M ∧ (wr.rowIs w.heap.size 60 100 fun j => .int .u8 (encI (putOn (cs.take k) m M j))) ∧ (∃ f, wr.rowIs (w.heap.size + 2) 60 100 f) ∧ Own (w.heap.size + 3) w1.heap.size wr (.slice a cs.length cap) cs ∧ Below w.heap.size w wr) (fun _ i _ => cs.length - (intOf i).toNat)
  case atStart => exact ⟨0, Nat.zero_le _, rfl, by simp [FreeOn], R1.out.congr (fun j _ => by rw [List.take_zero, putOn_nil]), R2.out, O.out, B.out⟩
  case round =>
    clear R1 R2 B O
    obtain ⟨k, hk, rfl, hfree, hrow, hrow2, hown, hbel⟩ := hrel
    have HFR := Lib.hid hfree
    have HR := Lib.hid hrow
    have HR2 := Lib.hid hrow2
    have HO := Lib.hid hown
    have HB := Lib.hid hbel
    by_cases hlt : k < cs.length
    · obtain ⟨_, _, he, _, _, h3⟩ := hown.ints
      simp only [Value.slice.injEq] at he
      obtain ⟨rfl, _, rfl⟩ := he
      obtain ⟨b, off, rfl, hb, hcell⟩ := h3 (by omega)
      have c0 := hcell k hlt
      obtain ⟨p, hp⟩ : ∃ p : Nat, cs[k]?.getD 0 = (p : Int) := ⟨(cs[k]?.getD 0).toNat, by have := HIN.out (cs[k]?.getD 0) (by rw [List.getElem?_eq_getElem hlt]; exact List.getElem_mem hlt); omega⟩
      have hp99 : p < 100 := by have := HIN.out (cs[k]?.getD 0) (by rw [List.getElem?_eq_getElem hlt]; exact List.getElem_mem hlt); omega
      have hnew : ¬ (p : Int) ∈ cs.take k := by rw [← hp]; exact take_fresh HND.out hlt
      have d := hrow.cell hp99
      have fr := hrow.frozen p
      rw [putOn_out hnew] at d
      rw [hp] at c0
      have HP := Lib.hid hp
      have HN := Lib.hid hnew
      have HT : Hid (cs.take (k + 1) = cs.take k ++ [(p : Int)]) := by show _ = _; rw [take_one hlt, hp]
      obtain ⟨z, hz⟩ : ∃ z, z = encI (M p) := ⟨_, rfl⟩
      rw [← hz] at d
      have HZ := Lib.hid hz
      have p0 : (0 : Int) ≤ (p : Int) := by omega
      have p1 : (p : Int) < 100 := by omega
      clear hfree hrow hrow2 hown hbel hcell h3 hp hnew hz
      by_cases h0 : M p = 0
      · have hz46 : z = 46 := by rw [HZ.out, h0]; rfl
        have t1 : (z != (46 : Int)) = false := by rw [hz46]; rfl
        have H0 := Lib.hid h0
        clear h0 hz46
        go_wp2
        go_roundw
        case rel =>
          refine ⟨k + 1, by omega, by go_num, ?_, (HR.out.set p _).congr (fun j hj => ?_), ?_, ?_, HB.out.setCell (by simp) _⟩
          · rw [HT.out]
            intro c hc
            rcases List.mem_append.1 hc with h | h
            · exact HFR.out c h
            · simp at h; subst h; simpa using H0.out
          · rw [HT.out, putOn_snoc]
            by_cases e : j = p
            · subst e; simp [SG.out, encI_set hm]
            · simp [e]
          · obtain ⟨f, hf⟩ := HR2.out; exact ⟨f, hf.setOther (by simp) _⟩
          · exact HO.out.touch ((Touch.refl w.heap.size (w.heap.size + 1) _).setCell (Nat.le_refl _) (by simp) _) (.inr (by omega))
        case measure => simp [intOf]; omega
      · have t1 : (z != (46 : Int)) = true := by simp only [bne_iff_ne, ne_eq]; rw [HZ.out, encI_free]; exact h0
        have FC : Hid (¬ CanSet M q side) := fun h => h0 (by
          have := h.2 (p : Int) (by rw [← CS.out, ← HP.out, List.getElem?_eq_getElem hlt]; exact List.getElem_mem hlt)
          simpa using this)
        obtain ⟨c1, k1, k2, k3⟩ := HR.out
        obtain ⟨g2, c2, l1, l2, l3⟩ := HR2.out
        have K1 := Lib.hid k1
        have K2 := Lib.hid l1
        have E1 := Lib.hid (show c1 = (bdL (putOn (cs.take k) m M)).toArray from arr_bdL k2 k3)
        have ho := (Array.all_eq_true_iff_forall_mem.2 (show ∀ x ∈ (bdL (putOn (cs.take k) m M)).toArray, x.oneCell' = true from fun x hx => bdL_one _ x (by simpa using hx)))
        rw [← E1.out] at ho
        have OC := Lib.hid ho
        clear k1 k3 l1 l3 ho HR HR2 h0
        go_wp2_with (first | (refine wpList_load_row rfl 60 _ rfl w.heap.size rfl _ c1 (0, 0) _ K1.out Try.underlying60 rfl (size_board.trans (by rw [k2])) ?_) | (refine wpList_store_row rfl 60 _ _ rfl (w.heap.size + 2) c1 rfl rfl _ _ K2.out (size_board.trans (by rw [k2])) (by omega) OC.out ?_))
        refine bodyPost_ret (v := .tuple #[.agg c1, .bool false]) ?_ rfl ⟨putOn (cs.take k) m M, ?_, fun h => absurd h FC.out, below_setRow HB.out (by omega) _⟩
        · exact results_row_tmp (p := 8) (u := 9) (ty := 60) rfl _ _ (w.heap.size + 2) 60 c1 (0, 0) _ rfl (setRow_heap _ _ _ _ _ _ K2.out) Try.underlying60 rfl (size_board.trans (by rw [k2]))
        · rw [E1.out, decide_eq_false FC.out]
    · obtain rfl : k = cs.length := by omega
      have FC : Hid (CanSet M q side) := ⟨HF.out, by rw [← CS.out]; have := HFR.out; rwa [List.take_length] at this⟩
      obtain ⟨c1, k1, k2, k3⟩ := HR.out
      obtain ⟨g2, c2, l1, l2, l3⟩ := HR2.out
      have K1 := Lib.hid k1
      have K2 := Lib.hid l1
      have E1 := Lib.hid (show c1 = (bdL (putOn (cs.take cs.length) m M)).toArray from arr_bdL k2 k3)
      have ho := (Array.all_eq_true_iff_forall_mem.2 (show ∀ x ∈ (bdL (putOn (cs.take cs.length) m M)).toArray, x.oneCell' = true from fun x hx => bdL_one _ x (by simpa using hx)))
      rw [← E1.out] at ho
      have OC := Lib.hid ho
      clear k1 k3 l1 l3 ho HR HR2 hfree hrow hrow2 hown hbel
      go_wp2_with (first | (refine wpList_load_row rfl 60 _ rfl w.heap.size rfl _ c1 (0, 0) _ K1.out Try.underlying60 rfl (size_board.trans (by rw [k2])) ?_) | (refine wpList_store_row rfl 60 _ _ rfl (w.heap.size + 2) c1 rfl rfl _ _ K2.out (size_board.trans (by rw [k2])) (by omega) OC.out ?_))
      refine bodyPost_ret (v := .tuple #[.agg c1, .bool true]) ?_ rfl ⟨putOn (cs.take cs.length) m M, ?_, fun _ => ?_, below_setRow HB.out (by omega) _⟩
      · exact results_row_tmp (p := 8) (u := 9) (ty := 60) rfl _ _ (w.heap.size + 2) 60 c1 (0, 0) _ rfl (setRow_heap _ _ _ _ _ _ K2.out) Try.underlying60 rfl (size_board.trans (by rw [k2]))
      · rw [E1.out, decide_eq_true FC.out]
      · rw [List.take_length, CS.out]; rfl
end Go.Proofs.Ytbpcjdhbbighgaa
