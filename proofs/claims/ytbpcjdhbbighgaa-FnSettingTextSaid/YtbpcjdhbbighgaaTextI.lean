/-
  Contract of impl.SettingText. No condition but that the slices read as the lists.
-/
import Derived.Test.YtbpcjdhbbighgaaBuilder
import Derived.Test.YtbpcjdhbbighgaaBoardOf
import Derived.Test.YtbpcjdhbbighgaaPlan2
namespace Go.Proofs.Ytbpcjdhbbighgaa
open Go.RowKit Go.Deep
set_option linter.unusedVariables false
set_option linter.unusedSimpArgs false

theorem enc_chr {m : Int} (h1 : -1 ≤ m) (h2 : m ≤ 6) : Value.int .u8 (encI m) = Value.int .u8 ((UInt8.ofNat (chrOf m)).toNat : Int) := by
  have hc := (chrOf_range h1 h2).1
  have e : (UInt8.ofNat (chrOf m)).toNat = chrOf m := UInt8.toNat_ofNat_of_lt (by show chrOf m < 256; omega)
  rw [e]
  congr 1
  unfold encI chrOf
  repeat' split
  all_goals omega
theorem bytes_app (a b : List UInt8) : Lib.byteCells (a ++ b) = Lib.byteCells a ++ Lib.byteCells b := by simp [Lib.byteCells]
/-- a row of the text -/
theorem row_text {M : Plan} (hM : ∀ i, -1 ≤ M i ∧ M i ≤ 6) (k : Nat) : ∀ j, j ≤ 9 → Lib.byteCells (textUp M (10 * k + j)) = Lib.byteCells (textUp M (10 * k)) ++ (List.range j).map fun i => Value.int .u8 (encI (M (10 * k + i))) := by
  intro j
  induction j with
  | zero => intro _; simp
  | succ j ih =>
    intro hj
    rw [← Nat.add_assoc, textUp, if_neg (by omega), bytes_app, ih (by omega), List.range_succ, List.map_append, List.append_assoc]
    congr 2
    simp only [Lib.byteCells, List.map_cons, List.map_nil]
    rw [← enc_chr (hM _).1 (hM _).2]
theorem line_text {M : Plan} (hM : ∀ i, -1 ≤ M i ∧ M i ≤ 6) (k : Nat) : Lib.byteCells (textUp M (10 * (k + 1))) = (Lib.byteCells (textUp M (10 * k)) ++ (List.range 10).map fun i => Value.int .u8 (encI (M (10 * k + i)))) ++ [Value.int .u8 10] := by
  rw [show 10 * (k + 1) = 10 * k + 9 + 1 by omega, textUp, if_pos (by omega), bytes_app, row_text hM k 9 (by omega), show (10 : Nat) = 9 + 1 from rfl, List.range_succ, List.map_append]
  simp only [Lib.byteCells, List.map_cons, List.map_nil, List.append_assoc, List.cons_append, List.nil_append]
  rw [← enc_chr (hM _).1 (hM _).2]
  rfl

theorem slice_board (w : World) (F n0 : Nat) (h : n0 + 10 ≤ 100) : (Instr.sliceAt 60 (.pointer (some ⟨F, 0, none⟩)) (some (.int .i64 (n0 : Int))) (some (.int .i64 ((n0 : Int) + 10))) none).run Try.prog w = .ok (.slice (some ⟨F, n0, none⟩) 10 (100 - n0)) w := by
  have ha : Try.prog.arrayLen 60 = 100 := by kernel_rfl
  have he : Try.prog.elem 60 = 5 := by kernel_rfl
  rw [run_sliceAt_array_lh (P := Try.prog) w 60 ⟨F, 0, none⟩ (by rw [ha, he]; exact Try.underlying60) .i64 .i64 _ _ (by omega) (by omega) (by rw [ha]; omega), he, Try.sizeOf5 w, ha]
  simp only [Result.andThen, slicedAt]
  rw [if_neg (by omega), show ((n0 : Int) + 10).toNat - (n0 : Int).toNat = 10 by omega, Int.toNat_natCast, Nat.mul_one]
  simp [Addr.add]
  omega
theorem news_cells {w : World} {F : Nat} {t : TypeId} {M : Plan} (h : w.rowIs F t 100 fun j => .int .u8 (encI (M j))) (n0 : Nat) (hn : n0 + 10 ≤ 100) : ∀ j u, ((List.range 10).map fun i => Value.int .u8 (encI (M (n0 + i))))[j]? = some u → w.cell? ((⟨F, n0, none⟩ : Addr).add j) = some u := by
  intro j u hj
  have hl : j < 10 := by simpa using (List.getElem?_eq_some_iff.1 hj).1
  have e : (⟨F, n0, none⟩ : Addr).add j = ⟨F, n0 + j, none⟩ := by simp [Addr.add]
  rw [e, h.cell (by omega)]
  rw [List.getElem?_map, List.getElem?_range hl] at hj
  simpa using hj
theorem news_one (M : Plan) (n0 : Nat) : ∀ u ∈ ((List.range 10).map fun i => Value.int .u8 (encI (M (n0 + i)))), u.oneCell' = true := by
  intro u hu
  obtain ⟨i, _, rfl⟩ := List.mem_map.1 hu
  rfl

set_option maxHeartbeats 2000000 in
set_option maxRecDepth 100000 in
theorem SettingText_any (v u : Value) (l : List Quad) (s : List Int) (w : World) (h : Quads w v l) (hu : Ints w u s) :
    Calls Try.prog 33 #[v, u] w fun e w' => e = .returned (.string ⟨(textOf l s).toArray⟩) ∧ Below w.heap.size w w' := by
  obtain ⟨a, cap, rfl, h1, h2, h3⟩ := id h
  obtain ⟨a', cap', rfl, h1', h2', h3'⟩ := id hu
  have CB := Lib.hid (boardOf_any _ _ l s w h hu)
  clear h hu h3 h3'
  go_enter Try.func33, Try.ntmps33
  go_wp2_with fail
  refine CB.out.mono ?_
  rintro e w1 ⟨C, rfl, hC1, hC2, hC3, hb1⟩
  have s1 := hb1.size
  have HB := Lib.hid hb1
  have H3 := Lib.hid hC3
  have O2 := Lib.hid hC2
  obtain ⟨f3, c3, m1, m2, m3⟩ := row_zero w1
  have K3 := Lib.hid m1
  clear CB hb1 hC3 hC2 m1 m3
  by_cases hs : SetOk l s
  · have HS := Lib.hid hs
    have HT : Hid (textOf l s = textUp (planUp l s l.length) 100) := if_pos hs
    have HM := Lib.hid (plan_small hs.1 s)
    have HC := Lib.hid (H3.out hs)
    rw [decide_eq_true hs]
    obtain ⟨M, hM⟩ : ∃ M, M = planUp l s l.length := ⟨_, rfl⟩
    rw [← hM] at HM HT HC
    clear hs hM H3 HS
    go_wp2_with (refine wpList_store_row rfl 60 _ _ rfl w1.heap.size C rfl rfl _ _ K3.out (size_board.trans (by rw [hC1])) (by omega) O2.out ?_)
    have RW : Hid (((w1.alloc (.cells Try.zeroCells60 60)).setRow w1.heap.size C).rowIs w1.heap.size 60 100 fun j => .int .u8 (encI (M j))) := by
      show World.rowIs _ _ _ _ _
      refine ⟨C, setRow_heap _ _ _ _ _ _ K3.out, hC1, fun i hi => ?_⟩
      rw [HC.out]
      simp [bdL_get _ i hi]
    have HB2 := Lib.hid (below_setRow (HB.out.alloc s1 (.cells Try.zeroCells60 60)) s1 C)
    have zW : ((w1.alloc (.cells Try.zeroCells60 60)).setRow w1.heap.size C).heap.size = w1.heap.size + 1 := by simp [World.setRow]
    obtain ⟨F, hF⟩ : ∃ F, F = w1.heap.size := ⟨_, rfl⟩
    obtain ⟨W2, hW2⟩ : ∃ x, x = (w1.alloc (.cells Try.zeroCells60 60)).setRow w1.heap.size C := ⟨_, rfl⟩
    rw [← hW2] at RW HB2 ⊢
    rw [← hW2, ← hF] at zW
    rw [← hF] at RW ⊢
    have sF : F < W2.heap.size := RW.out.lt
    clear hW2 hF K3 HB O2 HC
    go_wp2_with fail
    obtain ⟨bb, hbF⟩ : ∃ x, x = F + 1 := ⟨_, rfl⟩
    have hbb : bb = W2.heap.size := by omega
    have B0 : Hid (BIs bb bb (Lib.byteCells (textUp M (10 * 0))) (W2.alloc (.cells #[.pointer none, .slice none 0 0] 82))) := by
      rw [hbb]
      exact .inl ⟨Nat.le_refl _, .slice none 0 0, heap_alloc_new W2 _, ⟨rfl, .inl ⟨rfl, rfl⟩⟩, by simp [Value.ownBlock]⟩
    have L0 : Hid (Below bb W2 (W2.alloc (.cells #[.pointer none, .slice none 0 0] 82))) := (Below.refl _ _).alloc (by omega) _
    have sF2 : F < bb := by omega
    have HBB := Lib.hid hbb
    rw [← hbF]
    clear hbb hbF zW
    go_loopw [8, 17] (fun _ y wr => ∃ k : Nat, k ≤ 10 ∧ y = .int .i64 k ∧ BIs bb bb (Lib.byteCells (textUp M (10 * k))) wr ∧ Below bb W2 wr) (fun _ y _ => 10 - (intOf y).toNat)
    case atStart => exact ⟨0, by omega, rfl, B0.out, L0.out⟩
    case round =>
      clear B0 L0
      obtain ⟨k, hk, rfl, hbi, hbel⟩ := hrel
      have BI := Lib.hid hbi
      have HBR := Lib.hid hbel
      have zb : bb ≤ wr.heap.size := by have := hbel.size; rw [HBB.out]; exact this
      have RR := Lib.hid (RW.out.of_block (hbel.block F sF2))
      have tl := textUp_length M (10 * k)
      clear hbi hbel
      by_cases hlt : k < 10
      · have hlt' : (k : Int) < 10 := by omega
        obtain ⟨n0, hn0⟩ : ∃ n0, n0 = 10 * k := ⟨_, rfl⟩
        have LT := Lib.hid (line_text HM.out k)
        have e1 : IntKind.i64.wrap ((k : Int) * 10) = (n0 : Int) := by rw [IntWalk.i64_in _ (by omega)]; omega
        have e2 : IntKind.i64.wrap ((k : Int) + 1) = (k : Int) + 1 := IntWalk.i64_in _ (by omega)
        have e3 : IntKind.i64.wrap (((k : Int) + 1) * 10) = ((n0 + 10 : Nat) : Int) := by rw [IntWalk.i64_in _ (by omega)]; omega
        have y1 : (0 : Int) ≤ (n0 : Int) := by omega
        have y2 : (n0 : Int) ≤ ((n0 + 10 : Nat) : Int) := by omega
        have y3 : ((n0 + 10 : Nat) : Int) ≤ 100 := by omega
        rw [← hn0] at BI tl LT
        have hn9 : n0 + 10 ≤ 100 := by omega
        have hsl := slice_board wr F n0 hn9
        have NC := Lib.hid (news_cells RR.out n0 hn9)
        have N1 := Lib.hid (news_one M n0)
        have bl : (Lib.byteCells (textUp M n0)).length = n0 + n0 / 10 := by rw [← tl]; simp [Lib.byteCells]
        have nl : ((List.range 10).map fun i => Value.int .u8 (encI (M (n0 + i)))).length = 10 := by simp
        obtain ⟨NS, hNS⟩ : ∃ x, x = ((List.range 10).map fun i => Value.int .u8 (encI (M (n0 + i)))) := ⟨_, rfl⟩
        rw [← hNS] at NC N1 LT nl
        obtain ⟨BS, hBS⟩ : ∃ x, x = Lib.byteCells (textUp M n0) := ⟨_, rfl⟩
        rw [← hBS] at BI LT bl
        clear hn0 hNS hBS
        go_wp2_with fail
        refine (write_any bb bb BS ⟨F, n0, none⟩ 10 _ NS wr BI.out nl NC.out sF2 N1.out (by omega) zb).mono ?_
        rintro e w4 ⟨rfl, hi4, hb4⟩
        have HI4 := Lib.hid hi4
        have s4 := hb4.size
        have HB4 := Lib.hid (HBR.out.trans hb4)
        clear hi4 hb4
        go_wp2_with fail
        refine (writeByte_any bb bb (BS ++ NS) 10 w4 (.inr HI4.out) (by rw [List.length_append]; omega) (by omega)).mono ?_
        rintro e w5 ⟨rfl, hi5, hb5⟩
        have HI5 : Hid (BIs bb bb (Lib.byteCells (textUp M (10 * (k + 1)))) w5) := by show BIs _ _ _ _; rw [LT.out]; exact .inr hi5
        have HB5 := Lib.hid (HB4.out.trans hb5)
        clear hi5 hb5 hsl
        go_wp2
        go_roundw
        case rel => exact ⟨k + 1, by omega, by go_num, HI5.out, HB5.out⟩
        case measure => simp [intOf]; omega
      · obtain rfl : k = 10 := by omega
        have BI9 : Hid (BIs bb bb (Lib.byteCells (textUp M 100)) wr) := BI.out
        rw [← HT.out] at BI9
        have HF := Lib.hid (HB2.out.trans (HBR.out.mono (by rw [HBB.out]; exact HB2.out.size)))
        have sz := HF.out.size
        obtain ⟨T, hT⟩ : ∃ T, T = textOf l s := ⟨_, rfl⟩
        rw [← hT] at BI9
        have HTT := Lib.hid hT
        clear hT hlt BI RR tl HBR
        go_wp2_with fail
        refine (string_any bb bb T wr BI9.out zb).mono ?_
        rintro e w4 ⟨rfl, hb4⟩
        have HF4 := Lib.hid (HF.out.trans (hb4.mono (by have := HB2.out.size; rw [HBB.out]; exact this)))
        clear hb4
        go_wp2
        go_ret
        exact ⟨by rw [← HTT.out]; rfl, HF4.out⟩
  · have HT : Hid (textOf l s = []) := if_neg hs
    rw [decide_eq_false hs]
    clear hs H3
    go_wp2_with (refine wpList_store_row rfl 60 _ _ rfl w1.heap.size C rfl rfl _ _ K3.out (size_board.trans (by rw [hC1])) (by omega) O2.out ?_)
    have HB2 := Lib.hid (below_setRow (HB.out.alloc s1 (.cells Try.zeroCells60 60)) s1 C)
    obtain ⟨W2, hW2⟩ : ∃ x, x = (w1.alloc (.cells Try.zeroCells60 60)).setRow w1.heap.size C := ⟨_, rfl⟩
    rw [← hW2] at HB2 ⊢
    clear hW2
    go_wp2_with fail
    go_ret
    exact ⟨by rw [HT.out]; rfl, HB2.out⟩
end Go.Proofs.Ytbpcjdhbbighgaa
