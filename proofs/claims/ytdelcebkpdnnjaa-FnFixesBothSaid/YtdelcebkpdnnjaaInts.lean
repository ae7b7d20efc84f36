/-
  Contracts of the laws' small functions on slices of ints: copy, compare, mark, check of the marks. Conditions: lengths up to 2^40.
-/
import Derived.Test.YtdelcebkpdnnjaaMem
import Derived.Deep.QuietTactic
import Derived.BigQuiet
import Derived.WalkSpells
import Derived.Outline
namespace Go.Proofs.Ytdelcebkpdnnjaa
open Go.RowKit Go.Deep

theorem info_int : (Try.prog.info? 3).map (fun i => (i.zero, i.size, i.bytes)) = some (some (.int .i64 0), 1, 8) := by kernel_rfl

theorem own_of_row {lo hi b cap : Nat} {t : TypeId} {w : World} {l : List Int} {f : Nat → Value} (h : w.rowIs b t l.length f) (hf : ∀ j, j < l.length → f j = .int .i64 (l[j]?.getD 0)) (h1 : lo ≤ b) (h2 : b < hi) (hc : l.length ≤ cap) (hcap : cap ≤ 9223372036854775807) :
    Own lo hi w (.slice (some ⟨b, 0, none⟩) l.length cap) l :=
  .inr ⟨b, 0, cap, t, l.length, f, rfl, hc, hcap, h1, h2, h, by omega, fun j hj => by rw [Nat.zero_add]; exact hf j hj⟩

set_option maxHeartbeats 400000 in
theorem toIntS_any (v : Value) (l : List Int) (w : World) (h : Ints w v l) (hn : l.length ≤ 1099511627776) :
    Calls Try.prog 67 #[v] w fun e w' => ∃ v', e = .returned v' ∧ Own w.heap.size w'.heap.size w' v' l ∧ Below w.heap.size w w' := by
  obtain ⟨a, cap, rfl, hc1, hc2, hc3⟩ := h
  have hmk := run_make_row' (P := Try.prog) 27 3 (.int .i64 0) 8 Try.underlying27 info_int rfl .i64 .i64 l.length (by omega) (by omega)
  go_enter Try.func67, Try.ntmps67
  go_wp2
  go_loopw [4] (fun i wr => ∃ k : Nat, k ≤ l.length ∧ i = .int .i64 k ∧ wr.rowIs w.heap.size 3 l.length (fun j => if j < k then .int .i64 (l[j]?.getD 0) else .int .i64 0) ∧ Below w.heap.size w wr) (fun i _ => l.length - (intOf i).toNat)
  case atStart => exact ⟨0, Nat.zero_le _, rfl, (World.rowIs_made w (.int .i64 0) l.length 3).congr (fun i _ => by simp), (Below.refl _ _).alloc (Nat.le_refl _) _⟩
  case round =>
    obtain ⟨k, hk, rfl, hrow, hbel⟩ := hrel
    by_cases hlt : k < l.length
    · obtain ⟨b, off, rfl, hb, hcell⟩ := hc3 (by omega)
      have hc : wr.cell? ⟨b, off + k, none⟩ = some (.int .i64 (l[k]?.getD 0)) := (hbel.cell (p := ⟨b, off + k, none⟩) hb).trans (hcell k hlt)
      have hd := hrow.cell hlt
      have hf := hrow.frozen k
      have HR := Lib.hid (hrow.set k (.int .i64 (l[k]?.getD 0)))
      clear hrow hc3 hcell
      go_wp2
      go_roundw
      case rel =>
        refine ⟨k + 1, by omega, by go_num, ?_, ?_⟩
        · have h := HR.out
          rw [List.getElem?_eq_getElem hlt, Option.getD_some] at h
          refine h.congr fun j hj => ?_
          by_cases e : j = k
          · subst e; simp [List.getElem?_eq_getElem hj]
          · by_cases e2 : j < k
            · rw [if_neg e, if_pos e2, if_pos (by omega)]
            · rw [if_neg e, if_neg e2, if_neg (by omega)]
        · exact hbel.setCell (by simp) _
      case measure => simp [intOf]; omega
    · go_wp2
      go_ret
      obtain rfl : k = l.length := by omega
      exact ⟨_, rfl, own_of_row hrow (fun j hj => by simp only [hj, if_true]) (Nat.le_refl _) hrow.lt (Nat.le_refl _) (by omega), hbel⟩

/-- the ints that a mark beginning with k writes -/
def marks (k : Int) (n : Nat) : List Int := (List.range n).map (fun i : Nat => k + (i : Int))
theorem marks_length (k : Int) (n : Nat) : (marks k n).length = n := by simp [marks]
theorem marks_get (k : Int) (n j : Nat) (h : j < n) : (marks k n)[j]?.getD 0 = k + (j : Int) := by simp [marks, h]

theorem ret_bool {a b : Bool} (h : a = b) : Ending.returned (.bool a) = .returned (.bool b) := by rw [h]
theorem ret_int {a b : Int} (h : a = b) : Ending.returned (.int .i64 a) = .returned (.int .i64 b) := by rw [h]

theorem getD_eq {l : List Int} {k : Nat} (h : k < l.length) : l[k]?.getD 0 = l[k] := by simp [h]

theorem list_eq {la lb : List Int} (hl : la.length = lb.length) (h : ∀ j, j < la.length → la[j]?.getD 0 = lb[j]?.getD 0) : la = lb := by
  refine List.ext_getElem hl fun i h1 h2 => ?_
  have := h i h1
  rwa [getD_eq h1, getD_eq h2] at this

set_option maxHeartbeats 400000 in
theorem eqIntS_any (va vb : Value) (la lb : List Int) (w : World) (ha : Ints w va la) (hb : Ints w vb lb) :
    Calls Try.prog 31 #[va, vb] w fun e w' => e = .returned (.bool (decide (la = lb))) ∧ ∃ n, w' = w.drewN n := by
  obtain ⟨a, ca, rfl, ha1, ha2, ha3⟩ := ha
  obtain ⟨b, cb, rfl, hb1, hb2, hb3⟩ := hb
  by_cases hlen : la.length = lb.length
  · have hlt' : ((la.length : Int) != (lb.length : Int)) = false := by simp [hlen]
    have HL := Lib.hid hlen
    clear hlen
    go_enter Try.func31, Try.ntmps31
    go_wp2
    go_loopw [5] (fun i wr => ∃ k n : Nat, k ≤ la.length ∧ i = .int .i64 k ∧ wr = w.drewN n ∧ ∀ j, j < k → la[j]?.getD 0 = lb[j]?.getD 0) (fun i _ => la.length - (intOf i).toNat)
    case atStart => exact ⟨0, 0, Nat.zero_le _, rfl, rfl, fun j hj => by omega⟩
    case round =>
      obtain ⟨k, n, hk, rfl, rfl, hsame⟩ := hrel
      have HS := Lib.hid hsame
      clear hsame
      by_cases hlt : k < la.length
      · obtain ⟨b1, off1, rfl, hb1', hcell1⟩ := ha3 (by omega)
        obtain ⟨b2, off2, rfl, hb2', hcell2⟩ := hb3 (by have := HL.out; omega)
        have hl2 : k < lb.length := by have := HL.out; omega
        have c1 := hcell1 k hlt
        have c2 := hcell2 k hl2
        clear hcell1 hcell2 ha3 hb3
        rw [getD_eq hlt] at c1
        rw [getD_eq hl2] at c2
        by_cases he : la[k] = lb[k]
        · have he' : (la[k] != lb[k]) = false := by simp [he]
          have HE := Lib.hid he
          clear he
          go_wp2
          go_quiet (fail)
          go_wp2
          go_roundw
          case rel =>
            refine ⟨k + 1, n + nq, by omega, by go_num, rfl, fun j hj => ?_⟩
            by_cases e : j = k
            · subst e; rw [getD_eq hlt, getD_eq hl2]; exact HE.out
            · exact HS.out j (by omega)
          case measure => simp [intOf]; omega
        · have he' : (la[k] != lb[k]) = true := by simp [he]
          have HE := Lib.hid he
          clear he
          go_wp2
          go_quiet (fail)
          go_wp2
          go_ret
          exact ⟨ret_bool (decide_eq_false fun h => HE.out (by subst h; rfl)).symm, n + nq, World.drewN_drewN ..⟩
      · go_wp2
        go_ret
        exact ⟨ret_bool (decide_eq_true (list_eq HL.out (fun j hj => HS.out j (by omega)))).symm, n, rfl⟩
  · have hlt' : ((la.length : Int) != (lb.length : Int)) = true := by simp; omega
    have HL := Lib.hid hlen
    clear hlen
    go_enter Try.func31, Try.ntmps31
    go_wp2
    go_ret
    exact ⟨ret_bool (decide_eq_false fun h => HL.out (by rw [h])).symm, 0, rfl⟩

set_option maxHeartbeats 400000 in
theorem markIntS_any (v : Value) (l : List Int) (k0 : Int) (lo hi : Nat) (w : World) (h : Own lo hi w v l) (hn : l.length ≤ 1099511627776) (h0 : 0 ≤ k0) (h1 : k0 ≤ 1152921504606846976) :
    Calls Try.prog 32 #[v, .int .i64 k0] w fun e w' => e = .returned (.int .i64 (k0 + (l.length : Int))) ∧ Own lo hi w' v (marks k0 l.length) ∧ Touch lo hi w w' := by
  rcases h with ⟨rfl, a, cap, rfl, hcap⟩ | ⟨b, off, cap, t, n, f, rfl, hc1, hc2, hlo, hhi, hrow, hlen, hf⟩
  · go_enter Try.func32, Try.ntmps32
    go_wp2
    refine wp_loop_rounds 1 ?_
    rw [rounds_succ]
    go_wp2
    go_ret
    exact ⟨ret_int (by simp), .inl ⟨rfl, a, cap, rfl, hcap⟩, Touch.refl _ _ _⟩
  · go_enter Try.func32, Try.ntmps32
    go_wp2
    go_loopw [1, 5] (fun q i wr => ∃ k : Nat, k ≤ l.length ∧ i = .int .i64 k ∧ q = .int .i64 (k0 + (k : Int)) ∧ (∃ g, wr.rowIs b t n g ∧ ∀ j, j < k → g (off + j) = .int .i64 (k0 + (j : Int)) ) ∧ Touch lo hi w wr) (fun _ i _ => l.length - (intOf i).toNat)
    case atStart => exact ⟨0, Nat.zero_le _, rfl, by simp, ⟨f, hrow, fun j hj => by omega⟩, Touch.refl _ _ _⟩
    case round =>
      obtain ⟨k, hk, rfl, rfl, ⟨g, hg, hgv⟩, ht⟩ := hrel
      by_cases hlt : k < l.length
      · have hd := hg.cell (i := off + k) (by omega)
        have hfz := hg.frozen (off + k)
        obtain ⟨u, hu⟩ : ∃ u, u = g (off + k) := ⟨_, rfl⟩
        rw [← hu] at hd
        have HG := Lib.hid hg
        have HV := Lib.hid hgv
        clear hg hgv hrow hf hu
        go_wp2
        go_roundw
        case rel =>
          refine ⟨k + 1, by omega, by go_num, by go_num, ⟨_, HG.out.set (off + k) _, fun j hj => ?_⟩, ht.setCell hlo hhi _⟩
          by_cases e : j = k
          · subst e; simp
          · rw [if_neg (by omega)]; exact HV.out j (by omega)
        case measure => simp [intOf]; omega
      · go_wp2
        go_ret
        obtain rfl : k = l.length := by omega
        have hml := marks_length k0 l.length
        refine ⟨rfl, .inr ⟨b, off, cap, t, n, g, by rw [hml], by omega, hc2, hlo, hhi, hg, by omega, fun j hj => ?_⟩, ht⟩
        rw [marks_get _ _ _ (by omega)]
        exact hgv j (by omega)

set_option maxHeartbeats 400000 in
theorem heldIntS_any (v : Value) (k0 : Int) (m : Nat) (w : World) (h : Ints w v (marks k0 m)) (hn : m ≤ 1099511627776) (h0 : 0 ≤ k0) (h1 : k0 ≤ 1152921504606846976) :
    Calls Try.prog 33 #[v, .int .i64 k0] w fun e w' => e = .returned (.int .i64 (k0 + (m : Int))) ∧ w = w' := by
  obtain ⟨a, cap, rfl, hc1, hc2, hc3⟩ := h
  rw [marks_length] at hc1 hc3 ⊢
  go_enter Try.func33, Try.ntmps33
  go_wp2
  go_loop [1, 5] (fun q i => ∃ k : Nat, k ≤ m ∧ i = .int .i64 k ∧ q = .int .i64 (k0 + (k : Int))) (fun _ i => m - (intOf i).toNat)
  case atStart => exact ⟨0, Nat.zero_le _, rfl, by simp⟩
  case round =>
    obtain ⟨k, hk, rfl, rfl⟩ := hrel
    by_cases hlt : k < m
    · obtain ⟨b, off, rfl, hb, hcell⟩ := hc3 (by omega)
      have c := hcell k hlt
      rw [marks_get _ _ _ hlt] at c
      have hne : (k0 + (k : Int) != k0 + (k : Int)) = false := by simp
      clear hcell hc3
      go_wp2
      go_round
      case rel => exact ⟨k + 1, by omega, by go_num, by go_num⟩
      case measure => simp [intOf]; omega
    · go_wp2
      go_ret
      obtain rfl : k = m := by omega
      exact ⟨rfl, rfl⟩

theorem eqIntS_b (va vb : Value) (la lb : List Int) (w : World) (ha : Ints w va la) (hb : Ints w vb lb) :
    Calls Try.prog 31 #[va, vb] w fun e w' => e = .returned (.bool (decide (la = lb))) ∧ Below w.heap.size w w' :=
  (eqIntS_any va vb la lb w ha hb).mono fun _ _ ⟨he, n, hw⟩ => ⟨he, by rw [hw]; exact below_drewN (Below.refl _ _) n⟩
theorem heldIntS_b (v : Value) (k0 : Int) (m : Nat) (w : World) (h : Ints w v (marks k0 m)) (hn : m ≤ 1099511627776) (h0 : 0 ≤ k0) (h1 : k0 ≤ 1152921504606846976) :
    Calls Try.prog 33 #[v, .int .i64 k0] w fun e w' => e = .returned (.int .i64 (k0 + (m : Int))) ∧ Below w.heap.size w w' :=
  (heldIntS_any v k0 m w h hn h0 h1).mono fun _ _ ⟨he, hw⟩ => ⟨he, by rw [← hw]; exact Below.refl _ _⟩

end Go.Proofs.Ytdelcebkpdnnjaa
