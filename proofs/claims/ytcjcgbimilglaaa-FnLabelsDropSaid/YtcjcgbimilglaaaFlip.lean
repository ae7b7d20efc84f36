/-
  Contracts of SettingFlip, the program's and the reference's: both return the sides with 2 and 3 exchanged, in new memory. Conditions: length up to 2^40.
-/
import Derived.Test.YtcjcgbimilglaaaInts
namespace Go.Proofs.Ytcjcgbimilglaaa
open Go.RowKit Go.Deep

/-- what an owned row (the library's word) is in this seat's words -/
theorem own_of_ownsRow {B hi : Nat} {t : TypeId} {w : World} {v : Value} {l : List Int} (h : w.ownsRow B t 1 v l.length (l.map (Value.int .i64))) (hhi : w.heap.size ≤ hi) : Own B hi w v l := by
  obtain ⟨h1, h2⟩ := h
  rcases h2 with ⟨rfl, hn⟩ | ⟨g, cap, cur, rfl, hg, hh, hc, hm, hs, ht⟩
  · obtain rfl : l = [] := List.length_eq_zero_iff.1 hn
    exact .inl ⟨rfl, none, 0, rfl, by omega⟩
  · have hlt : g < w.heap.size := (Array.getElem?_eq_some_iff.1 hh).1
    unfold maxLen at hm
    refine .inr ⟨g, 0, cap, t, cap, fun j => cur[j]?.getD (.int .i64 0), rfl, hc, hm, hg, by omega, ⟨cur, hh, by omega, fun i hi => ?_⟩, by omega, fun j hj => ?_⟩
    · simp [Array.getElem?_eq_getElem (show i < cur.size by omega)]
    · rw [Nat.zero_add]
      have e : (cur.toList.take (l.length * 1))[j]? = (l.map (Value.int .i64))[j]? := by rw [ht]
      rw [List.getElem?_take, if_pos (by omega)] at e
      have e2 : cur[j]? = some (Value.int .i64 (l[j]?.getD 0)) := by
        rw [← Array.getElem?_toList, e]; simp [hj]
      show cur[j]?.getD _ = _
      rw [e2]; rfl

/-- append of one int to a slice that the call made -/
theorem app_int {ops : Array Oper} {rest : List Oper} {o : Oper} {a : Act} {Q : Exit → Act → World → Prop} (w0 wr : World) (hgd : o.guard = none) (s x : Operand)
    (ho : o.op = .call { callee := .builtin .append, args := #[s, x], argTypes := #[31, 31] }) (base : Nat) (v : Value) (l : List Int) (n : Int)
    (hown : wr.ownsRow base 3 1 v l.length (l.map (Value.int .i64))) (hs : a.eval s = v) (hx : a.eval x = .slice (some ⟨wr.heap.size, 0, none⟩) 1 1) (hlen : l.length ≤ 1099511627776) (hb : base ≤ wr.heap.size) (hB : Below base w0 wr)
    (h : ∀ v' w', w'.ownsRow base 3 1 v' (l ++ [n]).length ((l ++ [n]).map (Value.int .i64)) → Below base w0 w' → wpList Try.prog ops Q rest (a.put o.dst v') w') :
    wpList Try.prog ops Q (o :: rest) a (wr.alloc (.cells #[.int .i64 n] 3)) := by
  obtain ⟨i0, hi, hz0, hz1, hz2⟩ := info_parts info_int
  refine wpList_append_own _ hgd s x 31 ho base 3 i0 (.int .i64 0) 1 8 Try.underlying31 hi hz0 hz1 hz2 rfl (by decide) v l.length _ hs (hown.alloc _) ⟨wr.heap.size, 0, none⟩ 1 1 [.int .i64 n] hx rfl ?_ ?_ (by unfold maxLen; omega) (by omega) (by simp; omega) ?_
  · intro j u hj
    match j, hj with
    | 0, hj => simp at hj; subst hj; simp [Addr.add]
  · intro u hu; simp at hu; subst hu; rfl
  · intro v' w' h1 h2 _
    refine h v' w' (by simpa using h1) ?_
    exact (hB.alloc hb _).grown h2 (by simp; omega) (fun k hk => (hown.lt k hk).1)

def flipSide (s : Int) : Int := if s = 2 then 3 else if s = 3 then 2 else s
def flipS (l : List Int) : List Int := l.map flipSide
theorem flipS_length (l : List Int) : (flipS l).length = l.length := by simp [flipS]
theorem flipS_get (l : List Int) (j : Nat) (h : j < l.length) : (flipS l)[j]?.getD 0 = flipSide (l[j]?.getD 0) := by simp [flipS, h]
theorem flipS_snoc (l : List Int) (k : Nat) (h : k < l.length) : flipS (l.take k) ++ [flipSide l[k]] = flipS (l.take (k + 1)) := by
  rw [List.take_succ_eq_append_getElem h, flipS, flipS, List.map_append]; rfl

set_option maxHeartbeats 400000 in
theorem SettingFlip_any (v : Value) (l : List Int) (w : World) (h : Ints w v l) (hn : l.length ≤ 1099511627776) :
    Calls Try.prog 67 #[v] w fun e w' => ∃ v', e = .returned v' ∧ Own w.heap.size w'.heap.size w' v' (flipS l) ∧ Below w.heap.size w w' := by
  obtain ⟨a, cap, rfl, hc1, hc2, hc3⟩ := h
  have hmk := run_make_row' (P := Try.prog) 31 3 (.int .i64 0) 8 Try.underlying31 info_int rfl .i64 .i64 l.length (by omega) (by omega)
  go_enter Try.func67, Try.ntmps67
  go_wp2
  go_loopw [4, 5, 11] (fun _ _ i wr => ∃ k : Nat, k ≤ l.length ∧ i = .int .i64 k ∧ wr.rowIs w.heap.size 3 l.length (fun j => if j < k then .int .i64 (flipSide (l[j]?.getD 0)) else .int .i64 0) ∧ Below w.heap.size w wr) (fun _ _ i _ => l.length - (intOf i).toNat)
  case atStart => exact ⟨0, Nat.zero_le _, rfl, (World.rowIs_made w (.int .i64 0) l.length 3).congr (fun i _ => by simp), (Below.refl _ _).alloc (Nat.le_refl _) _⟩
  case round =>
    obtain ⟨k, hk, rfl, hrow, hbel⟩ := hrel
    by_cases hlt : k < l.length
    · obtain ⟨b, off, rfl, hb, hcell⟩ := hc3 (by omega)
      have hc : wr.cell? ⟨b, off + k, none⟩ = some (.int .i64 (l[k]?.getD 0)) := (hbel.cell (p := ⟨b, off + k, none⟩) hb).trans (hcell k hlt)
      have hd := hrow.cell hlt
      have hf := hrow.frozen k
      have HR := Lib.hid hrow
      have key : ∀ x, flipSide (l[k]?.getD 0) = x → (wr.setCell ⟨w.heap.size, k, none⟩ (.int .i64 x)).rowIs w.heap.size 3 l.length (fun j => if j < k + 1 then .int .i64 (flipSide (l[j]?.getD 0)) else .int .i64 0) := by
        intro x hx
        refine (hrow.set k _).congr fun j hj => ?_
        by_cases e : j = k
        · subst e; simp only [if_true]; rw [if_pos (by omega), hx]
        · by_cases e2 : j < k
          · rw [if_neg e, if_pos e2, if_pos (by omega)]
          · rw [if_neg e, if_neg e2, if_neg (by omega)]
      have KEY := Lib.hid key
      clear hrow hc3 hcell key
      rw [getD_eq hlt] at hc
      have E := Lib.hid (getD_eq hlt)
      obtain ⟨s, hs⟩ : ∃ s, s = l[k] := ⟨_, rfl⟩
      rw [← hs] at hc E
      clear hs
      by_cases h2 : s = 2
      · subst h2
        go_wp2
        go_roundw
        case rel => exact ⟨k + 1, by omega, by go_num, KEY.out _ (by rw [E.out]; rfl), hbel.setCell (by simp) _⟩
        case measure => simp [intOf]; omega
      · by_cases h3 : s = 3
        · subst h3
          go_wp2
          go_roundw
          case rel => exact ⟨k + 1, by omega, by go_num, KEY.out _ (by rw [E.out]; rfl), hbel.setCell (by simp) _⟩
          case measure => simp [intOf]; omega
        · have e2 : (s == 2) = false := by simp [h2]
          have e3 : (s == 3) = false := by simp [h3]
          go_wp2
          go_roundw
          case rel => exact ⟨k + 1, by omega, by go_num, KEY.out _ (by rw [E.out]; simp [flipSide, h2, h3]), hbel.setCell (by simp) _⟩
          case measure => simp [intOf]; omega
    · go_wp2
      go_ret
      obtain rfl : k = l.length := by omega
      have hl := flipS_length l
      have R : Own w.heap.size wr.heap.size wr (.slice (some ⟨w.heap.size, 0, none⟩) (flipS l).length l.length) (flipS l) := own_of_row (f := fun j => if j < l.length then .int .i64 (flipSide (l[j]?.getD 0)) else .int .i64 0) (by rw [hl]; exact hrow) (fun j hj => by rw [hl] at hj; simp only [hj, if_true]; rw [flipS_get _ _ hj]) (Nat.le_refl _) hrow.lt (by omega) (by omega)
      rw [hl] at R
      exact ⟨_, rfl, R, hbel⟩

end Go.Proofs.Ytcjcgbimilglaaa
