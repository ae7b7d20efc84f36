/-
  Contracts of SettingFlip, the program's and the reference's: both return the sides with 2 and 3 exchanged, in new memory. Conditions: length up to 2^40.
-/
import Derived.Test.YtbpcjdhbbighgaaInts
namespace Go.Proofs.Ytbpcjdhbbighgaa
open Go.RowKit Go.Deep

/-- what an owned row (the library's word) is in this seat's words -/
theorem own_of_ownsRow {B hi : Nat} {t : TypeId} {w : World} {v : Value} {l : List Int} (h : w.ownsRow B t 1 v l.length (l.map (Value.int .i64))) (hhi : w.heap.size ≤ hi) : Own B hi w v l := by
  obtain ⟨h1, h2⟩ := h
  rcases h2 with ⟨rfl, hn⟩ | ⟨g, cap, cur, rfl, hg, hh, hc, hm, hs, ht⟩
  · obtain rfl : l = [] := List.length_eq_zero_iff.1 hn
    exact .inl ⟨rfl, none, 0, rfl, by omega⟩
  · have hlt : g < w.heap.size := (Array.getElem?_eq_some_iff.1 hh).1
    unfold maxLen at hm
    refine .inr ⟨g, 0, cap, t, cap, fun j => cur[j]?.getD (.int .i64 0), rfl, hc, hm, hg, by omega, ⟨cur, hh, by omega, fun i hi => ?_⟩, by omega, fun j hj => ?_⟩
    · simp [Array.getElem?_eq_getElem (show i < cur.size by omega)]
    · rw [Nat.zero_add]
      have e : (cur.toList.take (l.length * 1))[j]? = (l.map (Value.int .i64))[j]? := by rw [ht]
      rw [List.getElem?_take, if_pos (by omega)] at e
      have e2 : cur[j]? = some (Value.int .i64 (l[j]?.getD 0)) := by
        rw [← Array.getElem?_toList, e]; simp [hj]
      show cur[j]?.getD _ = _
      rw [e2]; rfl

/-- append of one int to a slice that the call made -/
theorem app_int {ops : Array Oper} {rest : List Oper} {o : Oper} {a : Act} {Q : Exit → Act → World → Prop} (w0 wr : World) (hgd : o.guard = none) (s x : Operand)
    (ho : o.op = .call { callee := .builtin .append, args := #[s, x], argTypes := #[27, 27] }) (base : Nat) (v : Value) (l : List Int) (n : Int)
    (hown : wr.ownsRow base 3 1 v l.length (l.map (Value.int .i64))) (hs : a.eval s = v) (hx : a.eval x = .slice (some ⟨wr.heap.size, 0, none⟩) 1 1) (hlen : l.length ≤ 1099511627776) (hb : base ≤ wr.heap.size) (hB : Below base w0 wr)
    (h : ∀ v' w', w'.ownsRow base 3 1 v' (l ++ [n]).length ((l ++ [n]).map (Value.int .i64)) → Below base w0 w' → wpList Try.prog ops Q rest (a.put o.dst v') w') :
    wpList Try.prog ops Q (o :: rest) a (wr.alloc (.cells #[.int .i64 n] 3)) := by
  obtain ⟨i0, hi, hz0, hz1, hz2⟩ := info_parts info_int
  refine wpList_append_own _ hgd s x 27 ho base 3 i0 (.int .i64 0) 1 8 Try.underlying27 hi hz0 hz1 hz2 rfl (by decide) v l.length _ hs (hown.alloc _) ⟨wr.heap.size, 0, none⟩ 1 1 [.int .i64 n] hx rfl ?_ ?_ (by unfold maxLen; omega) (by omega) (by simp; omega) ?_
  · intro j u hj
    match j, hj with
    | 0, hj => simp at hj; subst hj; simp [Addr.add]
  · intro u hu; simp at hu; subst hu; rfl
  · intro v' w' h1 h2 _
    refine h v' w' (by simpa using h1) ?_
    exact (hB.alloc hb _).grown h2 (by simp; omega) (fun k hk => (hown.lt k hk).1)

def flipSide (s : Int) : Int := if s = 2 then 3 else if s = 3 then 2 else s
def flipS (l : List Int) : List Int := l.map flipSide
theorem flipS_length (l : List Int) : (flipS l).length = l.length := by simp [flipS]
theorem flipS_get (l : List Int) (j : Nat) (h : j < l.length) : (flipS l)[j]?.getD 0 = flipSide (l[j]?.getD 0) := by simp [flipS, h]
theorem flipS_snoc (l : List Int) (k : Nat) (h : k < l.length) : flipS (l.take k) ++ [flipSide l[k]] = flipS (l.take (k + 1)) := by
  rw [List.take_succ_eq_append_getElem h, flipS, flipS, List.map_append]; rfl

end Go.Proofs.Ytbpcjdhbbighgaa
