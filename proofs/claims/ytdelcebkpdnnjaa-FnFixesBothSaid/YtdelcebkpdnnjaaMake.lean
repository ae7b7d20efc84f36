/-
  EditionFar and FixesMake of the program. No condition but that the slices read as the lists.
-/
import Derived.Test.YtdelcebkpdnnjaaBetween
namespace Go.Proofs.Ytdelcebkpdnnjaa
open Go.RowKit Go.Deep Go.Sort

def makeOf (ga gb : Rows) : List Quad := if Like ga gb then diffsOf ga gb else []
def farOf (ga gb : Rows) : Int := if Like ga gb then ((diffsOf ga gb).length : Int) else -1
theorem makeOf_yes {ga gb : Rows} (h : Like ga gb) : makeOf ga gb = diffsOf ga gb := if_pos h
theorem makeOf_no {ga gb : Rows} (h : ¬ Like ga gb) : makeOf ga gb = [] := if_neg h
theorem farOf_yes {ga gb : Rows} (h : Like ga gb) : farOf ga gb = ((diffsOf ga gb).length : Int) := if_pos h
theorem farOf_no {ga gb : Rows} (h : ¬ Like ga gb) : farOf ga gb = -1 := if_neg h
theorem ownsRow_slice {w : World} {base n size : Nat} {e : TypeId} {v : Value} {xs : List Value} (h : w.ownsRow base e size v n xs) : ∃ a c, v = .slice a n c := by
  rcases h.2 with ⟨rfl, rfl⟩ | ⟨g, cap, cur, rfl, _⟩
  · exact ⟨_, _, rfl⟩
  · exact ⟨_, _, rfl⟩

set_option maxHeartbeats 2000000 in
set_option maxRecDepth 100000 in
theorem EditionFar_any (va vb : Value) (ga gb : Rows) (w : World) (ha : Grid w va ga) (hb : Grid w vb gb) :
    Calls Try.prog 42 #[va, vb] w fun e w' => e = .returned (.int .i64 (farOf ga gb)) ∧ Below w.heap.size w w' := by
  by_cases hs : Like ga gb
  · have C := Lib.hid (alike_yes va vb ga gb w ha hb hs)
    have HS := Lib.hid hs
    clear ha hb hs
    go_enter Try.func42, Try.ntmps42
    go_wp2_with fail
    refine C.out.mono ?_
    rintro e w1 ⟨a, b, rfl, hA, hAB, hra, hrb, hbel⟩
    have ra := (hra.alloc (.cells #[.int .i64 ga.length, .int .i64 (colsOf ga), .slice (some ⟨a, 0, none⟩) (ga.length * colsOf ga) (ga.length * colsOf ga)] 64)).alloc (.cells #[.int .i64 gb.length, .int .i64 (colsOf gb), .slice (some ⟨b, 0, none⟩) (gb.length * colsOf gb) (gb.length * colsOf gb)] 64)
    have rb := (hrb.alloc (.cells #[.int .i64 ga.length, .int .i64 (colsOf ga), .slice (some ⟨a, 0, none⟩) (ga.length * colsOf ga) (ga.length * colsOf ga)] 64)).alloc (.cells #[.int .i64 gb.length, .int .i64 (colsOf gb), .slice (some ⟨b, 0, none⟩) (gb.length * colsOf gb) (gb.length * colsOf gb)] 64)
    have hz := hbel.size
    have HB := Lib.hid ((hbel.alloc (by omega) (.cells #[.int .i64 ga.length, .int .i64 (colsOf ga), .slice (some ⟨a, 0, none⟩) (ga.length * colsOf ga) (ga.length * colsOf ga)] 64)).alloc (by simp; omega) (.cells #[.int .i64 gb.length, .int .i64 (colsOf gb), .slice (some ⟨b, 0, none⟩) (gb.length * colsOf gb) (gb.length * colsOf gb)] 64))
    have RA := Lib.hid ra
    have RB := Lib.hid rb
    clear hra hrb hbel ra rb
    go_wp2_with fail
    refine (between_any ga gb a b _ HS.out RA.out RB.out).mono ?_
    rintro e w2 ⟨v, rfl, hown, hb2⟩
    have hz2 := hb2.size
    simp at hz2
    have HB2 := Lib.hid (HB.out.trans (hb2.mono (by simp; omega)))
    have HO2 := Lib.hid hown
    obtain ⟨va', vc', rfl⟩ := ownsRow_slice hown
    clear hb2 hown
    go_wp2
    go_ret
    exact ⟨ret_int (farOf_yes HS.out).symm, HB2.out⟩
  · have C := Lib.hid (alike_no va vb ga gb w ha hb hs)
    have HS := Lib.hid hs
    clear ha hb hs
    go_enter Try.func42, Try.ntmps42
    go_wp2_with fail
    refine C.out.mono ?_
    rintro e w1 ⟨rfl, hbel⟩
    go_wp2
    go_ret
    exact ⟨ret_int (farOf_no HS.out).symm, (hbel.alloc hbel.size _).alloc (by have := hbel.size; simp; omega) _⟩

set_option maxHeartbeats 2000000 in
set_option maxRecDepth 100000 in
theorem FixesMake_any (va vb : Value) (ga gb : Rows) (w : World) (ha : Grid w va ga) (hb : Grid w vb gb) :
    Calls Try.prog 21 #[va, vb] w fun e w' => ∃ v, e = .returned (.tuple #[v, .bool (decide (Like ga gb))]) ∧ OwnQ w.heap.size w'.heap.size w' v (makeOf ga gb) ∧ Below w.heap.size w w' := by
  by_cases hs : Like ga gb
  · have C := Lib.hid (alike_yes va vb ga gb w ha hb hs)
    have HS := Lib.hid hs
    clear ha hb hs
    go_enter Try.func21, Try.ntmps21
    go_wp2_with fail
    refine C.out.mono ?_
    rintro e w1 ⟨a, b, rfl, hA, hAB, hra, hrb, hbel⟩
    have ra := (hra.alloc (.cells #[.int .i64 ga.length, .int .i64 (colsOf ga), .slice (some ⟨a, 0, none⟩) (ga.length * colsOf ga) (ga.length * colsOf ga)] 64)).alloc (.cells #[.int .i64 gb.length, .int .i64 (colsOf gb), .slice (some ⟨b, 0, none⟩) (gb.length * colsOf gb) (gb.length * colsOf gb)] 64)
    have rb := (hrb.alloc (.cells #[.int .i64 ga.length, .int .i64 (colsOf ga), .slice (some ⟨a, 0, none⟩) (ga.length * colsOf ga) (ga.length * colsOf ga)] 64)).alloc (.cells #[.int .i64 gb.length, .int .i64 (colsOf gb), .slice (some ⟨b, 0, none⟩) (gb.length * colsOf gb) (gb.length * colsOf gb)] 64)
    have hz := hbel.size
    have HB := Lib.hid ((hbel.alloc (by omega) (.cells #[.int .i64 ga.length, .int .i64 (colsOf ga), .slice (some ⟨a, 0, none⟩) (ga.length * colsOf ga) (ga.length * colsOf ga)] 64)).alloc (by simp; omega) (.cells #[.int .i64 gb.length, .int .i64 (colsOf gb), .slice (some ⟨b, 0, none⟩) (gb.length * colsOf gb) (gb.length * colsOf gb)] 64))
    have RA := Lib.hid ra
    have RB := Lib.hid rb
    clear hra hrb hbel ra rb
    go_wp2_with fail
    refine (between_any ga gb a b _ HS.out RA.out RB.out).mono ?_
    rintro e w2 ⟨v, rfl, hown, hb2⟩
    have hz2 := hb2.size
    simp at hz2
    have HB2 := Lib.hid (HB.out.trans (hb2.mono (by simp; omega)))
    have HO2 := Lib.hid hown
    obtain ⟨va', vc', rfl⟩ := ownsRow_slice hown
    clear hb2 hown
    go_wp2
    go_ret2
    exact ⟨_, by rw [decide_eq_true HS.out]; first | done | rfl, by rw [makeOf_yes HS.out]; exact (ownQ_of_ownsRow HO2.out (Nat.le_refl _)).mono (by simp; omega) (Nat.le_refl _), HB2.out⟩
  · have C := Lib.hid (alike_no va vb ga gb w ha hb hs)
    have HS := Lib.hid hs
    clear ha hb hs
    go_enter Try.func21, Try.ntmps21
    go_wp2_with fail
    refine C.out.mono ?_
    rintro e w1 ⟨rfl, hbel⟩
    go_wp2
    go_ret2
    exact ⟨_, by rw [decide_eq_false HS.out]; first | done | rfl, by rw [makeOf_no HS.out]; exact .inl ⟨rfl, none, 0, rfl, by omega⟩, (hbel.alloc hbel.size _).alloc (by have := hbel.size; simp; omega) _⟩

end Go.Proofs.Ytdelcebkpdnnjaa
