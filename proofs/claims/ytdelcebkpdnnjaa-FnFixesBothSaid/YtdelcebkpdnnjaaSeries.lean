/-
  seriesOf: the nested value of a list of corrections.
-/
import Derived.Test.YtdelcebkpdnnjaaBack
namespace Go.Proofs.Ytdelcebkpdnnjaa
open Go.RowKit Go.Shelf

attribute [local go_sem] Oper.semAt_some

/-- a series as a value -/
def serv : List Quad → Value
  | [] => .iface 112 (.agg #[])
  | f :: fs => .iface 109 (.agg #[.int .i64 f.1, .int .i64 f.2.1, .int .i64 f.2.2.1, .int .i64 f.2.2.2, serv fs])
theorem serv_iface (l : List Quad) : ∃ T u, serv l = .iface T u := by
  cases l with
  | nil => exact ⟨_, _, rfl⟩
  | cons f fs => exact ⟨_, _, rfl⟩
/-- a box of several cells -/
def BoxC (W : World) (B : Nat) (cs : Array Value) (t : TypeId) : Prop := W.heap[B]? = some (.cells cs t (0, 0))
theorem BoxC.new (W : World) (cs : Array Value) (t : TypeId) : BoxC (W.alloc (.cells cs t)) W.heap.size cs t := World.alloc_heap_new W _
theorem BoxC.own {β : Type} (B : Nat) (cs : Array Value) (t : TypeId) : Go.Own (fun (_ : β) W => BoxC W B cs t) := fun _ X Y row hs hg hrow =>
  (hg.block B (Array.getElem?_eq_some_iff.1 hs).1 (fun e' => by obtain ⟨o, ho, hc⟩ := hrow B e'.symm; rw [show X.heap[B]? = _ from hs] at ho; cases ho; cases hc)).trans hs
theorem BoxC.cells {W : World} {B : Nat} {q : Quad} {t : TypeId} (h : BoxC W B #[.int .i64 q.1, .int .i64 q.2.1, .int .i64 q.2.2.1, .int .i64 q.2.2.2] t) :
    W.cell? ⟨B, 0, none⟩ = some (.int .i64 q.1) ∧ W.cell? ⟨B, 1, none⟩ = some (.int .i64 q.2.1) ∧ W.cell? ⟨B, 2, none⟩ = some (.int .i64 q.2.2.1) ∧ W.cell? ⟨B, 3, none⟩ = some (.int .i64 q.2.2.2) := by
  have e : W.heap[B]? = _ := h
  simp [World.cell?, e]

set_option maxRecDepth 100000 in
set_option maxHeartbeats 2000000 in
theorem seriesOf_in (F : Fence) (n : Nat) (h1 : F.fn 80) (h2 : F.fn 97) (h3 : F.fn 118) (hro : F.round = none) (hn : 3 ≤ n) (a : Option Addr) (cap : Nat) (l : List Quad) (w : World) (hlen : l.length ≤ 1099511627776) (hI : Quads w (.slice a l.length cap) l) :
    CallsIn F n Try.prog 80 #[.slice a l.length cap] w fun e W' => e = .returned (serv l) ∧ Below w.heap.size w W' := by
  have hn1 : 1 ≤ n := by omega
  have HI := Lib.hid hI.quadsB
  have HL := Lib.hid hlen
  clear hI hlen
  refine callsIn_of_wp_marks Try.func80 rfl h1 ?_ hro
  simp only [Try.ntmps80, List.size_toArray, List.length_cons, List.length_nil, Nat.reduceAdd, Nat.reduceSub, Array.replicate_succ, Array.replicate_zero, List.push_toArray, List.append_toArray, List.nil_append, List.cons_append]
  gi_wp2_with (gi_at_call 97; refine (backward_in F (n - 1) h2 hro _ _ _ _).mono ?_; rintro e w' ⟨rfl, rfl⟩)
  have bS := Boxed.new w 94 (serv [])
  have bN := Boxed.new (w.alloc (.cells #[serv []] 94)) 24 (.slice a l.length cap)
  rw [World.size_alloc] at bN
  have hB0 : Below w.heap.size w ((w.alloc (.cells #[serv []] 94)).alloc (.cells #[.slice a l.length cap] 24)) := ((Below.refl _ w).alloc (Nat.le_refl _) _).alloc (by simp) _
  have bS1 := bS.alloc (.cells #[.slice a l.length cap] 24)
  have hsz : ((w.alloc (.cells #[serv []] 94)).alloc (.cells #[.slice a l.length cap] 24)).heap.size = w.heap.size + 2 := by simp
  have e0 : (Value.iface 112 (.agg #[])) = serv [] := rfl
  rw [e0]
  obtain ⟨W0, hW0⟩ : ∃ W0, (w.alloc (.cells #[serv []] 94)).alloc (.cells #[.slice a l.length cap] 24) = W0 := ⟨_, rfl⟩
  rw [hW0] at bS1 bN hB0 hsz ⊢
  clear hW0 bS e0
  refine wpIn_rangeFunc_ownH hro hn1 (gf := 118) (lb := #[.pointer (some ⟨w.heap.size + 1, 0, none⟩)]) rfl h3 (enters_of Try.func118 (by kernel_rfl) rfl)
    (backward_stops F (n - 1) h3 hro (by omega) (w.heap.size + 1) w.heap.size w.heap.size _ l HL.out W0 (by omega) (by omega) (Nat.le_refl _) bN.cell (HI.out.below hB0 (Nat.le_refl _))) KpB.trans (KpB.put (by omega) (by omega)) (Below.refl _ _) (fun _ => rfl)
    (fun pre W => (Boxed W w.heap.size 94 (serv (pre.map (·.2)).reverse) ∧ Boxed W (w.heap.size + 1) 24 (.slice a l.length cap)) ∧ Below w.heap.size w W)
    (fun _ _ _ => False)
    (OwnFrom.and (OwnFrom.and (Own.from (boxed_own _ _ _) _) (Own.from (boxed_own _ _ _) _)) (ownFrom_below (Nat.le_refl _) (by omega)))
    (fun _ _ _ _ _ hs _ _ => hs)
    ⟨⟨bS1, bN⟩, hB0⟩
    (fun x a' W => ∃ Bx, w.heap.size + 1 < Bx ∧ BoxC W Bx #[.int .i64 x.2.1, .int .i64 x.2.2.1, .int .i64 x.2.2.2.1, .int .i64 x.2.2.2.2] 41 ∧ a' = { tmps := #[.slice a l.length cap, undef, .nilIface, .pointer (some ⟨w.heap.size, 0, none⟩), undef, .pointer (some ⟨Bx, 0, none⟩), .agg #[], serv [], .slice a l.length cap, .func (.func 118) #[] #[.pointer (some ⟨w.heap.size + 1, 0, none⟩)], .int .i64 (x.1 : Int), qv x.2, undef, undef, undef, undef, undef], defers := [] })
    (fun x a' _ X Y row hs hg hr => by obtain ⟨Bx, h1, h2, h3⟩ := hs; exact ⟨Bx, h1, BoxC.own Bx _ 41 () X Y row h2 hg (fun r e => (hr r e).2), h3⟩)
    ?assign ?body ?done ?stop
  case assign =>
    rintro l' pre x W K ⟨⟨bS1, bN1⟩, hB1⟩ hK
    gi_wp2
    exact hK _ _ ((KeepsOthers.alloc _ _).from _) ⟨(Below.refl _ W).alloc hB1.size _, Below.heap_alloc W _ _ bN1.lt⟩ ⟨⟨bS1.alloc _, bN1.alloc _⟩, hB1.alloc hB1.size _⟩ ⟨W.heap.size, bN1.lt, BoxC.new W _ _, rfl⟩
  case body =>
    rintro l' pre x a' W hl ⟨r, hr⟩ ⟨⟨bS1, bN1⟩, hB1⟩ ⟨Bx, hBx, bX, rfl⟩ hlt
    obtain ⟨c0, c1, c2, c3⟩ := bX.cells
    have cS := bS1.cell
    have fS := bS1.frozen
    obtain ⟨T, u, hu⟩ := serv_iface (pre.map (·.2)).reverse
    have hs2 : serv ((pre ++ [x]).map (·.2)).reverse = .iface 109 (.agg #[.int .i64 x.2.1, .int .i64 x.2.2.1, .int .i64 x.2.2.2.1, .int .i64 x.2.2.2.2, .iface T u]) := by
      rw [← hu]; simp [serv]
    have HS2 := Lib.hid hs2
    rw [hu] at cS
    clear hs2 hu
    gi_wp2
    refine ⟨(KeepsOthers.setCell _ _ _).from _, ⟨(Below.refl _ W).setCell (p := ⟨w.heap.size, 0, none⟩) (Nat.le_refl _) _, Below.heap_setCell _ _ _ _ (by simp)⟩, ⟨by rw [HS2.out]; exact bS1.set _, bN1.other (by omega) _⟩, hB1.setCell (p := ⟨w.heap.size, 0, none⟩) (Nat.le_refl _) _⟩
  case done =>
    rintro D ys W hD rfl ⟨⟨bS1, bN1⟩, hB1⟩ hK
    have cS := bS1.cell
    rw [cameN_all] at cS
    gi_wp2
    refine ⟨by simp, .inl ⟨_, _, rfl, run_takeDeferred hK, ?_⟩⟩
    exact ⟨_, results_tmp rfl _ _ _, rfl, hB1.trans (belowK_b (w := w) (Nat.le_refl _) W D _ _ (by omega) hK rfl rfl)⟩
  case stop =>
    rintro D c pre W _ _ h _
    exact h.elim

/-- the series of a list -/
theorem seriesOf_any (v : Value) (l : List Quad) (w : World) (hI : Quads w v l) (hlen : l.length ≤ 1099511627776) :
    Calls Try.prog 80 #[v] w fun e W' => e = .returned (serv l) ∧ Below w.heap.size w W' := by
  obtain ⟨a, cap, rfl, _, _, _⟩ := id hI
  exact callsIn_wide.1 (seriesOf_in Fence.wide 3 trivial trivial trivial rfl (Nat.le_refl _) a cap l w hlen hI)
end Go.Proofs.Ytdelcebkpdnnjaa
