/-
  Closed facts of this seat's program that every row of it asks, each a small theorem of its own (so that no one of them takes much memory). No condition.
-/
import Derived.Test.YtdelcebkpdnnjaaRows
import Derived.ProofKit
namespace Go.Proofs.Ytdelcebkpdnnjaa

set_option maxRecDepth 100000 in
theorem headCut : (behindMainWord (wordsSigns Try.prog.initOrder.toList)).head? = some "cut".toList := by
  rw [show Try.prog.initOrder.toList = _ from String.toList_ofList]
  kernel_rfl
theorem restCut : ∃ r, behindMainWord (wordsSigns Try.prog.initOrder.toList) = "cut".toList :: r := by
  have h := headCut
  revert h
  cases behindMainWord (wordsSigns Try.prog.initOrder.toList) with
  | nil => intro h; cases h
  | cons c r => intro h; exact ⟨r, by simp only [List.head?_cons, Option.some.injEq] at h; rw [h]⟩
theorem laysNot : Try.prog.laysLater = false := by kernel_rfl
theorem bearsNot : Try.prog.bearsReflect = false := by kernel_rfl
theorem doorOk : Try.prog.doorFits [] = true := by kernel_rfl
theorem stripNone (r : List (List Char)) : stripLifts liftWords ("cut".toList :: r) = ([], "cut".toList :: r) := by rfl
theorem gcNot : ("cut".toList == "gc".toList) = false := by decide
theorem specNot : ("cut".toList == "spec".toList) = false := by decide
theorem carriedNot : ("cut".toList == "carried".toList) = false := by decide
theorem cutYes : ("cut".toList == "cut".toList) = true := by decide
theorem carriedNot' : (some "cut".toList == some "carried".toList) = false := by decide
section
variable {P : Program} {r : List (List Char)} (hr : behindMainWord (wordsSigns P.initOrder.toList) = "cut".toList :: r)
include hr
theorem headLifts_of : P.headLifts = [] := by
  unfold Program.headLifts
  rw [hr]
  simp only [stripNone, List.head?_cons, beq_self_eq_true, if_true]
theorem make_of : P.make = some .cut := by
  unfold Program.make
  rw [hr]
  simp only [gcNot, specNot, Bool.or_self, cutYes, Bool.true_or, if_true, Bool.false_eq_true, if_false]
theorem lifted_of : P.liftsFinal = false := by
  unfold Program.liftsFinal
  rw [headLifts_of hr, hr]
  simp only [List.head?_cons, carriedNot', Bool.false_and, Bool.false_or, List.contains_nil]
theorem mayEnter_of (h1 : P.laysLater = false) (h2 : P.bearsReflect = false) (h3 : P.doorFits [] = true) : P.mayEnter = true := by
  unfold Program.mayEnter
  rw [hr]
  simp only [stripNone, h1, h2, h3, gcNot, specNot, carriedNot, List.head?_cons, beq_self_eq_true, Bool.or_self, Bool.false_and, Bool.true_and, Bool.not_false, Bool.or_true, List.contains_nil]
end
theorem fact_mayEnter : Try.prog.mayEnter = true := by
  obtain ⟨r, hr⟩ := restCut
  exact mayEnter_of hr laysNot bearsNot doorOk
theorem fact_lifted : Try.prog.liftsFinal = false := by
  obtain ⟨r, hr⟩ := restCut
  exact lifted_of hr
theorem fact_make : Try.prog.make = some .cut := by
  obtain ⟨r, hr⟩ := restCut
  exact make_of hr
theorem fact_laid : laidOutB Try.prog = true := by kernel_rfl
theorem fact_mapsRowed : mapsRowed Try.prog = true := by kernel_rfl
theorem fact_pstops : (Try.prog.stops == []) = true := by kernel_rfl
theorem fact_pknobs : (Try.prog.stopKnobs == []) = true := by kernel_rfl
theorem fact_plainKeys : Try.prog.plainKeys = true := by kernel_rfl
theorem fact_stopsHeard : Try.prog.stopsHeard = true := by kernel_rfl

theorem and2 {a b : Bool} (h : a = true) (k : b = true) : (a && b) = true := by rw [h, k]; rfl

/-- the facts that a row of this seat asks, out of its own and the program's -/
theorem joined_gen {P : Program} (fact_laid : laidOutB P = true) (fact_mapsRowed : mapsRowed P = true) (fact_pstops : (P.stops == []) = true) (fact_pknobs : (P.stopKnobs == []) = true) (fact_stopsHeard : P.stopsHeard = true) (fact_mayEnter : P.mayEnter = true) (fact_lifted : P.liftsFinal = false) (fact_make : P.make = some .cut) {f : FuncId} {fn : Func} {s : ChangeSpec} {c : OpenClaim}
    (g1 : c.wf (OpenSpec.ofChange s) = true) (g4 : fn.params.all (P.readableRec ·) = true) (g5 : namedTie P c.named s.vars = true) (g6 : (c.stops == []) = true) (g8 : (c.knobs == []) = true)
    (g10 : (c.inPlace == P.inPlace f) = true) (g11 : (c.unfollowed == P.unfollowed f) = true) (g12 : (c.recurses == P.recurses f) = true) (g13 : (c.named == P.varsNamed f) = true)
    (g14 : (c.maps == (fn.params.toList ++ s.plain.varTypes P).any (P.mapsRec ·)) = true) (g15 : (c.ifaces == (fn.params.toList ++ s.plain.varTypes P).any (P.ifacesRec ·)) = true)
    (g16 : (c.mapsOut == P.mapsAmong fn.resultTypes.toList) = true) (g17 : (c.loops == (fn.params.toList ++ s.plain.varTypes P).any (P.loopsFrom ·)) = true)
    (g18 : (c.wideKeys == (fn.params.toList ++ s.plain.varTypes P ++ fn.resultTypes.toList).any (P.wideKeysFrom ·)) = true)
    (g19 : s.vars.all (P.varReadable ·) = true) (g20 : fn.resultTypes.all (fun t => P.readableRec t && decide (t < P.types.size)) = true)
    (g21 : (c.ifacesOut == fn.resultTypes.toList.any (P.ifacesRec ·)) = true) (g22 : (c.loopsOut == fn.resultTypes.toList.any (P.loopsFrom ·)) = true)
    (g23 : (c.plainKeys == P.plainKeys) = true) (g24 : c.shortTexts.isNone = true) (g27 : c.lifted = false) (g28 : c.make = .cut)
    (g29 : (c.kinds == (if c.domain.isEmpty then [] else fn.params.toList.map fun t => match P.underlying t with | some (.int k) => some k | _ => none)) = true) (g30 : (c.pinned == c.pinnedBy) = true)
    (g31 : (c.veiled == (fn.params.toList ++ s.plain.varTypes P ++ fn.resultTypes.toList).any (P.veiledRec ·)) = true)
    (g32 : c.veiledFits P fn.params.toList (fn.params.toList ++ s.plain.varTypes P ++ fn.resultTypes.toList) = true) :
    joinedFacts P f fn s c = true := by
  have e27 : (c.lifted == P.liftsFinal) = true := by rw [g27, fact_lifted]; rfl
  have e28 : (P.make == some c.make) = true := by rw [g28, fact_make]; rfl
  exact and2 (and2 (and2 (and2 (and2 (and2 (and2 (and2 (and2 (and2 (and2 (and2 (and2 (and2 (and2 (and2 (and2 (and2 (and2 (and2 (and2 (and2 (and2 (and2 (and2 (and2 (and2 (and2 (and2 (and2 (and2 g1 fact_laid) fact_mapsRowed) g4) g5) g6) fact_pstops) g8) fact_pknobs) g10) g11) g12) g13) g14) g15) g16) g17) g18) g19) g20) g21) g22) g23) g24) fact_stopsHeard) fact_mayEnter) e27) e28) g29) g30) g31) g32

/-- .. at this program -/
theorem joined_of {f : FuncId} {fn : Func} {s : ChangeSpec} {c : OpenClaim}
    (g1 : c.wf (OpenSpec.ofChange s) = true) (g4 : fn.params.all (Try.prog.readableRec ·) = true) (g5 : namedTie Try.prog c.named s.vars = true) (g6 : (c.stops == []) = true) (g8 : (c.knobs == []) = true)
    (g10 : (c.inPlace == Try.prog.inPlace f) = true) (g11 : (c.unfollowed == Try.prog.unfollowed f) = true) (g12 : (c.recurses == Try.prog.recurses f) = true) (g13 : (c.named == Try.prog.varsNamed f) = true)
    (g14 : (c.maps == (fn.params.toList ++ s.plain.varTypes Try.prog).any (Try.prog.mapsRec ·)) = true) (g15 : (c.ifaces == (fn.params.toList ++ s.plain.varTypes Try.prog).any (Try.prog.ifacesRec ·)) = true)
    (g16 : (c.mapsOut == Try.prog.mapsAmong fn.resultTypes.toList) = true) (g17 : (c.loops == (fn.params.toList ++ s.plain.varTypes Try.prog).any (Try.prog.loopsFrom ·)) = true)
    (g18 : (c.wideKeys == (fn.params.toList ++ s.plain.varTypes Try.prog ++ fn.resultTypes.toList).any (Try.prog.wideKeysFrom ·)) = true)
    (g19 : s.vars.all (Try.prog.varReadable ·) = true) (g20 : fn.resultTypes.all (fun t => Try.prog.readableRec t && decide (t < Try.prog.types.size)) = true)
    (g21 : (c.ifacesOut == fn.resultTypes.toList.any (Try.prog.ifacesRec ·)) = true) (g22 : (c.loopsOut == fn.resultTypes.toList.any (Try.prog.loopsFrom ·)) = true)
    (g23 : (c.plainKeys == Try.prog.plainKeys) = true) (g24 : c.shortTexts.isNone = true) (g27 : c.lifted = false) (g28 : c.make = .cut)
    (g29 : (c.kinds == (if c.domain.isEmpty then [] else fn.params.toList.map fun t => match Try.prog.underlying t with | some (.int k) => some k | _ => none)) = true) (g30 : (c.pinned == c.pinnedBy) = true)
    (g31 : (c.veiled == (fn.params.toList ++ s.plain.varTypes Try.prog ++ fn.resultTypes.toList).any (Try.prog.veiledRec ·)) = true)
    (g32 : c.veiledFits Try.prog fn.params.toList (fn.params.toList ++ s.plain.varTypes Try.prog ++ fn.resultTypes.toList) = true) :
    joinedFacts Try.prog f fn s c = true :=
  joined_gen fact_laid fact_mapsRowed fact_pstops fact_pknobs fact_stopsHeard fact_mayEnter fact_lifted fact_make g1 g4 g5 g6 g8 g10 g11 g12 g13 g14 g15 g16 g17 g18 g19 g20 g21 g22 g23 g24 g27 g28 g29 g30 g31 g32
end Go.Proofs.Ytdelcebkpdnnjaa
