/-
  No cell of these rows narrows 'for every input' (looked for: loops, veiled, ifaces, maps, wideKeys, modest, calm, conditions, laid).
  DERIVED. THE GIVEN ROWS OF THIS SEAT. 16 by the template 'for every input the law returns true; each argument reads behind the call as it read before'; 0 by the template 'total and deterministic' (their statements: YtebhbcjioolpeaaTotals.lean).
  GIVEN WITH THE SEED: the statements are not yours to turn. If you find one false, say at which input.
  Laid BY PROGRAM, IN A SANDBOX (cutbox-rows.mjs): the forced cells as the released guide's own fill.sh prints them over the translation bee8e223d756bf98… (all of the seat's roots in one cut). By AI agents, Wed Nov 11 2026. No macro, syntax, notation, axiom, sorry.
-/
import Derived.Test.YtebhbcjioolpeaaChecked
import GoSem.Claim
import GoSem.ClaimJoined
import GoSem.ClaimMapViews
import Derived.JoinedTies
import Derived.KernelRfl
namespace Go.Proofs.Ytebhbcjioolpeaa
/- THE CELL 'sum', in the pinned program and in every row, IS THE sha256 OF THE DUMP (.gsa) THAT YtebhbcjioolpeaaProg.lean LOADS. Nothing in Lean hashes anything: it is a label: what it is worth is what the hold of that sum in a sandbox is worth. -/
noncomputable def Try.pinned : Pinned := { name := "ytebhbcjioolpeaa", sum := "bee8e223d756bf982c398e36f89e353dfe3e27df982e11fba56d4f3bc0ee9aaf", checked := Try.checked }
namespace Rows
def none {H : Type} : Left H := { results := [], args := [] }

/-- 'laws.FnExactGridsGap': WHATEVER THE INPUT: true; the input reads as it did. -/
def fnExactGridsGapSpec : ChangeSpec := { name := "fnExactGridsGap", fn := fun _ => fun
  | [d1, d2] => { results := [.lit (.bool true)], args := [d1, d2] }
  | _ => none }
def fnExactGridsGapRow : OpenClaim := { program := "ytebhbcjioolpeaa", sum := "bee8e223d756bf982c398e36f89e353dfe3e27df982e11fba56d4f3bc0ee9aaf", func := "loop.example/reliefmaps/laws.FnExactGridsGap", spec := "fnExactGridsGap", apart := false }
def FnExactGridsGapSaid : Prop := fnExactGridsGapRow.holds Try.pinned (OpenSpec.ofChange fnExactGridsGapSpec)

/-- ITS FALSE NEIGHBOUR: 'it returns false'. Refute it at one input. -/
def fnExactGridsGapWrong : ChangeSpec := { name := "fnExactGridsGap", fn := fun _ => fun
  | [d1, d2] => { results := [.lit (.bool false)], args := [d1, d2] }
  | _ => none }
def FnExactGridsGapWrongFalsely : Prop := fnExactGridsGapRow.holds Try.pinned (OpenSpec.ofChange fnExactGridsGapWrong)

/-- 'laws.FnExactGridsAgree': WHATEVER THE INPUT: true; the input reads as it did. -/
def fnExactGridsAgreeSpec : ChangeSpec := { name := "fnExactGridsAgree", fn := fun _ => fun
  | [d1, d2] => { results := [.lit (.bool true)], args := [d1, d2] }
  | _ => none }
def fnExactGridsAgreeRow : OpenClaim := { program := "ytebhbcjioolpeaa", sum := "bee8e223d756bf982c398e36f89e353dfe3e27df982e11fba56d4f3bc0ee9aaf", func := "loop.example/reliefmaps/laws.FnExactGridsAgree", spec := "fnExactGridsAgree", apart := false }
def FnExactGridsAgreeSaid : Prop := fnExactGridsAgreeRow.holds Try.pinned (OpenSpec.ofChange fnExactGridsAgreeSpec)

/-- ITS FALSE NEIGHBOUR: 'it returns false'. Refute it at one input. -/
def fnExactGridsAgreeWrong : ChangeSpec := { name := "fnExactGridsAgree", fn := fun _ => fun
  | [d1, d2] => { results := [.lit (.bool false)], args := [d1, d2] }
  | _ => none }
def FnExactGridsAgreeWrongFalsely : Prop := fnExactGridsAgreeRow.holds Try.pinned (OpenSpec.ofChange fnExactGridsAgreeWrong)

/-- 'laws.FnExactEditionFar': WHATEVER THE INPUT: true; the input reads as it did. -/
def fnExactEditionFarSpec : ChangeSpec := { name := "fnExactEditionFar", fn := fun _ => fun
  | [d1, d2] => { results := [.lit (.bool true)], args := [d1, d2] }
  | _ => none }
def fnExactEditionFarRow : OpenClaim := { program := "ytebhbcjioolpeaa", sum := "bee8e223d756bf982c398e36f89e353dfe3e27df982e11fba56d4f3bc0ee9aaf", func := "loop.example/reliefmaps/laws.FnExactEditionFar", spec := "fnExactEditionFar", apart := false }
def FnExactEditionFarSaid : Prop := fnExactEditionFarRow.holds Try.pinned (OpenSpec.ofChange fnExactEditionFarSpec)

/-- ITS FALSE NEIGHBOUR: 'it returns false'. Refute it at one input. -/
def fnExactEditionFarWrong : ChangeSpec := { name := "fnExactEditionFar", fn := fun _ => fun
  | [d1, d2] => { results := [.lit (.bool false)], args := [d1, d2] }
  | _ => none }
def FnExactEditionFarWrongFalsely : Prop := fnExactEditionFarRow.holds Try.pinned (OpenSpec.ofChange fnExactEditionFarWrong)

/-- 'laws.FnExactGridsMend': WHATEVER THE INPUT: true; the input reads as it did. -/
def fnExactGridsMendSpec : ChangeSpec := { name := "fnExactGridsMend", fn := fun _ => fun
  | [d1, d2] => { results := [.lit (.bool true)], args := [d1, d2] }
  | _ => none }
def fnExactGridsMendRow : OpenClaim := { program := "ytebhbcjioolpeaa", sum := "bee8e223d756bf982c398e36f89e353dfe3e27df982e11fba56d4f3bc0ee9aaf", func := "loop.example/reliefmaps/laws.FnExactGridsMend", spec := "fnExactGridsMend", apart := false }
def FnExactGridsMendSaid : Prop := fnExactGridsMendRow.holds Try.pinned (OpenSpec.ofChange fnExactGridsMendSpec)

/-- ITS FALSE NEIGHBOUR: 'it returns false'. Refute it at one input. -/
def fnExactGridsMendWrong : ChangeSpec := { name := "fnExactGridsMend", fn := fun _ => fun
  | [d1, d2] => { results := [.lit (.bool false)], args := [d1, d2] }
  | _ => none }
def FnExactGridsMendWrongFalsely : Prop := fnExactGridsMendRow.holds Try.pinned (OpenSpec.ofChange fnExactGridsMendWrong)

/-- 'laws.FnGridsMend': WHATEVER THE INPUT: true; the input reads as it did. -/
def fnGridsMendSpec : ChangeSpec := { name := "fnGridsMend", fn := fun _ => fun
  | [d] => { results := [.lit (.bool true)], args := [d] }
  | _ => none }
def fnGridsMendRow : OpenClaim := { program := "ytebhbcjioolpeaa", sum := "bee8e223d756bf982c398e36f89e353dfe3e27df982e11fba56d4f3bc0ee9aaf", func := "loop.example/reliefmaps/laws.FnGridsMend", spec := "fnGridsMend", apart := false }
def FnGridsMendSaid : Prop := fnGridsMendRow.holds Try.pinned (OpenSpec.ofChange fnGridsMendSpec)

/-- ITS FALSE NEIGHBOUR: 'it returns false'. Refute it at one input. -/
def fnGridsMendWrong : ChangeSpec := { name := "fnGridsMend", fn := fun _ => fun
  | [d] => { results := [.lit (.bool false)], args := [d] }
  | _ => none }
def FnGridsMendWrongFalsely : Prop := fnGridsMendRow.holds Try.pinned (OpenSpec.ofChange fnGridsMendWrong)

/-- 'laws.FnGridsGap': WHATEVER THE INPUT: true; the input reads as it did. -/
def fnGridsGapSpec : ChangeSpec := { name := "fnGridsGap", fn := fun _ => fun
  | [d] => { results := [.lit (.bool true)], args := [d] }
  | _ => none }
def fnGridsGapRow : OpenClaim := { program := "ytebhbcjioolpeaa", sum := "bee8e223d756bf982c398e36f89e353dfe3e27df982e11fba56d4f3bc0ee9aaf", func := "loop.example/reliefmaps/laws.FnGridsGap", spec := "fnGridsGap", unfollowed := true, recurses := true, apart := false }
def FnGridsGapSaid : Prop := fnGridsGapRow.holds Try.pinned (OpenSpec.ofChange fnGridsGapSpec)

/-- ITS FALSE NEIGHBOUR: 'it returns false'. Refute it at one input. -/
def fnGridsGapWrong : ChangeSpec := { name := "fnGridsGap", fn := fun _ => fun
  | [d] => { results := [.lit (.bool false)], args := [d] }
  | _ => none }
def FnGridsGapWrongFalsely : Prop := fnGridsGapRow.holds Try.pinned (OpenSpec.ofChange fnGridsGapWrong)

/-- 'laws.FnEditionFar': WHATEVER THE INPUT: true; the input reads as it did. -/
def fnEditionFarSpec : ChangeSpec := { name := "fnEditionFar", fn := fun _ => fun
  | [d1, d2] => { results := [.lit (.bool true)], args := [d1, d2] }
  | _ => none }
def fnEditionFarRow : OpenClaim := { program := "ytebhbcjioolpeaa", sum := "bee8e223d756bf982c398e36f89e353dfe3e27df982e11fba56d4f3bc0ee9aaf", func := "loop.example/reliefmaps/laws.FnEditionFar", spec := "fnEditionFar", apart := false }
def FnEditionFarSaid : Prop := fnEditionFarRow.holds Try.pinned (OpenSpec.ofChange fnEditionFarSpec)

/-- ITS FALSE NEIGHBOUR: 'it returns false'. Refute it at one input. -/
def fnEditionFarWrong : ChangeSpec := { name := "fnEditionFar", fn := fun _ => fun
  | [d1, d2] => { results := [.lit (.bool false)], args := [d1, d2] }
  | _ => none }
def FnEditionFarWrongFalsely : Prop := fnEditionFarRow.holds Try.pinned (OpenSpec.ofChange fnEditionFarWrong)

/-- 'laws.FnExactGridsJoin': WHATEVER THE INPUT: true; the input reads as it did. -/
def fnExactGridsJoinSpec : ChangeSpec := { name := "fnExactGridsJoin", fn := fun _ => fun
  | [d1, d2] => { results := [.lit (.bool true)], args := [d1, d2] }
  | _ => none }
def fnExactGridsJoinRow : OpenClaim := { program := "ytebhbcjioolpeaa", sum := "bee8e223d756bf982c398e36f89e353dfe3e27df982e11fba56d4f3bc0ee9aaf", func := "loop.example/reliefmaps/laws.FnExactGridsJoin", spec := "fnExactGridsJoin", unfollowed := true, recurses := true, apart := false }
def FnExactGridsJoinSaid : Prop := fnExactGridsJoinRow.holds Try.pinned (OpenSpec.ofChange fnExactGridsJoinSpec)

/-- ITS FALSE NEIGHBOUR: 'it returns false'. Refute it at one input. -/
def fnExactGridsJoinWrong : ChangeSpec := { name := "fnExactGridsJoin", fn := fun _ => fun
  | [d1, d2] => { results := [.lit (.bool false)], args := [d1, d2] }
  | _ => none }
def FnExactGridsJoinWrongFalsely : Prop := fnExactGridsJoinRow.holds Try.pinned (OpenSpec.ofChange fnExactGridsJoinWrong)

/-- 'laws.FnGridsAgree': WHATEVER THE INPUT: true; the input reads as it did. -/
def fnGridsAgreeSpec : ChangeSpec := { name := "fnGridsAgree", fn := fun _ => fun
  | [d] => { results := [.lit (.bool true)], args := [d] }
  | _ => none }
def fnGridsAgreeRow : OpenClaim := { program := "ytebhbcjioolpeaa", sum := "bee8e223d756bf982c398e36f89e353dfe3e27df982e11fba56d4f3bc0ee9aaf", func := "loop.example/reliefmaps/laws.FnGridsAgree", spec := "fnGridsAgree", unfollowed := true, recurses := true, apart := false }
def FnGridsAgreeSaid : Prop := fnGridsAgreeRow.holds Try.pinned (OpenSpec.ofChange fnGridsAgreeSpec)

/-- ITS FALSE NEIGHBOUR: 'it returns false'. Refute it at one input. -/
def fnGridsAgreeWrong : ChangeSpec := { name := "fnGridsAgree", fn := fun _ => fun
  | [d] => { results := [.lit (.bool false)], args := [d] }
  | _ => none }
def FnGridsAgreeWrongFalsely : Prop := fnGridsAgreeRow.holds Try.pinned (OpenSpec.ofChange fnGridsAgreeWrong)

/-- 'laws.FnGridsJoin': WHATEVER THE INPUT: true; the input reads as it did. -/
def fnGridsJoinSpec : ChangeSpec := { name := "fnGridsJoin", fn := fun _ => fun
  | [d] => { results := [.lit (.bool true)], args := [d] }
  | _ => none }
def fnGridsJoinRow : OpenClaim := { program := "ytebhbcjioolpeaa", sum := "bee8e223d756bf982c398e36f89e353dfe3e27df982e11fba56d4f3bc0ee9aaf", func := "loop.example/reliefmaps/laws.FnGridsJoin", spec := "fnGridsJoin", unfollowed := true, recurses := true, apart := false }
def FnGridsJoinSaid : Prop := fnGridsJoinRow.holds Try.pinned (OpenSpec.ofChange fnGridsJoinSpec)

/-- ITS FALSE NEIGHBOUR: 'it returns false'. Refute it at one input. -/
def fnGridsJoinWrong : ChangeSpec := { name := "fnGridsJoin", fn := fun _ => fun
  | [d] => { results := [.lit (.bool false)], args := [d] }
  | _ => none }
def FnGridsJoinWrongFalsely : Prop := fnGridsJoinRow.holds Try.pinned (OpenSpec.ofChange fnGridsJoinWrong)

/-- 'laws.FnExactFixesMake': WHATEVER THE INPUT: true; the input reads as it did. -/
def fnExactFixesMakeSpec : ChangeSpec := { name := "fnExactFixesMake", fn := fun _ => fun
  | [d1, d2] => { results := [.lit (.bool true)], args := [d1, d2] }
  | _ => none }
def fnExactFixesMakeRow : OpenClaim := { program := "ytebhbcjioolpeaa", sum := "bee8e223d756bf982c398e36f89e353dfe3e27df982e11fba56d4f3bc0ee9aaf", func := "loop.example/reliefmaps/laws.FnExactFixesMake", spec := "fnExactFixesMake", apart := false }
def FnExactFixesMakeSaid : Prop := fnExactFixesMakeRow.holds Try.pinned (OpenSpec.ofChange fnExactFixesMakeSpec)

/-- ITS FALSE NEIGHBOUR: 'it returns false'. Refute it at one input. -/
def fnExactFixesMakeWrong : ChangeSpec := { name := "fnExactFixesMake", fn := fun _ => fun
  | [d1, d2] => { results := [.lit (.bool false)], args := [d1, d2] }
  | _ => none }
def FnExactFixesMakeWrongFalsely : Prop := fnExactFixesMakeRow.holds Try.pinned (OpenSpec.ofChange fnExactFixesMakeWrong)

/-- 'laws.FnExactFixesValid': WHATEVER THE INPUT: true; the input reads as it did. -/
def fnExactFixesValidSpec : ChangeSpec := { name := "fnExactFixesValid", fn := fun _ => fun
  | [d1, d2] => { results := [.lit (.bool true)], args := [d1, d2] }
  | _ => none }
def fnExactFixesValidRow : OpenClaim := { program := "ytebhbcjioolpeaa", sum := "bee8e223d756bf982c398e36f89e353dfe3e27df982e11fba56d4f3bc0ee9aaf", func := "loop.example/reliefmaps/laws.FnExactFixesValid", spec := "fnExactFixesValid", unfollowed := true, recurses := true, apart := false }
def FnExactFixesValidSaid : Prop := fnExactFixesValidRow.holds Try.pinned (OpenSpec.ofChange fnExactFixesValidSpec)

/-- ITS FALSE NEIGHBOUR: 'it returns false'. Refute it at one input. -/
def fnExactFixesValidWrong : ChangeSpec := { name := "fnExactFixesValid", fn := fun _ => fun
  | [d1, d2] => { results := [.lit (.bool false)], args := [d1, d2] }
  | _ => none }
def FnExactFixesValidWrongFalsely : Prop := fnExactFixesValidRow.holds Try.pinned (OpenSpec.ofChange fnExactFixesValidWrong)

/-- 'laws.FnFixes': WHATEVER THE INPUT: true; the input reads as it did. -/
def fnFixesSpec : ChangeSpec := { name := "fnFixes", fn := fun _ => fun
  | [d1, d2] => { results := [.lit (.bool true)], args := [d1, d2] }
  | _ => none }
def fnFixesRow : OpenClaim := { program := "ytebhbcjioolpeaa", sum := "bee8e223d756bf982c398e36f89e353dfe3e27df982e11fba56d4f3bc0ee9aaf", func := "loop.example/reliefmaps/laws.FnFixes", spec := "fnFixes", unfollowed := true, recurses := true, apart := false }
def FnFixesSaid : Prop := fnFixesRow.holds Try.pinned (OpenSpec.ofChange fnFixesSpec)

/-- ITS FALSE NEIGHBOUR: 'it returns false'. Refute it at one input. -/
def fnFixesWrong : ChangeSpec := { name := "fnFixes", fn := fun _ => fun
  | [d1, d2] => { results := [.lit (.bool false)], args := [d1, d2] }
  | _ => none }
def FnFixesWrongFalsely : Prop := fnFixesRow.holds Try.pinned (OpenSpec.ofChange fnFixesWrong)

/-- 'laws.FnExactFixesRise': WHATEVER THE INPUT: true; the input reads as it did. -/
def fnExactFixesRiseSpec : ChangeSpec := { name := "fnExactFixesRise", fn := fun _ => fun
  | [d1, d2] => { results := [.lit (.bool true)], args := [d1, d2] }
  | _ => none }
def fnExactFixesRiseRow : OpenClaim := { program := "ytebhbcjioolpeaa", sum := "bee8e223d756bf982c398e36f89e353dfe3e27df982e11fba56d4f3bc0ee9aaf", func := "loop.example/reliefmaps/laws.FnExactFixesRise", spec := "fnExactFixesRise", unfollowed := true, recurses := true, apart := false }
def FnExactFixesRiseSaid : Prop := fnExactFixesRiseRow.holds Try.pinned (OpenSpec.ofChange fnExactFixesRiseSpec)

/-- ITS FALSE NEIGHBOUR: 'it returns false'. Refute it at one input. -/
def fnExactFixesRiseWrong : ChangeSpec := { name := "fnExactFixesRise", fn := fun _ => fun
  | [d1, d2] => { results := [.lit (.bool false)], args := [d1, d2] }
  | _ => none }
def FnExactFixesRiseWrongFalsely : Prop := fnExactFixesRiseRow.holds Try.pinned (OpenSpec.ofChange fnExactFixesRiseWrong)

/-- 'laws.FnFixesRise': WHATEVER THE INPUT: true; the input reads as it did. -/
def fnFixesRiseSpec : ChangeSpec := { name := "fnFixesRise", fn := fun _ => fun
  | [d1, d2] => { results := [.lit (.bool true)], args := [d1, d2] }
  | _ => none }
def fnFixesRiseRow : OpenClaim := { program := "ytebhbcjioolpeaa", sum := "bee8e223d756bf982c398e36f89e353dfe3e27df982e11fba56d4f3bc0ee9aaf", func := "loop.example/reliefmaps/laws.FnFixesRise", spec := "fnFixesRise", unfollowed := true, recurses := true, apart := false }
def FnFixesRiseSaid : Prop := fnFixesRiseRow.holds Try.pinned (OpenSpec.ofChange fnFixesRiseSpec)

/-- ITS FALSE NEIGHBOUR: 'it returns false'. Refute it at one input. -/
def fnFixesRiseWrong : ChangeSpec := { name := "fnFixesRise", fn := fun _ => fun
  | [d1, d2] => { results := [.lit (.bool false)], args := [d1, d2] }
  | _ => none }
def FnFixesRiseWrongFalsely : Prop := fnFixesRiseRow.holds Try.pinned (OpenSpec.ofChange fnFixesRiseWrong)

/-- 'laws.FnExactFixesDo': WHATEVER THE INPUT: true; the input reads as it did. -/
def fnExactFixesDoSpec : ChangeSpec := { name := "fnExactFixesDo", fn := fun _ => fun
  | [d1, d2] => { results := [.lit (.bool true)], args := [d1, d2] }
  | _ => none }
def fnExactFixesDoRow : OpenClaim := { program := "ytebhbcjioolpeaa", sum := "bee8e223d756bf982c398e36f89e353dfe3e27df982e11fba56d4f3bc0ee9aaf", func := "loop.example/reliefmaps/laws.FnExactFixesDo", spec := "fnExactFixesDo", unfollowed := true, recurses := true, apart := false }
def FnExactFixesDoSaid : Prop := fnExactFixesDoRow.holds Try.pinned (OpenSpec.ofChange fnExactFixesDoSpec)

/-- ITS FALSE NEIGHBOUR: 'it returns false'. Refute it at one input. -/
def fnExactFixesDoWrong : ChangeSpec := { name := "fnExactFixesDo", fn := fun _ => fun
  | [d1, d2] => { results := [.lit (.bool false)], args := [d1, d2] }
  | _ => none }
def FnExactFixesDoWrongFalsely : Prop := fnExactFixesDoRow.holds Try.pinned (OpenSpec.ofChange fnExactFixesDoWrong)

/- THE SECOND FORM. 'bulk': how many values and letters a reading holds, each counted each time it is reached (what is shared counts as often as it is met; a slice's spare places count too). A statement '..UptoSaid' is the law's where the arguments, and the package variables that the reading takes, are together of bulk at most 1048576: NARROWER than '..Said'. Prove '..Said' where nothing that the law and all that it calls make is longer than what came in: it says more and counts as full. Else prove '..UptoSaid'. A law counts once. -/
mutual
def uptoBulk {H : Type} : DataW H → Nat
  | .lit (.string bytes) => bytes.length + 1
  | .lit _ => 1
  | .nil => 1
  | .ptr d => uptoBulk d + 1
  | .slice elems spare => uptoBulkAll elems + uptoBulkAll spare + 1
  | .agg parts => uptoBulkAll parts + 1
  | .iface _ d => uptoBulk d + 1
  | .map entries => uptoBulkEntries entries + 1
  | .held _ => 1
def uptoBulkAll {H : Type} : List (DataW H) → Nat
  | [] => 0
  | d :: r => uptoBulk d + uptoBulkAll r
def uptoBulkEntries {H : Type} : List (Lit × DataW H) → Nat
  | [] => 0
  | x :: r => uptoBulkEntry x + uptoBulkEntries r
def uptoBulkEntry {H : Type} : Lit × DataW H → Nat
  | (.string bytes, d) => bytes.length + uptoBulk d + 1
  | (_, d) => uptoBulk d + 1
 end
def uptoSmall : (H : Type) → List (DataW H) → Bool := fun _ ds => decide (uptoBulkAll ds ≤ 1048576)
def OpenSpec.upto (s : _root_.Go.ChangeSpec) : _root_.Go.OpenSpec := { _root_.Go.OpenSpec.ofChange s with cond := some uptoSmall }

/-- 'laws.FnExactGridsGap', WHERE WHAT IT READS IS OF BULK AT MOST 1048576: true; the input reads as it did. -/
def fnExactGridsGapUptoRow : OpenClaim := { program := "ytebhbcjioolpeaa", sum := "bee8e223d756bf982c398e36f89e353dfe3e27df982e11fba56d4f3bc0ee9aaf", func := "loop.example/reliefmaps/laws.FnExactGridsGap", spec := "fnExactGridsGap", apart := false, narrowed := true }
def FnExactGridsGapUptoSaid : Prop := fnExactGridsGapUptoRow.holds Try.pinned (OpenSpec.upto fnExactGridsGapSpec)

/-- 'laws.FnExactGridsAgree', WHERE WHAT IT READS IS OF BULK AT MOST 1048576: true; the input reads as it did. -/
def fnExactGridsAgreeUptoRow : OpenClaim := { program := "ytebhbcjioolpeaa", sum := "bee8e223d756bf982c398e36f89e353dfe3e27df982e11fba56d4f3bc0ee9aaf", func := "loop.example/reliefmaps/laws.FnExactGridsAgree", spec := "fnExactGridsAgree", apart := false, narrowed := true }
def FnExactGridsAgreeUptoSaid : Prop := fnExactGridsAgreeUptoRow.holds Try.pinned (OpenSpec.upto fnExactGridsAgreeSpec)

/-- 'laws.FnExactEditionFar', WHERE WHAT IT READS IS OF BULK AT MOST 1048576: true; the input reads as it did. -/
def fnExactEditionFarUptoRow : OpenClaim := { program := "ytebhbcjioolpeaa", sum := "bee8e223d756bf982c398e36f89e353dfe3e27df982e11fba56d4f3bc0ee9aaf", func := "loop.example/reliefmaps/laws.FnExactEditionFar", spec := "fnExactEditionFar", apart := false, narrowed := true }
def FnExactEditionFarUptoSaid : Prop := fnExactEditionFarUptoRow.holds Try.pinned (OpenSpec.upto fnExactEditionFarSpec)

/-- 'laws.FnExactGridsMend', WHERE WHAT IT READS IS OF BULK AT MOST 1048576: true; the input reads as it did. -/
def fnExactGridsMendUptoRow : OpenClaim := { program := "ytebhbcjioolpeaa", sum := "bee8e223d756bf982c398e36f89e353dfe3e27df982e11fba56d4f3bc0ee9aaf", func := "loop.example/reliefmaps/laws.FnExactGridsMend", spec := "fnExactGridsMend", apart := false, narrowed := true }
def FnExactGridsMendUptoSaid : Prop := fnExactGridsMendUptoRow.holds Try.pinned (OpenSpec.upto fnExactGridsMendSpec)

/-- 'laws.FnGridsMend', WHERE WHAT IT READS IS OF BULK AT MOST 1048576: true; the input reads as it did. -/
def fnGridsMendUptoRow : OpenClaim := { program := "ytebhbcjioolpeaa", sum := "bee8e223d756bf982c398e36f89e353dfe3e27df982e11fba56d4f3bc0ee9aaf", func := "loop.example/reliefmaps/laws.FnGridsMend", spec := "fnGridsMend", apart := false, narrowed := true }
def FnGridsMendUptoSaid : Prop := fnGridsMendUptoRow.holds Try.pinned (OpenSpec.upto fnGridsMendSpec)

/-- 'laws.FnGridsGap', WHERE WHAT IT READS IS OF BULK AT MOST 1048576: true; the input reads as it did. -/
def fnGridsGapUptoRow : OpenClaim := { program := "ytebhbcjioolpeaa", sum := "bee8e223d756bf982c398e36f89e353dfe3e27df982e11fba56d4f3bc0ee9aaf", func := "loop.example/reliefmaps/laws.FnGridsGap", spec := "fnGridsGap", unfollowed := true, recurses := true, apart := false, narrowed := true }
def FnGridsGapUptoSaid : Prop := fnGridsGapUptoRow.holds Try.pinned (OpenSpec.upto fnGridsGapSpec)

/-- 'laws.FnEditionFar', WHERE WHAT IT READS IS OF BULK AT MOST 1048576: true; the input reads as it did. -/
def fnEditionFarUptoRow : OpenClaim := { program := "ytebhbcjioolpeaa", sum := "bee8e223d756bf982c398e36f89e353dfe3e27df982e11fba56d4f3bc0ee9aaf", func := "loop.example/reliefmaps/laws.FnEditionFar", spec := "fnEditionFar", apart := false, narrowed := true }
def FnEditionFarUptoSaid : Prop := fnEditionFarUptoRow.holds Try.pinned (OpenSpec.upto fnEditionFarSpec)

/-- 'laws.FnExactGridsJoin', WHERE WHAT IT READS IS OF BULK AT MOST 1048576: true; the input reads as it did. -/
def fnExactGridsJoinUptoRow : OpenClaim := { program := "ytebhbcjioolpeaa", sum := "bee8e223d756bf982c398e36f89e353dfe3e27df982e11fba56d4f3bc0ee9aaf", func := "loop.example/reliefmaps/laws.FnExactGridsJoin", spec := "fnExactGridsJoin", unfollowed := true, recurses := true, apart := false, narrowed := true }
def FnExactGridsJoinUptoSaid : Prop := fnExactGridsJoinUptoRow.holds Try.pinned (OpenSpec.upto fnExactGridsJoinSpec)

/-- 'laws.FnGridsAgree', WHERE WHAT IT READS IS OF BULK AT MOST 1048576: true; the input reads as it did. -/
def fnGridsAgreeUptoRow : OpenClaim := { program := "ytebhbcjioolpeaa", sum := "bee8e223d756bf982c398e36f89e353dfe3e27df982e11fba56d4f3bc0ee9aaf", func := "loop.example/reliefmaps/laws.FnGridsAgree", spec := "fnGridsAgree", unfollowed := true, recurses := true, apart := false, narrowed := true }
def FnGridsAgreeUptoSaid : Prop := fnGridsAgreeUptoRow.holds Try.pinned (OpenSpec.upto fnGridsAgreeSpec)

/-- 'laws.FnGridsJoin', WHERE WHAT IT READS IS OF BULK AT MOST 1048576: true; the input reads as it did. -/
def fnGridsJoinUptoRow : OpenClaim := { program := "ytebhbcjioolpeaa", sum := "bee8e223d756bf982c398e36f89e353dfe3e27df982e11fba56d4f3bc0ee9aaf", func := "loop.example/reliefmaps/laws.FnGridsJoin", spec := "fnGridsJoin", unfollowed := true, recurses := true, apart := false, narrowed := true }
def FnGridsJoinUptoSaid : Prop := fnGridsJoinUptoRow.holds Try.pinned (OpenSpec.upto fnGridsJoinSpec)

/-- 'laws.FnExactFixesMake', WHERE WHAT IT READS IS OF BULK AT MOST 1048576: true; the input reads as it did. -/
def fnExactFixesMakeUptoRow : OpenClaim := { program := "ytebhbcjioolpeaa", sum := "bee8e223d756bf982c398e36f89e353dfe3e27df982e11fba56d4f3bc0ee9aaf", func := "loop.example/reliefmaps/laws.FnExactFixesMake", spec := "fnExactFixesMake", apart := false, narrowed := true }
def FnExactFixesMakeUptoSaid : Prop := fnExactFixesMakeUptoRow.holds Try.pinned (OpenSpec.upto fnExactFixesMakeSpec)

/-- 'laws.FnExactFixesValid', WHERE WHAT IT READS IS OF BULK AT MOST 1048576: true; the input reads as it did. -/
def fnExactFixesValidUptoRow : OpenClaim := { program := "ytebhbcjioolpeaa", sum := "bee8e223d756bf982c398e36f89e353dfe3e27df982e11fba56d4f3bc0ee9aaf", func := "loop.example/reliefmaps/laws.FnExactFixesValid", spec := "fnExactFixesValid", unfollowed := true, recurses := true, apart := false, narrowed := true }
def FnExactFixesValidUptoSaid : Prop := fnExactFixesValidUptoRow.holds Try.pinned (OpenSpec.upto fnExactFixesValidSpec)

/-- 'laws.FnFixes', WHERE WHAT IT READS IS OF BULK AT MOST 1048576: true; the input reads as it did. -/
def fnFixesUptoRow : OpenClaim := { program := "ytebhbcjioolpeaa", sum := "bee8e223d756bf982c398e36f89e353dfe3e27df982e11fba56d4f3bc0ee9aaf", func := "loop.example/reliefmaps/laws.FnFixes", spec := "fnFixes", unfollowed := true, recurses := true, apart := false, narrowed := true }
def FnFixesUptoSaid : Prop := fnFixesUptoRow.holds Try.pinned (OpenSpec.upto fnFixesSpec)

/-- 'laws.FnExactFixesRise', WHERE WHAT IT READS IS OF BULK AT MOST 1048576: true; the input reads as it did. -/
def fnExactFixesRiseUptoRow : OpenClaim := { program := "ytebhbcjioolpeaa", sum := "bee8e223d756bf982c398e36f89e353dfe3e27df982e11fba56d4f3bc0ee9aaf", func := "loop.example/reliefmaps/laws.FnExactFixesRise", spec := "fnExactFixesRise", unfollowed := true, recurses := true, apart := false, narrowed := true }
def FnExactFixesRiseUptoSaid : Prop := fnExactFixesRiseUptoRow.holds Try.pinned (OpenSpec.upto fnExactFixesRiseSpec)

/-- 'laws.FnFixesRise', WHERE WHAT IT READS IS OF BULK AT MOST 1048576: true; the input reads as it did. -/
def fnFixesRiseUptoRow : OpenClaim := { program := "ytebhbcjioolpeaa", sum := "bee8e223d756bf982c398e36f89e353dfe3e27df982e11fba56d4f3bc0ee9aaf", func := "loop.example/reliefmaps/laws.FnFixesRise", spec := "fnFixesRise", unfollowed := true, recurses := true, apart := false, narrowed := true }
def FnFixesRiseUptoSaid : Prop := fnFixesRiseUptoRow.holds Try.pinned (OpenSpec.upto fnFixesRiseSpec)

/-- 'laws.FnExactFixesDo', WHERE WHAT IT READS IS OF BULK AT MOST 1048576: true; the input reads as it did. -/
def fnExactFixesDoUptoRow : OpenClaim := { program := "ytebhbcjioolpeaa", sum := "bee8e223d756bf982c398e36f89e353dfe3e27df982e11fba56d4f3bc0ee9aaf", func := "loop.example/reliefmaps/laws.FnExactFixesDo", spec := "fnExactFixesDo", unfollowed := true, recurses := true, apart := false, narrowed := true }
def FnExactFixesDoUptoSaid : Prop := fnExactFixesDoUptoRow.holds Try.pinned (OpenSpec.upto fnExactFixesDoSpec)

end Rows
end Go.Proofs.Ytebhbcjioolpeaa
