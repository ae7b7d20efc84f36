/-
  No cell of these rows narrows 'for every input' (looked for: loops, veiled, ifaces, maps, wideKeys, modest, calm, conditions, laid).
  DERIVED. THE GIVEN ROWS OF THIS SEAT. 16 by the template 'for every input the law returns true; each argument reads behind the call as it read before'; 0 by the template 'total and deterministic' (their statements: YtebhbcjioolpeabTotals.lean).
  GIVEN WITH THE SEED: the statements are not yours to turn. If you find one false, say at which input.
  Laid BY PROGRAM, IN A SANDBOX (cutbox-rows.mjs): the forced cells as the released guide's own fill.sh prints them over the translation dc36b953273b97df… (all of the seat's roots in one cut). By AI agents, Wed Nov 11 2026. No macro, syntax, notation, axiom, sorry.
-/
import Derived.Test.YtebhbcjioolpeabChecked
import GoSem.Claim
import GoSem.ClaimJoined
import GoSem.ClaimMapViews
import Derived.JoinedTies
import Derived.KernelRfl
namespace Go.Proofs.Ytebhbcjioolpeab
/- THE CELL 'sum', in the pinned program and in every row, IS THE sha256 OF THE DUMP (.gsa) THAT YtebhbcjioolpeabProg.lean LOADS. Nothing in Lean hashes anything: it is a label: what it is worth is what the hold of that sum in a sandbox is worth. -/
noncomputable def Try.pinned : Pinned := { name := "ytebhbcjioolpeab", sum := "dc36b953273b97df2ee7e4b5306d4ddb213c9e2ee360cc732f0b70a262d5ef4c", checked := Try.checked }
namespace Rows
def none {H : Type} : Left H := { results := [], args := [] }

/-- 'laws.FnFixesAt': WHATEVER THE INPUT: true; the input reads as it did. -/
def fnFixesAtSpec : ChangeSpec := { name := "fnFixesAt", fn := fun _ => fun
  | [d] => { results := [.lit (.bool true)], args := [d] }
  | _ => none }
def fnFixesAtRow : OpenClaim := { program := "ytebhbcjioolpeab", sum := "dc36b953273b97df2ee7e4b5306d4ddb213c9e2ee360cc732f0b70a262d5ef4c", func := "loop.example/reliefmaps/laws.FnFixesAt", spec := "fnFixesAt", unfollowed := true, recurses := true, apart := false }
def FnFixesAtSaid : Prop := fnFixesAtRow.holds Try.pinned (OpenSpec.ofChange fnFixesAtSpec)

/-- ITS FALSE NEIGHBOUR: 'it returns false'. Refute it at one input. -/
def fnFixesAtWrong : ChangeSpec := { name := "fnFixesAt", fn := fun _ => fun
  | [d] => { results := [.lit (.bool false)], args := [d] }
  | _ => none }
def FnFixesAtWrongFalsely : Prop := fnFixesAtRow.holds Try.pinned (OpenSpec.ofChange fnFixesAtWrong)

/-- 'laws.FnFixesBack': WHATEVER THE INPUT: true; the input reads as it did. -/
def fnFixesBackSpec : ChangeSpec := { name := "fnFixesBack", fn := fun _ => fun
  | [d] => { results := [.lit (.bool true)], args := [d] }
  | _ => none }
def fnFixesBackRow : OpenClaim := { program := "ytebhbcjioolpeab", sum := "dc36b953273b97df2ee7e4b5306d4ddb213c9e2ee360cc732f0b70a262d5ef4c", func := "loop.example/reliefmaps/laws.FnFixesBack", spec := "fnFixesBack", unfollowed := true, recurses := true, apart := false }
def FnFixesBackSaid : Prop := fnFixesBackRow.holds Try.pinned (OpenSpec.ofChange fnFixesBackSpec)

/-- ITS FALSE NEIGHBOUR: 'it returns false'. Refute it at one input. -/
def fnFixesBackWrong : ChangeSpec := { name := "fnFixesBack", fn := fun _ => fun
  | [d] => { results := [.lit (.bool false)], args := [d] }
  | _ => none }
def FnFixesBackWrongFalsely : Prop := fnFixesBackRow.holds Try.pinned (OpenSpec.ofChange fnFixesBackWrong)

/-- 'laws.FnExactFixesAt': WHATEVER THE INPUT: true; the input reads as it did. -/
def fnExactFixesAtSpec : ChangeSpec := { name := "fnExactFixesAt", fn := fun _ => fun
  | [d1, d2, d3, d4] => { results := [.lit (.bool true)], args := [d1, d2, d3, d4] }
  | _ => none }
def fnExactFixesAtRow : OpenClaim := { program := "ytebhbcjioolpeab", sum := "dc36b953273b97df2ee7e4b5306d4ddb213c9e2ee360cc732f0b70a262d5ef4c", func := "loop.example/reliefmaps/laws.FnExactFixesAt", spec := "fnExactFixesAt", unfollowed := true, recurses := true, apart := false }
def FnExactFixesAtSaid : Prop := fnExactFixesAtRow.holds Try.pinned (OpenSpec.ofChange fnExactFixesAtSpec)

/-- ITS FALSE NEIGHBOUR: 'it returns false'. Refute it at one input. -/
def fnExactFixesAtWrong : ChangeSpec := { name := "fnExactFixesAt", fn := fun _ => fun
  | [d1, d2, d3, d4] => { results := [.lit (.bool false)], args := [d1, d2, d3, d4] }
  | _ => none }
def FnExactFixesAtWrongFalsely : Prop := fnExactFixesAtRow.holds Try.pinned (OpenSpec.ofChange fnExactFixesAtWrong)

/-- 'laws.FnExactFixesAre': WHATEVER THE INPUT: true; the input reads as it did. -/
def fnExactFixesAreSpec : ChangeSpec := { name := "fnExactFixesAre", fn := fun _ => fun
  | [d1, d2] => { results := [.lit (.bool true)], args := [d1, d2] }
  | _ => none }
def fnExactFixesAreRow : OpenClaim := { program := "ytebhbcjioolpeab", sum := "dc36b953273b97df2ee7e4b5306d4ddb213c9e2ee360cc732f0b70a262d5ef4c", func := "loop.example/reliefmaps/laws.FnExactFixesAre", spec := "fnExactFixesAre", unfollowed := true, recurses := true, apart := false }
def FnExactFixesAreSaid : Prop := fnExactFixesAreRow.holds Try.pinned (OpenSpec.ofChange fnExactFixesAreSpec)

/-- ITS FALSE NEIGHBOUR: 'it returns false'. Refute it at one input. -/
def fnExactFixesAreWrong : ChangeSpec := { name := "fnExactFixesAre", fn := fun _ => fun
  | [d1, d2] => { results := [.lit (.bool false)], args := [d1, d2] }
  | _ => none }
def FnExactFixesAreWrongFalsely : Prop := fnExactFixesAreRow.holds Try.pinned (OpenSpec.ofChange fnExactFixesAreWrong)

/-- 'laws.FnExactFixesBack': WHATEVER THE INPUT: true; the input reads as it did. -/
def fnExactFixesBackSpec : ChangeSpec := { name := "fnExactFixesBack", fn := fun _ => fun
  | [d1, d2] => { results := [.lit (.bool true)], args := [d1, d2] }
  | _ => none }
def fnExactFixesBackRow : OpenClaim := { program := "ytebhbcjioolpeab", sum := "dc36b953273b97df2ee7e4b5306d4ddb213c9e2ee360cc732f0b70a262d5ef4c", func := "loop.example/reliefmaps/laws.FnExactFixesBack", spec := "fnExactFixesBack", unfollowed := true, recurses := true, apart := false }
def FnExactFixesBackSaid : Prop := fnExactFixesBackRow.holds Try.pinned (OpenSpec.ofChange fnExactFixesBackSpec)

/-- ITS FALSE NEIGHBOUR: 'it returns false'. Refute it at one input. -/
def fnExactFixesBackWrong : ChangeSpec := { name := "fnExactFixesBack", fn := fun _ => fun
  | [d1, d2] => { results := [.lit (.bool false)], args := [d1, d2] }
  | _ => none }
def FnExactFixesBackWrongFalsely : Prop := fnExactFixesBackRow.holds Try.pinned (OpenSpec.ofChange fnExactFixesBackWrong)

/-- 'laws.FnExactFixesShort': WHATEVER THE INPUT: true; the input reads as it did. -/
def fnExactFixesShortSpec : ChangeSpec := { name := "fnExactFixesShort", fn := fun _ => fun
  | [d1, d2] => { results := [.lit (.bool true)], args := [d1, d2] }
  | _ => none }
def fnExactFixesShortRow : OpenClaim := { program := "ytebhbcjioolpeab", sum := "dc36b953273b97df2ee7e4b5306d4ddb213c9e2ee360cc732f0b70a262d5ef4c", func := "loop.example/reliefmaps/laws.FnExactFixesShort", spec := "fnExactFixesShort", unfollowed := true, recurses := true, apart := false }
def FnExactFixesShortSaid : Prop := fnExactFixesShortRow.holds Try.pinned (OpenSpec.ofChange fnExactFixesShortSpec)

/-- ITS FALSE NEIGHBOUR: 'it returns false'. Refute it at one input. -/
def fnExactFixesShortWrong : ChangeSpec := { name := "fnExactFixesShort", fn := fun _ => fun
  | [d1, d2] => { results := [.lit (.bool false)], args := [d1, d2] }
  | _ => none }
def FnExactFixesShortWrongFalsely : Prop := fnExactFixesShortRow.holds Try.pinned (OpenSpec.ofChange fnExactFixesShortWrong)

/-- 'laws.FnExactFixesClash': WHATEVER THE INPUT: true; the input reads as it did. -/
def fnExactFixesClashSpec : ChangeSpec := { name := "fnExactFixesClash", fn := fun _ => fun
  | [d1, d2, d3] => { results := [.lit (.bool true)], args := [d1, d2, d3] }
  | _ => none }
def fnExactFixesClashRow : OpenClaim := { program := "ytebhbcjioolpeab", sum := "dc36b953273b97df2ee7e4b5306d4ddb213c9e2ee360cc732f0b70a262d5ef4c", func := "loop.example/reliefmaps/laws.FnExactFixesClash", spec := "fnExactFixesClash", unfollowed := true, recurses := true, apart := false }
def FnExactFixesClashSaid : Prop := fnExactFixesClashRow.holds Try.pinned (OpenSpec.ofChange fnExactFixesClashSpec)

/-- ITS FALSE NEIGHBOUR: 'it returns false'. Refute it at one input. -/
def fnExactFixesClashWrong : ChangeSpec := { name := "fnExactFixesClash", fn := fun _ => fun
  | [d1, d2, d3] => { results := [.lit (.bool false)], args := [d1, d2, d3] }
  | _ => none }
def FnExactFixesClashWrongFalsely : Prop := fnExactFixesClashRow.holds Try.pinned (OpenSpec.ofChange fnExactFixesClashWrong)

/-- 'laws.FnFixesMake': WHATEVER THE INPUT: true; the input reads as it did. -/
def fnFixesMakeSpec : ChangeSpec := { name := "fnFixesMake", fn := fun _ => fun
  | [d] => { results := [.lit (.bool true)], args := [d] }
  | _ => none }
def fnFixesMakeRow : OpenClaim := { program := "ytebhbcjioolpeab", sum := "dc36b953273b97df2ee7e4b5306d4ddb213c9e2ee360cc732f0b70a262d5ef4c", func := "loop.example/reliefmaps/laws.FnFixesMake", spec := "fnFixesMake", unfollowed := true, recurses := true, apart := false }
def FnFixesMakeSaid : Prop := fnFixesMakeRow.holds Try.pinned (OpenSpec.ofChange fnFixesMakeSpec)

/-- ITS FALSE NEIGHBOUR: 'it returns false'. Refute it at one input. -/
def fnFixesMakeWrong : ChangeSpec := { name := "fnFixesMake", fn := fun _ => fun
  | [d] => { results := [.lit (.bool false)], args := [d] }
  | _ => none }
def FnFixesMakeWrongFalsely : Prop := fnFixesMakeRow.holds Try.pinned (OpenSpec.ofChange fnFixesMakeWrong)

/-- 'laws.FnFixesShort': WHATEVER THE INPUT: true; the input reads as it did. -/
def fnFixesShortSpec : ChangeSpec := { name := "fnFixesShort", fn := fun _ => fun
  | [d] => { results := [.lit (.bool true)], args := [d] }
  | _ => none }
def fnFixesShortRow : OpenClaim := { program := "ytebhbcjioolpeab", sum := "dc36b953273b97df2ee7e4b5306d4ddb213c9e2ee360cc732f0b70a262d5ef4c", func := "loop.example/reliefmaps/laws.FnFixesShort", spec := "fnFixesShort", unfollowed := true, recurses := true, apart := false }
def FnFixesShortSaid : Prop := fnFixesShortRow.holds Try.pinned (OpenSpec.ofChange fnFixesShortSpec)

/-- ITS FALSE NEIGHBOUR: 'it returns false'. Refute it at one input. -/
def fnFixesShortWrong : ChangeSpec := { name := "fnFixesShort", fn := fun _ => fun
  | [d] => { results := [.lit (.bool false)], args := [d] }
  | _ => none }
def FnFixesShortWrongFalsely : Prop := fnFixesShortRow.holds Try.pinned (OpenSpec.ofChange fnFixesShortWrong)

/-- 'laws.FnFixesClash': WHATEVER THE INPUT: true; the input reads as it did. -/
def fnFixesClashSpec : ChangeSpec := { name := "fnFixesClash", fn := fun _ => fun
  | [d] => { results := [.lit (.bool true)], args := [d] }
  | _ => none }
def fnFixesClashRow : OpenClaim := { program := "ytebhbcjioolpeab", sum := "dc36b953273b97df2ee7e4b5306d4ddb213c9e2ee360cc732f0b70a262d5ef4c", func := "loop.example/reliefmaps/laws.FnFixesClash", spec := "fnFixesClash", unfollowed := true, recurses := true, apart := false }
def FnFixesClashSaid : Prop := fnFixesClashRow.holds Try.pinned (OpenSpec.ofChange fnFixesClashSpec)

/-- ITS FALSE NEIGHBOUR: 'it returns false'. Refute it at one input. -/
def fnFixesClashWrong : ChangeSpec := { name := "fnFixesClash", fn := fun _ => fun
  | [d] => { results := [.lit (.bool false)], args := [d] }
  | _ => none }
def FnFixesClashWrongFalsely : Prop := fnFixesClashRow.holds Try.pinned (OpenSpec.ofChange fnFixesClashWrong)

/-- 'laws.FnFixesBoth': WHATEVER THE INPUT: true; the input reads as it did. -/
def fnFixesBothSpec : ChangeSpec := { name := "fnFixesBoth", fn := fun _ => fun
  | [d] => { results := [.lit (.bool true)], args := [d] }
  | _ => none }
def fnFixesBothRow : OpenClaim := { program := "ytebhbcjioolpeab", sum := "dc36b953273b97df2ee7e4b5306d4ddb213c9e2ee360cc732f0b70a262d5ef4c", func := "loop.example/reliefmaps/laws.FnFixesBoth", spec := "fnFixesBoth", unfollowed := true, recurses := true, apart := false }
def FnFixesBothSaid : Prop := fnFixesBothRow.holds Try.pinned (OpenSpec.ofChange fnFixesBothSpec)

/-- ITS FALSE NEIGHBOUR: 'it returns false'. Refute it at one input. -/
def fnFixesBothWrong : ChangeSpec := { name := "fnFixesBoth", fn := fun _ => fun
  | [d] => { results := [.lit (.bool false)], args := [d] }
  | _ => none }
def FnFixesBothWrongFalsely : Prop := fnFixesBothRow.holds Try.pinned (OpenSpec.ofChange fnFixesBothWrong)

/-- 'laws.FnExactFixesBoth': WHATEVER THE INPUT: true; the input reads as it did. -/
def fnExactFixesBothSpec : ChangeSpec := { name := "fnExactFixesBoth", fn := fun _ => fun
  | [d1, d2, d3] => { results := [.lit (.bool true)], args := [d1, d2, d3] }
  | _ => none }
def fnExactFixesBothRow : OpenClaim := { program := "ytebhbcjioolpeab", sum := "dc36b953273b97df2ee7e4b5306d4ddb213c9e2ee360cc732f0b70a262d5ef4c", func := "loop.example/reliefmaps/laws.FnExactFixesBoth", spec := "fnExactFixesBoth", unfollowed := true, recurses := true, apart := false }
def FnExactFixesBothSaid : Prop := fnExactFixesBothRow.holds Try.pinned (OpenSpec.ofChange fnExactFixesBothSpec)

/-- ITS FALSE NEIGHBOUR: 'it returns false'. Refute it at one input. -/
def fnExactFixesBothWrong : ChangeSpec := { name := "fnExactFixesBoth", fn := fun _ => fun
  | [d1, d2, d3] => { results := [.lit (.bool false)], args := [d1, d2, d3] }
  | _ => none }
def FnExactFixesBothWrongFalsely : Prop := fnExactFixesBothRow.holds Try.pinned (OpenSpec.ofChange fnExactFixesBothWrong)

/-- 'laws.FnFixesCells': WHATEVER THE INPUT: true; the input reads as it did. -/
def fnFixesCellsSpec : ChangeSpec := { name := "fnFixesCells", fn := fun _ => fun
  | [d] => { results := [.lit (.bool true)], args := [d] }
  | _ => none }
def fnFixesCellsRow : OpenClaim := { program := "ytebhbcjioolpeab", sum := "dc36b953273b97df2ee7e4b5306d4ddb213c9e2ee360cc732f0b70a262d5ef4c", func := "loop.example/reliefmaps/laws.FnFixesCells", spec := "fnFixesCells", unfollowed := true, recurses := true, apart := false }
def FnFixesCellsSaid : Prop := fnFixesCellsRow.holds Try.pinned (OpenSpec.ofChange fnFixesCellsSpec)

/-- ITS FALSE NEIGHBOUR: 'it returns false'. Refute it at one input. -/
def fnFixesCellsWrong : ChangeSpec := { name := "fnFixesCells", fn := fun _ => fun
  | [d] => { results := [.lit (.bool false)], args := [d] }
  | _ => none }
def FnFixesCellsWrongFalsely : Prop := fnFixesCellsRow.holds Try.pinned (OpenSpec.ofChange fnFixesCellsWrong)

/-- 'laws.FnExactFixesCells': WHATEVER THE INPUT: true; the input reads as it did. -/
def fnExactFixesCellsSpec : ChangeSpec := { name := "fnExactFixesCells", fn := fun _ => fun
  | [d1, d2] => { results := [.lit (.bool true)], args := [d1, d2] }
  | _ => none }
def fnExactFixesCellsRow : OpenClaim := { program := "ytebhbcjioolpeab", sum := "dc36b953273b97df2ee7e4b5306d4ddb213c9e2ee360cc732f0b70a262d5ef4c", func := "loop.example/reliefmaps/laws.FnExactFixesCells", spec := "fnExactFixesCells", unfollowed := true, recurses := true, apart := false }
def FnExactFixesCellsSaid : Prop := fnExactFixesCellsRow.holds Try.pinned (OpenSpec.ofChange fnExactFixesCellsSpec)

/-- ITS FALSE NEIGHBOUR: 'it returns false'. Refute it at one input. -/
def fnExactFixesCellsWrong : ChangeSpec := { name := "fnExactFixesCells", fn := fun _ => fun
  | [d1, d2] => { results := [.lit (.bool false)], args := [d1, d2] }
  | _ => none }
def FnExactFixesCellsWrongFalsely : Prop := fnExactFixesCellsRow.holds Try.pinned (OpenSpec.ofChange fnExactFixesCellsWrong)

/-- 'laws.FnFixesDo': WHATEVER THE INPUT: true; the input reads as it did. -/
def fnFixesDoSpec : ChangeSpec := { name := "fnFixesDo", fn := fun _ => fun
  | [d] => { results := [.lit (.bool true)], args := [d] }
  | _ => none }
def fnFixesDoRow : OpenClaim := { program := "ytebhbcjioolpeab", sum := "dc36b953273b97df2ee7e4b5306d4ddb213c9e2ee360cc732f0b70a262d5ef4c", func := "loop.example/reliefmaps/laws.FnFixesDo", spec := "fnFixesDo", unfollowed := true, recurses := true, apart := false }
def FnFixesDoSaid : Prop := fnFixesDoRow.holds Try.pinned (OpenSpec.ofChange fnFixesDoSpec)

/-- ITS FALSE NEIGHBOUR: 'it returns false'. Refute it at one input. -/
def fnFixesDoWrong : ChangeSpec := { name := "fnFixesDo", fn := fun _ => fun
  | [d] => { results := [.lit (.bool false)], args := [d] }
  | _ => none }
def FnFixesDoWrongFalsely : Prop := fnFixesDoRow.holds Try.pinned (OpenSpec.ofChange fnFixesDoWrong)

/-- 'laws.FnFixesAre': WHATEVER THE INPUT: true; the input reads as it did. -/
def fnFixesAreSpec : ChangeSpec := { name := "fnFixesAre", fn := fun _ => fun
  | [d] => { results := [.lit (.bool true)], args := [d] }
  | _ => none }
def fnFixesAreRow : OpenClaim := { program := "ytebhbcjioolpeab", sum := "dc36b953273b97df2ee7e4b5306d4ddb213c9e2ee360cc732f0b70a262d5ef4c", func := "loop.example/reliefmaps/laws.FnFixesAre", spec := "fnFixesAre", unfollowed := true, recurses := true, apart := false }
def FnFixesAreSaid : Prop := fnFixesAreRow.holds Try.pinned (OpenSpec.ofChange fnFixesAreSpec)

/-- ITS FALSE NEIGHBOUR: 'it returns false'. Refute it at one input. -/
def fnFixesAreWrong : ChangeSpec := { name := "fnFixesAre", fn := fun _ => fun
  | [d] => { results := [.lit (.bool false)], args := [d] }
  | _ => none }
def FnFixesAreWrongFalsely : Prop := fnFixesAreRow.holds Try.pinned (OpenSpec.ofChange fnFixesAreWrong)

/- THE SECOND FORM. 'bulk': how many values and letters a reading holds, each counted each time it is reached (what is shared counts as often as it is met; a slice's spare places count too). A statement '..UptoSaid' is the law's where the arguments, and the package variables that the reading takes, are together of bulk at most 1048576: NARROWER than '..Said'. Prove '..Said' where nothing that the law and all that it calls make is longer than what came in: it says more and counts as full. Else prove '..UptoSaid'. A law counts once. -/
mutual
def uptoBulk {H : Type} : DataW H → Nat
  | .lit (.string bytes) => bytes.length + 1
  | .lit _ => 1
  | .nil => 1
  | .ptr d => uptoBulk d + 1
  | .slice elems spare => uptoBulkAll elems + uptoBulkAll spare + 1
  | .agg parts => uptoBulkAll parts + 1
  | .iface _ d => uptoBulk d + 1
  | .map entries => uptoBulkEntries entries + 1
  | .held _ => 1
def uptoBulkAll {H : Type} : List (DataW H) → Nat
  | [] => 0
  | d :: r => uptoBulk d + uptoBulkAll r
def uptoBulkEntries {H : Type} : List (Lit × DataW H) → Nat
  | [] => 0
  | x :: r => uptoBulkEntry x + uptoBulkEntries r
def uptoBulkEntry {H : Type} : Lit × DataW H → Nat
  | (.string bytes, d) => bytes.length + uptoBulk d + 1
  | (_, d) => uptoBulk d + 1
 end
def uptoSmall : (H : Type) → List (DataW H) → Bool := fun _ ds => decide (uptoBulkAll ds ≤ 1048576)
def OpenSpec.upto (s : _root_.Go.ChangeSpec) : _root_.Go.OpenSpec := { _root_.Go.OpenSpec.ofChange s with cond := some uptoSmall }

/-- 'laws.FnFixesAt', WHERE WHAT IT READS IS OF BULK AT MOST 1048576: true; the input reads as it did. -/
def fnFixesAtUptoRow : OpenClaim := { program := "ytebhbcjioolpeab", sum := "dc36b953273b97df2ee7e4b5306d4ddb213c9e2ee360cc732f0b70a262d5ef4c", func := "loop.example/reliefmaps/laws.FnFixesAt", spec := "fnFixesAt", unfollowed := true, recurses := true, apart := false, narrowed := true }
def FnFixesAtUptoSaid : Prop := fnFixesAtUptoRow.holds Try.pinned (OpenSpec.upto fnFixesAtSpec)

/-- 'laws.FnFixesBack', WHERE WHAT IT READS IS OF BULK AT MOST 1048576: true; the input reads as it did. -/
def fnFixesBackUptoRow : OpenClaim := { program := "ytebhbcjioolpeab", sum := "dc36b953273b97df2ee7e4b5306d4ddb213c9e2ee360cc732f0b70a262d5ef4c", func := "loop.example/reliefmaps/laws.FnFixesBack", spec := "fnFixesBack", unfollowed := true, recurses := true, apart := false, narrowed := true }
def FnFixesBackUptoSaid : Prop := fnFixesBackUptoRow.holds Try.pinned (OpenSpec.upto fnFixesBackSpec)

/-- 'laws.FnExactFixesAt', WHERE WHAT IT READS IS OF BULK AT MOST 1048576: true; the input reads as it did. -/
def fnExactFixesAtUptoRow : OpenClaim := { program := "ytebhbcjioolpeab", sum := "dc36b953273b97df2ee7e4b5306d4ddb213c9e2ee360cc732f0b70a262d5ef4c", func := "loop.example/reliefmaps/laws.FnExactFixesAt", spec := "fnExactFixesAt", unfollowed := true, recurses := true, apart := false, narrowed := true }
def FnExactFixesAtUptoSaid : Prop := fnExactFixesAtUptoRow.holds Try.pinned (OpenSpec.upto fnExactFixesAtSpec)

/-- 'laws.FnExactFixesAre', WHERE WHAT IT READS IS OF BULK AT MOST 1048576: true; the input reads as it did. -/
def fnExactFixesAreUptoRow : OpenClaim := { program := "ytebhbcjioolpeab", sum := "dc36b953273b97df2ee7e4b5306d4ddb213c9e2ee360cc732f0b70a262d5ef4c", func := "loop.example/reliefmaps/laws.FnExactFixesAre", spec := "fnExactFixesAre", unfollowed := true, recurses := true, apart := false, narrowed := true }
def FnExactFixesAreUptoSaid : Prop := fnExactFixesAreUptoRow.holds Try.pinned (OpenSpec.upto fnExactFixesAreSpec)

/-- 'laws.FnExactFixesBack', WHERE WHAT IT READS IS OF BULK AT MOST 1048576: true; the input reads as it did. -/
def fnExactFixesBackUptoRow : OpenClaim := { program := "ytebhbcjioolpeab", sum := "dc36b953273b97df2ee7e4b5306d4ddb213c9e2ee360cc732f0b70a262d5ef4c", func := "loop.example/reliefmaps/laws.FnExactFixesBack", spec := "fnExactFixesBack", unfollowed := true, recurses := true, apart := false, narrowed := true }
def FnExactFixesBackUptoSaid : Prop := fnExactFixesBackUptoRow.holds Try.pinned (OpenSpec.upto fnExactFixesBackSpec)

/-- 'laws.FnExactFixesShort', WHERE WHAT IT READS IS OF BULK AT MOST 1048576: true; the input reads as it did. -/
def fnExactFixesShortUptoRow : OpenClaim := { program := "ytebhbcjioolpeab", sum := "dc36b953273b97df2ee7e4b5306d4ddb213c9e2ee360cc732f0b70a262d5ef4c", func := "loop.example/reliefmaps/laws.FnExactFixesShort", spec := "fnExactFixesShort", unfollowed := true, recurses := true, apart := false, narrowed := true }
def FnExactFixesShortUptoSaid : Prop := fnExactFixesShortUptoRow.holds Try.pinned (OpenSpec.upto fnExactFixesShortSpec)

/-- 'laws.FnExactFixesClash', WHERE WHAT IT READS IS OF BULK AT MOST 1048576: true; the input reads as it did. -/
def fnExactFixesClashUptoRow : OpenClaim := { program := "ytebhbcjioolpeab", sum := "dc36b953273b97df2ee7e4b5306d4ddb213c9e2ee360cc732f0b70a262d5ef4c", func := "loop.example/reliefmaps/laws.FnExactFixesClash", spec := "fnExactFixesClash", unfollowed := true, recurses := true, apart := false, narrowed := true }
def FnExactFixesClashUptoSaid : Prop := fnExactFixesClashUptoRow.holds Try.pinned (OpenSpec.upto fnExactFixesClashSpec)

/-- 'laws.FnFixesMake', WHERE WHAT IT READS IS OF BULK AT MOST 1048576: true; the input reads as it did. -/
def fnFixesMakeUptoRow : OpenClaim := { program := "ytebhbcjioolpeab", sum := "dc36b953273b97df2ee7e4b5306d4ddb213c9e2ee360cc732f0b70a262d5ef4c", func := "loop.example/reliefmaps/laws.FnFixesMake", spec := "fnFixesMake", unfollowed := true, recurses := true, apart := false, narrowed := true }
def FnFixesMakeUptoSaid : Prop := fnFixesMakeUptoRow.holds Try.pinned (OpenSpec.upto fnFixesMakeSpec)

/-- 'laws.FnFixesShort', WHERE WHAT IT READS IS OF BULK AT MOST 1048576: true; the input reads as it did. -/
def fnFixesShortUptoRow : OpenClaim := { program := "ytebhbcjioolpeab", sum := "dc36b953273b97df2ee7e4b5306d4ddb213c9e2ee360cc732f0b70a262d5ef4c", func := "loop.example/reliefmaps/laws.FnFixesShort", spec := "fnFixesShort", unfollowed := true, recurses := true, apart := false, narrowed := true }
def FnFixesShortUptoSaid : Prop := fnFixesShortUptoRow.holds Try.pinned (OpenSpec.upto fnFixesShortSpec)

/-- 'laws.FnFixesClash', WHERE WHAT IT READS IS OF BULK AT MOST 1048576: true; the input reads as it did. -/
def fnFixesClashUptoRow : OpenClaim := { program := "ytebhbcjioolpeab", sum := "dc36b953273b97df2ee7e4b5306d4ddb213c9e2ee360cc732f0b70a262d5ef4c", func := "loop.example/reliefmaps/laws.FnFixesClash", spec := "fnFixesClash", unfollowed := true, recurses := true, apart := false, narrowed := true }
def FnFixesClashUptoSaid : Prop := fnFixesClashUptoRow.holds Try.pinned (OpenSpec.upto fnFixesClashSpec)

/-- 'laws.FnFixesBoth', WHERE WHAT IT READS IS OF BULK AT MOST 1048576: true; the input reads as it did. -/
def fnFixesBothUptoRow : OpenClaim := { program := "ytebhbcjioolpeab", sum := "dc36b953273b97df2ee7e4b5306d4ddb213c9e2ee360cc732f0b70a262d5ef4c", func := "loop.example/reliefmaps/laws.FnFixesBoth", spec := "fnFixesBoth", unfollowed := true, recurses := true, apart := false, narrowed := true }
def FnFixesBothUptoSaid : Prop := fnFixesBothUptoRow.holds Try.pinned (OpenSpec.upto fnFixesBothSpec)

/-- 'laws.FnExactFixesBoth', WHERE WHAT IT READS IS OF BULK AT MOST 1048576: true; the input reads as it did. -/
def fnExactFixesBothUptoRow : OpenClaim := { program := "ytebhbcjioolpeab", sum := "dc36b953273b97df2ee7e4b5306d4ddb213c9e2ee360cc732f0b70a262d5ef4c", func := "loop.example/reliefmaps/laws.FnExactFixesBoth", spec := "fnExactFixesBoth", unfollowed := true, recurses := true, apart := false, narrowed := true }
def FnExactFixesBothUptoSaid : Prop := fnExactFixesBothUptoRow.holds Try.pinned (OpenSpec.upto fnExactFixesBothSpec)

/-- 'laws.FnFixesCells', WHERE WHAT IT READS IS OF BULK AT MOST 1048576: true; the input reads as it did. -/
def fnFixesCellsUptoRow : OpenClaim := { program := "ytebhbcjioolpeab", sum := "dc36b953273b97df2ee7e4b5306d4ddb213c9e2ee360cc732f0b70a262d5ef4c", func := "loop.example/reliefmaps/laws.FnFixesCells", spec := "fnFixesCells", unfollowed := true, recurses := true, apart := false, narrowed := true }
def FnFixesCellsUptoSaid : Prop := fnFixesCellsUptoRow.holds Try.pinned (OpenSpec.upto fnFixesCellsSpec)

/-- 'laws.FnExactFixesCells', WHERE WHAT IT READS IS OF BULK AT MOST 1048576: true; the input reads as it did. -/
def fnExactFixesCellsUptoRow : OpenClaim := { program := "ytebhbcjioolpeab", sum := "dc36b953273b97df2ee7e4b5306d4ddb213c9e2ee360cc732f0b70a262d5ef4c", func := "loop.example/reliefmaps/laws.FnExactFixesCells", spec := "fnExactFixesCells", unfollowed := true, recurses := true, apart := false, narrowed := true }
def FnExactFixesCellsUptoSaid : Prop := fnExactFixesCellsUptoRow.holds Try.pinned (OpenSpec.upto fnExactFixesCellsSpec)

/-- 'laws.FnFixesDo', WHERE WHAT IT READS IS OF BULK AT MOST 1048576: true; the input reads as it did. -/
def fnFixesDoUptoRow : OpenClaim := { program := "ytebhbcjioolpeab", sum := "dc36b953273b97df2ee7e4b5306d4ddb213c9e2ee360cc732f0b70a262d5ef4c", func := "loop.example/reliefmaps/laws.FnFixesDo", spec := "fnFixesDo", unfollowed := true, recurses := true, apart := false, narrowed := true }
def FnFixesDoUptoSaid : Prop := fnFixesDoUptoRow.holds Try.pinned (OpenSpec.upto fnFixesDoSpec)

/-- 'laws.FnFixesAre', WHERE WHAT IT READS IS OF BULK AT MOST 1048576: true; the input reads as it did. -/
def fnFixesAreUptoRow : OpenClaim := { program := "ytebhbcjioolpeab", sum := "dc36b953273b97df2ee7e4b5306d4ddb213c9e2ee360cc732f0b70a262d5ef4c", func := "loop.example/reliefmaps/laws.FnFixesAre", spec := "fnFixesAre", unfollowed := true, recurses := true, apart := false, narrowed := true }
def FnFixesAreUptoSaid : Prop := fnFixesAreUptoRow.holds Try.pinned (OpenSpec.upto fnFixesAreSpec)

end Rows
end Go.Proofs.Ytebhbcjioolpeab
