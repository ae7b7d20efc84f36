/-
  No cell of these rows narrows 'for every input' (looked for: loops, veiled, ifaces, maps, wideKeys, modest, calm, conditions, laid).
  DERIVED. THE GIVEN ROWS OF THIS SEAT. 6 by the template 'for every input the law returns true; each argument reads behind the call as it read before'; 0 by the template 'total and deterministic' (their statements: YtdelcebkpdnnjaaTotals.lean).
  GIVEN WITH THE SEED: the statements are not yours to turn. If you find one false, say at which input.
  Laid BY PROGRAM, IN A SANDBOX (cutbox-rows.mjs): the forced cells as the released guide's own fill.sh prints them over the translation b0280bae967a163a… (all of the seat's roots in one cut). By AI agents, Wed Nov 11 2026. No macro, syntax, notation, axiom, sorry.
-/
import Derived.Test.YtdelcebkpdnnjaaChecked
import GoSem.Claim
import GoSem.ClaimJoined
import GoSem.ClaimMapViews
import Derived.JoinedTies
import Derived.KernelRfl
namespace Go.Proofs.Ytdelcebkpdnnjaa
/- THE CELL 'sum', in the pinned program and in every row, IS THE sha256 OF THE DUMP (.gsa) THAT YtdelcebkpdnnjaaProg.lean LOADS. Nothing in Lean hashes anything: it is a label: what it is worth is what the hold of that sum in a sandbox is worth. -/
noncomputable def Try.pinned : Pinned := { name := "ytdelcebkpdnnjaa", sum := "b0280bae967a163aae986347d9da8498dd67db52683cb968248d01ad113154db", checked := Try.checked }
namespace Rows
def none {H : Type} : Left H := { results := [], args := [] }

/-- 'laws.FnFixesCells': WHATEVER THE INPUT: true; the input reads as it did. -/
def fnFixesCellsSpec : ChangeSpec := { name := "fnFixesCells", fn := fun _ => fun
  | [d] => { results := [.lit (.bool true)], args := [d] }
  | _ => none }
def fnFixesCellsRow : OpenClaim := { program := "ytdelcebkpdnnjaa", sum := "b0280bae967a163aae986347d9da8498dd67db52683cb968248d01ad113154db", func := "loop.example/reliefmaps/laws.FnFixesCells", spec := "fnFixesCells", unfollowed := true, recurses := true, apart := false }
def FnFixesCellsSaid : Prop := fnFixesCellsRow.holds Try.pinned (OpenSpec.ofChange fnFixesCellsSpec)

/-- ITS FALSE NEIGHBOUR: 'it returns false'. Refute it at one input. -/
def fnFixesCellsWrong : ChangeSpec := { name := "fnFixesCells", fn := fun _ => fun
  | [d] => { results := [.lit (.bool false)], args := [d] }
  | _ => none }
def FnFixesCellsWrongFalsely : Prop := fnFixesCellsRow.holds Try.pinned (OpenSpec.ofChange fnFixesCellsWrong)

/-- 'laws.FnFixesBoth': WHATEVER THE INPUT: true; the input reads as it did. -/
def fnFixesBothSpec : ChangeSpec := { name := "fnFixesBoth", fn := fun _ => fun
  | [d] => { results := [.lit (.bool true)], args := [d] }
  | _ => none }
def fnFixesBothRow : OpenClaim := { program := "ytdelcebkpdnnjaa", sum := "b0280bae967a163aae986347d9da8498dd67db52683cb968248d01ad113154db", func := "loop.example/reliefmaps/laws.FnFixesBoth", spec := "fnFixesBoth", unfollowed := true, recurses := true, apart := false }
def FnFixesBothSaid : Prop := fnFixesBothRow.holds Try.pinned (OpenSpec.ofChange fnFixesBothSpec)

/-- ITS FALSE NEIGHBOUR: 'it returns false'. Refute it at one input. -/
def fnFixesBothWrong : ChangeSpec := { name := "fnFixesBoth", fn := fun _ => fun
  | [d] => { results := [.lit (.bool false)], args := [d] }
  | _ => none }
def FnFixesBothWrongFalsely : Prop := fnFixesBothRow.holds Try.pinned (OpenSpec.ofChange fnFixesBothWrong)

/-- 'laws.FnExactFixesBoth': WHATEVER THE INPUT: true; the input reads as it did. -/
def fnExactFixesBothSpec : ChangeSpec := { name := "fnExactFixesBoth", fn := fun _ => fun
  | [d1, d2, d3] => { results := [.lit (.bool true)], args := [d1, d2, d3] }
  | _ => none }
def fnExactFixesBothRow : OpenClaim := { program := "ytdelcebkpdnnjaa", sum := "b0280bae967a163aae986347d9da8498dd67db52683cb968248d01ad113154db", func := "loop.example/reliefmaps/laws.FnExactFixesBoth", spec := "fnExactFixesBoth", unfollowed := true, recurses := true, apart := false }
def FnExactFixesBothSaid : Prop := fnExactFixesBothRow.holds Try.pinned (OpenSpec.ofChange fnExactFixesBothSpec)

/-- ITS FALSE NEIGHBOUR: 'it returns false'. Refute it at one input. -/
def fnExactFixesBothWrong : ChangeSpec := { name := "fnExactFixesBoth", fn := fun _ => fun
  | [d1, d2, d3] => { results := [.lit (.bool false)], args := [d1, d2, d3] }
  | _ => none }
def FnExactFixesBothWrongFalsely : Prop := fnExactFixesBothRow.holds Try.pinned (OpenSpec.ofChange fnExactFixesBothWrong)

/-- 'laws.FnExactFixesCells': WHATEVER THE INPUT: true; the input reads as it did. -/
def fnExactFixesCellsSpec : ChangeSpec := { name := "fnExactFixesCells", fn := fun _ => fun
  | [d1, d2] => { results := [.lit (.bool true)], args := [d1, d2] }
  | _ => none }
def fnExactFixesCellsRow : OpenClaim := { program := "ytdelcebkpdnnjaa", sum := "b0280bae967a163aae986347d9da8498dd67db52683cb968248d01ad113154db", func := "loop.example/reliefmaps/laws.FnExactFixesCells", spec := "fnExactFixesCells", unfollowed := true, recurses := true, apart := false }
def FnExactFixesCellsSaid : Prop := fnExactFixesCellsRow.holds Try.pinned (OpenSpec.ofChange fnExactFixesCellsSpec)

/-- ITS FALSE NEIGHBOUR: 'it returns false'. Refute it at one input. -/
def fnExactFixesCellsWrong : ChangeSpec := { name := "fnExactFixesCells", fn := fun _ => fun
  | [d1, d2] => { results := [.lit (.bool false)], args := [d1, d2] }
  | _ => none }
def FnExactFixesCellsWrongFalsely : Prop := fnExactFixesCellsRow.holds Try.pinned (OpenSpec.ofChange fnExactFixesCellsWrong)

/-- 'laws.FnFixesAre': WHATEVER THE INPUT: true; the input reads as it did. -/
def fnFixesAreSpec : ChangeSpec := { name := "fnFixesAre", fn := fun _ => fun
  | [d] => { results := [.lit (.bool true)], args := [d] }
  | _ => none }
def fnFixesAreRow : OpenClaim := { program := "ytdelcebkpdnnjaa", sum := "b0280bae967a163aae986347d9da8498dd67db52683cb968248d01ad113154db", func := "loop.example/reliefmaps/laws.FnFixesAre", spec := "fnFixesAre", unfollowed := true, recurses := true, apart := false }
def FnFixesAreSaid : Prop := fnFixesAreRow.holds Try.pinned (OpenSpec.ofChange fnFixesAreSpec)

/-- ITS FALSE NEIGHBOUR: 'it returns false'. Refute it at one input. -/
def fnFixesAreWrong : ChangeSpec := { name := "fnFixesAre", fn := fun _ => fun
  | [d] => { results := [.lit (.bool false)], args := [d] }
  | _ => none }
def FnFixesAreWrongFalsely : Prop := fnFixesAreRow.holds Try.pinned (OpenSpec.ofChange fnFixesAreWrong)

/-- 'laws.FnFixesDo': WHATEVER THE INPUT: true; the input reads as it did. -/
def fnFixesDoSpec : ChangeSpec := { name := "fnFixesDo", fn := fun _ => fun
  | [d] => { results := [.lit (.bool true)], args := [d] }
  | _ => none }
def fnFixesDoRow : OpenClaim := { program := "ytdelcebkpdnnjaa", sum := "b0280bae967a163aae986347d9da8498dd67db52683cb968248d01ad113154db", func := "loop.example/reliefmaps/laws.FnFixesDo", spec := "fnFixesDo", unfollowed := true, recurses := true, apart := false }
def FnFixesDoSaid : Prop := fnFixesDoRow.holds Try.pinned (OpenSpec.ofChange fnFixesDoSpec)

/-- ITS FALSE NEIGHBOUR: 'it returns false'. Refute it at one input. -/
def fnFixesDoWrong : ChangeSpec := { name := "fnFixesDo", fn := fun _ => fun
  | [d] => { results := [.lit (.bool false)], args := [d] }
  | _ => none }
def FnFixesDoWrongFalsely : Prop := fnFixesDoRow.holds Try.pinned (OpenSpec.ofChange fnFixesDoWrong)

/- THE SECOND FORM. 'bulk': how many values and letters a reading holds, each counted each time it is reached (what is shared counts as often as it is met; a slice's spare places count too). A statement '..UptoSaid' is the law's where the arguments, and the package variables that the reading takes, are together of bulk at most 1048576: NARROWER than '..Said'. Prove '..Said' where nothing that the law and all that it calls make is longer than what came in: it says more and counts as full. Else prove '..UptoSaid'. A law counts once. -/
mutual
def uptoBulk {H : Type} : DataW H → Nat
  | .lit (.string bytes) => bytes.length + 1
  | .lit _ => 1
  | .nil => 1
  | .ptr d => uptoBulk d + 1
  | .slice elems spare => uptoBulkAll elems + uptoBulkAll spare + 1
  | .agg parts => uptoBulkAll parts + 1
  | .iface _ d => uptoBulk d + 1
  | .map entries => uptoBulkEntries entries + 1
  | .held _ => 1
def uptoBulkAll {H : Type} : List (DataW H) → Nat
  | [] => 0
  | d :: r => uptoBulk d + uptoBulkAll r
def uptoBulkEntries {H : Type} : List (Lit × DataW H) → Nat
  | [] => 0
  | x :: r => uptoBulkEntry x + uptoBulkEntries r
def uptoBulkEntry {H : Type} : Lit × DataW H → Nat
  | (.string bytes, d) => bytes.length + uptoBulk d + 1
  | (_, d) => uptoBulk d + 1
 end
def uptoSmall : (H : Type) → List (DataW H) → Bool := fun _ ds => decide (uptoBulkAll ds ≤ 1048576)
def OpenSpec.upto (s : _root_.Go.ChangeSpec) : _root_.Go.OpenSpec := { _root_.Go.OpenSpec.ofChange s with cond := some uptoSmall }

/-- 'laws.FnFixesCells', WHERE WHAT IT READS IS OF BULK AT MOST 1048576: true; the input reads as it did. -/
def fnFixesCellsUptoRow : OpenClaim := { program := "ytdelcebkpdnnjaa", sum := "b0280bae967a163aae986347d9da8498dd67db52683cb968248d01ad113154db", func := "loop.example/reliefmaps/laws.FnFixesCells", spec := "fnFixesCells", unfollowed := true, recurses := true, apart := false, narrowed := true }
def FnFixesCellsUptoSaid : Prop := fnFixesCellsUptoRow.holds Try.pinned (OpenSpec.upto fnFixesCellsSpec)

/-- 'laws.FnFixesBoth', WHERE WHAT IT READS IS OF BULK AT MOST 1048576: true; the input reads as it did. -/
def fnFixesBothUptoRow : OpenClaim := { program := "ytdelcebkpdnnjaa", sum := "b0280bae967a163aae986347d9da8498dd67db52683cb968248d01ad113154db", func := "loop.example/reliefmaps/laws.FnFixesBoth", spec := "fnFixesBoth", unfollowed := true, recurses := true, apart := false, narrowed := true }
def FnFixesBothUptoSaid : Prop := fnFixesBothUptoRow.holds Try.pinned (OpenSpec.upto fnFixesBothSpec)

/-- 'laws.FnExactFixesBoth', WHERE WHAT IT READS IS OF BULK AT MOST 1048576: true; the input reads as it did. -/
def fnExactFixesBothUptoRow : OpenClaim := { program := "ytdelcebkpdnnjaa", sum := "b0280bae967a163aae986347d9da8498dd67db52683cb968248d01ad113154db", func := "loop.example/reliefmaps/laws.FnExactFixesBoth", spec := "fnExactFixesBoth", unfollowed := true, recurses := true, apart := false, narrowed := true }
def FnExactFixesBothUptoSaid : Prop := fnExactFixesBothUptoRow.holds Try.pinned (OpenSpec.upto fnExactFixesBothSpec)

/-- 'laws.FnExactFixesCells', WHERE WHAT IT READS IS OF BULK AT MOST 1048576: true; the input reads as it did. -/
def fnExactFixesCellsUptoRow : OpenClaim := { program := "ytdelcebkpdnnjaa", sum := "b0280bae967a163aae986347d9da8498dd67db52683cb968248d01ad113154db", func := "loop.example/reliefmaps/laws.FnExactFixesCells", spec := "fnExactFixesCells", unfollowed := true, recurses := true, apart := false, narrowed := true }
def FnExactFixesCellsUptoSaid : Prop := fnExactFixesCellsUptoRow.holds Try.pinned (OpenSpec.upto fnExactFixesCellsSpec)

/-- 'laws.FnFixesAre', WHERE WHAT IT READS IS OF BULK AT MOST 1048576: true; the input reads as it did. -/
def fnFixesAreUptoRow : OpenClaim := { program := "ytdelcebkpdnnjaa", sum := "b0280bae967a163aae986347d9da8498dd67db52683cb968248d01ad113154db", func := "loop.example/reliefmaps/laws.FnFixesAre", spec := "fnFixesAre", unfollowed := true, recurses := true, apart := false, narrowed := true }
def FnFixesAreUptoSaid : Prop := fnFixesAreUptoRow.holds Try.pinned (OpenSpec.upto fnFixesAreSpec)

/-- 'laws.FnFixesDo', WHERE WHAT IT READS IS OF BULK AT MOST 1048576: true; the input reads as it did. -/
def fnFixesDoUptoRow : OpenClaim := { program := "ytdelcebkpdnnjaa", sum := "b0280bae967a163aae986347d9da8498dd67db52683cb968248d01ad113154db", func := "loop.example/reliefmaps/laws.FnFixesDo", spec := "fnFixesDo", unfollowed := true, recurses := true, apart := false, narrowed := true }
def FnFixesDoUptoSaid : Prop := fnFixesDoUptoRow.holds Try.pinned (OpenSpec.upto fnFixesDoSpec)

end Rows
end Go.Proofs.Ytdelcebkpdnnjaa
