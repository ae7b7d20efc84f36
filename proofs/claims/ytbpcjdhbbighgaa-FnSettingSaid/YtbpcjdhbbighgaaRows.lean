/-
  No cell of these rows narrows 'for every input' (looked for: loops, veiled, ifaces, maps, wideKeys, modest, calm, conditions, laid).
  DERIVED. THE GIVEN ROWS OF THIS SEAT. 10 by the template 'for every input the law returns true; each argument reads behind the call as it read before'; 0 by the template 'total and deterministic' (their statements: YtbpcjdhbbighgaaTotals.lean).
  GIVEN WITH THE SEED: the statements are not yours to turn. If you find one false, say at which input.
  Laid BY PROGRAM, IN A SANDBOX (cutbox-rows.mjs): the forced cells as the released guide's own fill.sh prints them over the translation f26342dc4e3d4720… (all of the seat's roots in one cut). By AI agents, Wed Nov 11 2026. No macro, syntax, notation, axiom, sorry.
-/
import Derived.Test.YtbpcjdhbbighgaaChecked
import GoSem.Claim
import GoSem.ClaimJoined
import GoSem.ClaimMapViews
import Derived.JoinedTies
import Derived.KernelRfl
namespace Go.Proofs.Ytbpcjdhbbighgaa
/- THE CELL 'sum', in the pinned program and in every row, IS THE sha256 OF THE DUMP (.gsa) THAT YtbpcjdhbbighgaaProg.lean LOADS. Nothing in Lean hashes anything: it is a label: what it is worth is what the hold of that sum in a sandbox is worth. -/
noncomputable def Try.pinned : Pinned := { name := "ytbpcjdhbbighgaa", sum := "f26342dc4e3d47203b754002b22c26a37d91161467c29642b23d90268bbcd026", checked := Try.checked }
namespace Rows
def none {H : Type} : Left H := { results := [], args := [] }

/-- 'laws.FnPlaces': WHATEVER THE INPUT: true; the input reads as it did. -/
def fnPlacesSpec : ChangeSpec := { name := "fnPlaces", fn := fun _ => fun
  | [d] => { results := [.lit (.bool true)], args := [d] }
  | _ => none }
def fnPlacesRow : OpenClaim := { program := "ytbpcjdhbbighgaa", sum := "f26342dc4e3d47203b754002b22c26a37d91161467c29642b23d90268bbcd026", func := "loop.example/reliefmaps/laws.FnPlaces", spec := "fnPlaces", apart := false }
def FnPlacesSaid : Prop := fnPlacesRow.holds Try.pinned (OpenSpec.ofChange fnPlacesSpec)

/-- ITS FALSE NEIGHBOUR: 'it returns false'. Refute it at one input. -/
def fnPlacesWrong : ChangeSpec := { name := "fnPlaces", fn := fun _ => fun
  | [d] => { results := [.lit (.bool false)], args := [d] }
  | _ => none }
def FnPlacesWrongFalsely : Prop := fnPlacesRow.holds Try.pinned (OpenSpec.ofChange fnPlacesWrong)

/-- 'laws.FnLabels': WHATEVER THE INPUT: true; the input reads as it did. -/
def fnLabelsSpec : ChangeSpec := { name := "fnLabels", fn := fun _ => fun
  | [d1, d2] => { results := [.lit (.bool true)], args := [d1, d2] }
  | _ => none }
def fnLabelsRow : OpenClaim := { program := "ytbpcjdhbbighgaa", sum := "f26342dc4e3d47203b754002b22c26a37d91161467c29642b23d90268bbcd026", func := "loop.example/reliefmaps/laws.FnLabels", spec := "fnLabels", apart := false }
def FnLabelsSaid : Prop := fnLabelsRow.holds Try.pinned (OpenSpec.ofChange fnLabelsSpec)

/-- ITS FALSE NEIGHBOUR: 'it returns false'. Refute it at one input. -/
def fnLabelsWrong : ChangeSpec := { name := "fnLabels", fn := fun _ => fun
  | [d1, d2] => { results := [.lit (.bool false)], args := [d1, d2] }
  | _ => none }
def FnLabelsWrongFalsely : Prop := fnLabelsRow.holds Try.pinned (OpenSpec.ofChange fnLabelsWrong)

/-- 'laws.FnExactSettingGreedy': WHATEVER THE INPUT: true; the input reads as it did. -/
def fnExactSettingGreedySpec : ChangeSpec := { name := "fnExactSettingGreedy", fn := fun _ => fun
  | [d] => { results := [.lit (.bool true)], args := [d] }
  | _ => none }
def fnExactSettingGreedyRow : OpenClaim := { program := "ytbpcjdhbbighgaa", sum := "f26342dc4e3d47203b754002b22c26a37d91161467c29642b23d90268bbcd026", func := "loop.example/reliefmaps/laws.FnExactSettingGreedy", spec := "fnExactSettingGreedy", unfollowed := true, recurses := true, apart := false }
def FnExactSettingGreedySaid : Prop := fnExactSettingGreedyRow.holds Try.pinned (OpenSpec.ofChange fnExactSettingGreedySpec)

/-- ITS FALSE NEIGHBOUR: 'it returns false'. Refute it at one input. -/
def fnExactSettingGreedyWrong : ChangeSpec := { name := "fnExactSettingGreedy", fn := fun _ => fun
  | [d] => { results := [.lit (.bool false)], args := [d] }
  | _ => none }
def FnExactSettingGreedyWrongFalsely : Prop := fnExactSettingGreedyRow.holds Try.pinned (OpenSpec.ofChange fnExactSettingGreedyWrong)

/-- 'laws.FnExactSettingText': WHATEVER THE INPUT: true; the input reads as it did. -/
def fnExactSettingTextSpec : ChangeSpec := { name := "fnExactSettingText", fn := fun _ => fun
  | [d1, d2] => { results := [.lit (.bool true)], args := [d1, d2] }
  | _ => none }
def fnExactSettingTextRow : OpenClaim := { program := "ytbpcjdhbbighgaa", sum := "f26342dc4e3d47203b754002b22c26a37d91161467c29642b23d90268bbcd026", func := "loop.example/reliefmaps/laws.FnExactSettingText", spec := "fnExactSettingText", inPlace := ["internal/abi.NoEscape"], recurses := true, apart := false }
def FnExactSettingTextSaid : Prop := fnExactSettingTextRow.holds Try.pinned (OpenSpec.ofChange fnExactSettingTextSpec)

/-- ITS FALSE NEIGHBOUR: 'it returns false'. Refute it at one input. -/
def fnExactSettingTextWrong : ChangeSpec := { name := "fnExactSettingText", fn := fun _ => fun
  | [d1, d2] => { results := [.lit (.bool false)], args := [d1, d2] }
  | _ => none }
def FnExactSettingTextWrongFalsely : Prop := fnExactSettingTextRow.holds Try.pinned (OpenSpec.ofChange fnExactSettingTextWrong)

/-- 'laws.FnSetting': WHATEVER THE INPUT: true; the input reads as it did. -/
def fnSettingSpec : ChangeSpec := { name := "fnSetting", fn := fun _ => fun
  | [d] => { results := [.lit (.bool true)], args := [d] }
  | _ => none }
def fnSettingRow : OpenClaim := { program := "ytbpcjdhbbighgaa", sum := "f26342dc4e3d47203b754002b22c26a37d91161467c29642b23d90268bbcd026", func := "loop.example/reliefmaps/laws.FnSetting", spec := "fnSetting", apart := false }
def FnSettingSaid : Prop := fnSettingRow.holds Try.pinned (OpenSpec.ofChange fnSettingSpec)

/-- ITS FALSE NEIGHBOUR: 'it returns false'. Refute it at one input. -/
def fnSettingWrong : ChangeSpec := { name := "fnSetting", fn := fun _ => fun
  | [d] => { results := [.lit (.bool false)], args := [d] }
  | _ => none }
def FnSettingWrongFalsely : Prop := fnSettingRow.holds Try.pinned (OpenSpec.ofChange fnSettingWrong)

/-- 'laws.FnSettingWeight': WHATEVER THE INPUT: true; the input reads as it did. -/
def fnSettingWeightSpec : ChangeSpec := { name := "fnSettingWeight", fn := fun _ => fun
  | [d] => { results := [.lit (.bool true)], args := [d] }
  | _ => none }
def fnSettingWeightRow : OpenClaim := { program := "ytbpcjdhbbighgaa", sum := "f26342dc4e3d47203b754002b22c26a37d91161467c29642b23d90268bbcd026", func := "loop.example/reliefmaps/laws.FnSettingWeight", spec := "fnSettingWeight", unfollowed := true, recurses := true, apart := false }
def FnSettingWeightSaid : Prop := fnSettingWeightRow.holds Try.pinned (OpenSpec.ofChange fnSettingWeightSpec)

/-- ITS FALSE NEIGHBOUR: 'it returns false'. Refute it at one input. -/
def fnSettingWeightWrong : ChangeSpec := { name := "fnSettingWeight", fn := fun _ => fun
  | [d] => { results := [.lit (.bool false)], args := [d] }
  | _ => none }
def FnSettingWeightWrongFalsely : Prop := fnSettingWeightRow.holds Try.pinned (OpenSpec.ofChange fnSettingWeightWrong)

/-- 'laws.FnSettingText': WHATEVER THE INPUT: true; the input reads as it did. -/
def fnSettingTextSpec : ChangeSpec := { name := "fnSettingText", fn := fun _ => fun
  | [d] => { results := [.lit (.bool true)], args := [d] }
  | _ => none }
def fnSettingTextRow : OpenClaim := { program := "ytbpcjdhbbighgaa", sum := "f26342dc4e3d47203b754002b22c26a37d91161467c29642b23d90268bbcd026", func := "loop.example/reliefmaps/laws.FnSettingText", spec := "fnSettingText", inPlace := ["internal/abi.NoEscape"], recurses := true, apart := false }
def FnSettingTextSaid : Prop := fnSettingTextRow.holds Try.pinned (OpenSpec.ofChange fnSettingTextSpec)

/-- ITS FALSE NEIGHBOUR: 'it returns false'. Refute it at one input. -/
def fnSettingTextWrong : ChangeSpec := { name := "fnSettingText", fn := fun _ => fun
  | [d] => { results := [.lit (.bool false)], args := [d] }
  | _ => none }
def FnSettingTextWrongFalsely : Prop := fnSettingTextRow.holds Try.pinned (OpenSpec.ofChange fnSettingTextWrong)

/-- 'laws.FnSettingGreedy': WHATEVER THE INPUT: true; the input reads as it did. -/
def fnSettingGreedySpec : ChangeSpec := { name := "fnSettingGreedy", fn := fun _ => fun
  | [d] => { results := [.lit (.bool true)], args := [d] }
  | _ => none }
def fnSettingGreedyRow : OpenClaim := { program := "ytbpcjdhbbighgaa", sum := "f26342dc4e3d47203b754002b22c26a37d91161467c29642b23d90268bbcd026", func := "loop.example/reliefmaps/laws.FnSettingGreedy", spec := "fnSettingGreedy", unfollowed := true, recurses := true, apart := false }
def FnSettingGreedySaid : Prop := fnSettingGreedyRow.holds Try.pinned (OpenSpec.ofChange fnSettingGreedySpec)

/-- ITS FALSE NEIGHBOUR: 'it returns false'. Refute it at one input. -/
def fnSettingGreedyWrong : ChangeSpec := { name := "fnSettingGreedy", fn := fun _ => fun
  | [d] => { results := [.lit (.bool false)], args := [d] }
  | _ => none }
def FnSettingGreedyWrongFalsely : Prop := fnSettingGreedyRow.holds Try.pinned (OpenSpec.ofChange fnSettingGreedyWrong)

/-- 'laws.FnSettingMost': WHATEVER THE INPUT: true; the input reads as it did. -/
def fnSettingMostSpec : ChangeSpec := { name := "fnSettingMost", fn := fun _ => fun
  | [d] => { results := [.lit (.bool true)], args := [d] }
  | _ => none }
def fnSettingMostRow : OpenClaim := { program := "ytbpcjdhbbighgaa", sum := "f26342dc4e3d47203b754002b22c26a37d91161467c29642b23d90268bbcd026", func := "loop.example/reliefmaps/laws.FnSettingMost", spec := "fnSettingMost", unfollowed := true, recurses := true, apart := false }
def FnSettingMostSaid : Prop := fnSettingMostRow.holds Try.pinned (OpenSpec.ofChange fnSettingMostSpec)

/-- ITS FALSE NEIGHBOUR: 'it returns false'. Refute it at one input. -/
def fnSettingMostWrong : ChangeSpec := { name := "fnSettingMost", fn := fun _ => fun
  | [d] => { results := [.lit (.bool false)], args := [d] }
  | _ => none }
def FnSettingMostWrongFalsely : Prop := fnSettingMostRow.holds Try.pinned (OpenSpec.ofChange fnSettingMostWrong)

/-- 'laws.FnSettingBest': WHATEVER THE INPUT: true; the input reads as it did. -/
def fnSettingBestSpec : ChangeSpec := { name := "fnSettingBest", fn := fun _ => fun
  | [d] => { results := [.lit (.bool true)], args := [d] }
  | _ => none }
def fnSettingBestRow : OpenClaim := { program := "ytbpcjdhbbighgaa", sum := "f26342dc4e3d47203b754002b22c26a37d91161467c29642b23d90268bbcd026", func := "loop.example/reliefmaps/laws.FnSettingBest", spec := "fnSettingBest", unfollowed := true, recurses := true, apart := false }
def FnSettingBestSaid : Prop := fnSettingBestRow.holds Try.pinned (OpenSpec.ofChange fnSettingBestSpec)

/-- ITS FALSE NEIGHBOUR: 'it returns false'. Refute it at one input. -/
def fnSettingBestWrong : ChangeSpec := { name := "fnSettingBest", fn := fun _ => fun
  | [d] => { results := [.lit (.bool false)], args := [d] }
  | _ => none }
def FnSettingBestWrongFalsely : Prop := fnSettingBestRow.holds Try.pinned (OpenSpec.ofChange fnSettingBestWrong)

/- THE SECOND FORM. 'bulk': how many values and letters a reading holds, each counted each time it is reached (what is shared counts as often as it is met; a slice's spare places count too). A statement '..UptoSaid' is the law's where the arguments, and the package variables that the reading takes, are together of bulk at most 1048576: NARROWER than '..Said'. Prove '..Said' where nothing that the law and all that it calls make is longer than what came in: it says more and counts as full. Else prove '..UptoSaid'. A law counts once. -/
mutual
def uptoBulk {H : Type} : DataW H → Nat
  | .lit (.string bytes) => bytes.length + 1
  | .lit _ => 1
  | .nil => 1
  | .ptr d => uptoBulk d + 1
  | .slice elems spare => uptoBulkAll elems + uptoBulkAll spare + 1
  | .agg parts => uptoBulkAll parts + 1
  | .iface _ d => uptoBulk d + 1
  | .map entries => uptoBulkEntries entries + 1
  | .held _ => 1
def uptoBulkAll {H : Type} : List (DataW H) → Nat
  | [] => 0
  | d :: r => uptoBulk d + uptoBulkAll r
def uptoBulkEntries {H : Type} : List (Lit × DataW H) → Nat
  | [] => 0
  | x :: r => uptoBulkEntry x + uptoBulkEntries r
def uptoBulkEntry {H : Type} : Lit × DataW H → Nat
  | (.string bytes, d) => bytes.length + uptoBulk d + 1
  | (_, d) => uptoBulk d + 1
 end
def uptoSmall : (H : Type) → List (DataW H) → Bool := fun _ ds => decide (uptoBulkAll ds ≤ 1048576)
def OpenSpec.upto (s : _root_.Go.ChangeSpec) : _root_.Go.OpenSpec := { _root_.Go.OpenSpec.ofChange s with cond := some uptoSmall }

/-- 'laws.FnPlaces', WHERE WHAT IT READS IS OF BULK AT MOST 1048576: true; the input reads as it did. -/
def fnPlacesUptoRow : OpenClaim := { program := "ytbpcjdhbbighgaa", sum := "f26342dc4e3d47203b754002b22c26a37d91161467c29642b23d90268bbcd026", func := "loop.example/reliefmaps/laws.FnPlaces", spec := "fnPlaces", apart := false, narrowed := true }
def FnPlacesUptoSaid : Prop := fnPlacesUptoRow.holds Try.pinned (OpenSpec.upto fnPlacesSpec)

/-- 'laws.FnLabels', WHERE WHAT IT READS IS OF BULK AT MOST 1048576: true; the input reads as it did. -/
def fnLabelsUptoRow : OpenClaim := { program := "ytbpcjdhbbighgaa", sum := "f26342dc4e3d47203b754002b22c26a37d91161467c29642b23d90268bbcd026", func := "loop.example/reliefmaps/laws.FnLabels", spec := "fnLabels", apart := false, narrowed := true }
def FnLabelsUptoSaid : Prop := fnLabelsUptoRow.holds Try.pinned (OpenSpec.upto fnLabelsSpec)

/-- 'laws.FnExactSettingGreedy', WHERE WHAT IT READS IS OF BULK AT MOST 1048576: true; the input reads as it did. -/
def fnExactSettingGreedyUptoRow : OpenClaim := { program := "ytbpcjdhbbighgaa", sum := "f26342dc4e3d47203b754002b22c26a37d91161467c29642b23d90268bbcd026", func := "loop.example/reliefmaps/laws.FnExactSettingGreedy", spec := "fnExactSettingGreedy", unfollowed := true, recurses := true, apart := false, narrowed := true }
def FnExactSettingGreedyUptoSaid : Prop := fnExactSettingGreedyUptoRow.holds Try.pinned (OpenSpec.upto fnExactSettingGreedySpec)

/-- 'laws.FnExactSettingText', WHERE WHAT IT READS IS OF BULK AT MOST 1048576: true; the input reads as it did. -/
def fnExactSettingTextUptoRow : OpenClaim := { program := "ytbpcjdhbbighgaa", sum := "f26342dc4e3d47203b754002b22c26a37d91161467c29642b23d90268bbcd026", func := "loop.example/reliefmaps/laws.FnExactSettingText", spec := "fnExactSettingText", inPlace := ["internal/abi.NoEscape"], recurses := true, apart := false, narrowed := true }
def FnExactSettingTextUptoSaid : Prop := fnExactSettingTextUptoRow.holds Try.pinned (OpenSpec.upto fnExactSettingTextSpec)

/-- 'laws.FnSetting', WHERE WHAT IT READS IS OF BULK AT MOST 1048576: true; the input reads as it did. -/
def fnSettingUptoRow : OpenClaim := { program := "ytbpcjdhbbighgaa", sum := "f26342dc4e3d47203b754002b22c26a37d91161467c29642b23d90268bbcd026", func := "loop.example/reliefmaps/laws.FnSetting", spec := "fnSetting", apart := false, narrowed := true }
def FnSettingUptoSaid : Prop := fnSettingUptoRow.holds Try.pinned (OpenSpec.upto fnSettingSpec)

/-- 'laws.FnSettingWeight', WHERE WHAT IT READS IS OF BULK AT MOST 1048576: true; the input reads as it did. -/
def fnSettingWeightUptoRow : OpenClaim := { program := "ytbpcjdhbbighgaa", sum := "f26342dc4e3d47203b754002b22c26a37d91161467c29642b23d90268bbcd026", func := "loop.example/reliefmaps/laws.FnSettingWeight", spec := "fnSettingWeight", unfollowed := true, recurses := true, apart := false, narrowed := true }
def FnSettingWeightUptoSaid : Prop := fnSettingWeightUptoRow.holds Try.pinned (OpenSpec.upto fnSettingWeightSpec)

/-- 'laws.FnSettingText', WHERE WHAT IT READS IS OF BULK AT MOST 1048576: true; the input reads as it did. -/
def fnSettingTextUptoRow : OpenClaim := { program := "ytbpcjdhbbighgaa", sum := "f26342dc4e3d47203b754002b22c26a37d91161467c29642b23d90268bbcd026", func := "loop.example/reliefmaps/laws.FnSettingText", spec := "fnSettingText", inPlace := ["internal/abi.NoEscape"], recurses := true, apart := false, narrowed := true }
def FnSettingTextUptoSaid : Prop := fnSettingTextUptoRow.holds Try.pinned (OpenSpec.upto fnSettingTextSpec)

/-- 'laws.FnSettingGreedy', WHERE WHAT IT READS IS OF BULK AT MOST 1048576: true; the input reads as it did. -/
def fnSettingGreedyUptoRow : OpenClaim := { program := "ytbpcjdhbbighgaa", sum := "f26342dc4e3d47203b754002b22c26a37d91161467c29642b23d90268bbcd026", func := "loop.example/reliefmaps/laws.FnSettingGreedy", spec := "fnSettingGreedy", unfollowed := true, recurses := true, apart := false, narrowed := true }
def FnSettingGreedyUptoSaid : Prop := fnSettingGreedyUptoRow.holds Try.pinned (OpenSpec.upto fnSettingGreedySpec)

/-- 'laws.FnSettingMost', WHERE WHAT IT READS IS OF BULK AT MOST 1048576: true; the input reads as it did. -/
def fnSettingMostUptoRow : OpenClaim := { program := "ytbpcjdhbbighgaa", sum := "f26342dc4e3d47203b754002b22c26a37d91161467c29642b23d90268bbcd026", func := "loop.example/reliefmaps/laws.FnSettingMost", spec := "fnSettingMost", unfollowed := true, recurses := true, apart := false, narrowed := true }
def FnSettingMostUptoSaid : Prop := fnSettingMostUptoRow.holds Try.pinned (OpenSpec.upto fnSettingMostSpec)

/-- 'laws.FnSettingBest', WHERE WHAT IT READS IS OF BULK AT MOST 1048576: true; the input reads as it did. -/
def fnSettingBestUptoRow : OpenClaim := { program := "ytbpcjdhbbighgaa", sum := "f26342dc4e3d47203b754002b22c26a37d91161467c29642b23d90268bbcd026", func := "loop.example/reliefmaps/laws.FnSettingBest", spec := "fnSettingBest", unfollowed := true, recurses := true, apart := false, narrowed := true }
def FnSettingBestUptoSaid : Prop := fnSettingBestUptoRow.holds Try.pinned (OpenSpec.upto fnSettingBestSpec)

end Rows
end Go.Proofs.Ytbpcjdhbbighgaa
