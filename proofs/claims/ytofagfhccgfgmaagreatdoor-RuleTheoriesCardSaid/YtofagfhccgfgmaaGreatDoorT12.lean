/- The law RuleTheories of chapter 28 returns true for every list of lists of bytes, and leaves its argument as it was; no conditions but those of the row. Part 12 of 13. -/
import Derived.Test.YtofagfhccgfgmaaGreatDoorT11
set_option linter.unusedVariables false
set_option linter.unusedSimpArgs false
/- RuleTheories: the row's closed facts, all. -/
set_option maxRecDepth 1000000
namespace Go.Proofs.YtofagfhccgfgmaaGreatDoor.ruleTheories
open Go Go.ChangeShapes Go.WideShapes Go.ChangeAt Go.RowKit Go.Proofs.Ab Go.Proofs.YtofagfhccgfgmaaGreatDoor.Wo
theorem jf : joinedFacts Tryz.pinned.checked.prog 4 Tryz.f4 (OpenSpec.ofChange Rows.ruleTheoriesSpec).bare Rows.ruleTheoriesRow = true := by kernel_rfl
end Go.Proofs.YtofagfhccgfgmaaGreatDoor.ruleTheories
