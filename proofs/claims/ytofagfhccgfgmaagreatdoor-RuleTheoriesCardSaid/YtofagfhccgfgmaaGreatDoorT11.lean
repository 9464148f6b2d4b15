/- The law RuleTheories of chapter 28 returns true for every list of lists of bytes, and leaves its argument as it was; no conditions but those of the row. Part 11 of 13. -/
import Derived.Test.YtofagfhccgfgmaaGreatDoorT10
set_option linter.unusedVariables false
set_option linter.unusedSimpArgs false
/- RuleTheories: the row's closed facts. -/
set_option maxRecDepth 1000000
namespace Go.Proofs.YtofagfhccgfgmaaGreatDoor.ruleTheories
open Go Go.ChangeShapes Go.WideShapes Go.ChangeAt Go.RowKit Go.Proofs.Ab Go.Proofs.YtofagfhccgfgmaaGreatDoor.Wo
theorem jf1 : Tryz.pinned.checked.prog.funcNamed Rows.ruleTheoriesRow.func = some 4 := by kernel_rfl
theorem jf2 : (Tryz.f4.isInstance Tryz.pinned.checked.prog Rows.ruleTheoriesRow.origin Rows.ruleTheoriesRow.targs) := (of_decide_eq_true (by kernel_rfl))
theorem jf3 : (Tryz.f4.isWrapper Tryz.pinned.checked.prog Rows.ruleTheoriesRow.wrapper Rows.ruleTheoriesRow.mainSum) := (by unfold Func.isWrapper; first | (rw [if_pos (by decide +kernel)]; kernel_rfl) | (rw [if_neg (by decide +kernel)]; exact ⟨rfl, rfl⟩))
end Go.Proofs.YtofagfhccgfgmaaGreatDoor.ruleTheories
