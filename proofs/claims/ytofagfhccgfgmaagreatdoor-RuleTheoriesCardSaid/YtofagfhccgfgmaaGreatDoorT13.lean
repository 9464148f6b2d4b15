/- The law RuleTheories of chapter 28 returns true for every list of lists of bytes, and leaves its argument as it was; no conditions but those of the row. Part 13 of 13. -/
import Derived.Test.YtofagfhccgfgmaaGreatDoorT12
set_option linter.unusedVariables false
set_option linter.unusedSimpArgs false
/- RuleTheories: the given statement. -/
set_option maxRecDepth 1000000
namespace Go.Proofs.YtofagfhccgfgmaaGreatDoor.ruleTheories
open Go Go.ChangeShapes Go.WideShapes Go.ChangeAt Go.RowKit Go.Proofs.Ab Go.Proofs.YtofagfhccgfgmaaGreatDoor.Wo
theorem lifted' (os : Os) (started : os.Started) (H : Type) (enc : TypeId × Value → H) (inj : ∀ a b, enc a = enc b → a = b) (F : Stop.Interp) :
    ReturnsInHanded Rows.ruleTheoriesRow.assume Tryz.pinned.checked os 4 .any (Rows.ruleTheoriesRow.pre enc Tryz.pinned.checked.prog Tryz.f4 (OpenSpec.ofChange Rows.ruleTheoriesSpec)) (((OpenSpec.ofChange Rows.ruleTheoriesSpec).at F).post enc Tryz.pinned.checked.prog Tryz.f4 Rows.ruleTheoriesRow.apart Rows.ruleTheoriesRow.fresh Rows.ruleTheoriesRow.handsOn Rows.ruleTheoriesRow.again) := by
  rw [OpenClaim.pre_eq_preRow]
  exact lifted os started H enc F
theorem said : Rows.RuleTheoriesSaid :=
  OpenClaim.holds_of_cond 4 Tryz.f4 rfl rfl rfl rfl rfl rfl rfl ⟨rfl, rfl, rfl, rfl, rfl⟩ rfl rfl rfl rfl rfl jf1 Tryz.func4 jf jf2 jf3 lifted'
theorem plain (f : FuncId) (fn : Func) (hf : Tryz.pinned.checked.prog.funcNamed "lispprover/lispproverlaw28.RuleTheories" = some f) (hfn : Tryz.pinned.checked.prog.funcs[f]? = some fn) :
    true = Tryz.pinned.checked.prog.looks [] ∧ ∀ (j : Nat) t, fn.params[j]? = some t → Tryz.pinned.checked.prog.wantsStandIn t = false := by
  obtain rfl : f = 4 := Option.some.inj ((show Tryz.prog.funcNamed "lispprover/lispproverlaw28.RuleTheories" = some 4 by kernel_rfl).symm.trans hf) |>.symm
  obtain rfl : fn = Tryz.f4 := (Option.some.inj (Tryz.func4.symm.trans hfn)).symm
  refine ⟨by kernel_rfl, fun j t ht => ?_⟩
  rw [Tryz.params4] at ht
  have : t = 65 := by simpa using Array.mem_of_getElem? ht
  subst this
  exact (show Tryz.prog.wantsStandIn 65 = false by kernel_rfl)
theorem card : Rows.RuleTheoriesCardSaid :=
  Claim7.holds_tied_plain_at .later [] _ _ _ _ said (fun _ h => by cases h) (by kernel_rfl) (fun _ h => by cases h) ruleTheories_row_tie rfl ⟨rfl, rfl⟩ (by kernel_rfl) rfl plain (by kernel_rfl)
end Go.Proofs.YtofagfhccgfgmaaGreatDoor.ruleTheories
