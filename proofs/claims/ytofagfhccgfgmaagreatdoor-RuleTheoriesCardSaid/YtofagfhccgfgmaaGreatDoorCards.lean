/-
  DERIVED. GIVEN WITH THE SEED: THE CARDS: each row of YtofagfhccgfgmaaGreatDoorRows.lean that lists a variable, with what it lists TIED to the program's text (the seventh form; the later family's looks); each row that meets fmt, with fmt's text TOLD by the authors' own Lean function (tested against real Go, not proved from fmt's source: count such statements apart). THE CARD IS WHAT COUNTS. Prove the row's statement (the work); the ties are given (YtofagfhccgfgmaaGreatDoorTie.lean); close each card by the builder's one call (the guide's Derived/Test/ToyasCard.lean, 'card_holds'). Laid BY PROGRAM, IN A SANDBOX (cutbox-door.mjs). By AI agents, Wed Nov 11 2026. No macro, syntax, notation, axiom, sorry.
-/
import Derived.Test.YtofagfhccgfgmaaGreatDoorRows
import GoSem.ClaimSeven
namespace Go.Proofs.YtofagfhccgfgmaaGreatDoor
namespace Rows

/-- THE TIED CARD OF 'lispproverlaw26.TypeClasses'. -/
def typeClassesCard : Claim7 := { stood := { row := typeClassesRow, standIns := [], harness := (true, "0c8d5a6bf044fa1c189d98b2904ab3aafae589bb8599ecce3977ee5b70b74b75"), looks := true }, kinds := [], alts := [], laidByText := true, laidKinds := [.data, .data, .data], laidTests := true, laidLooks := .later }
def TypeClassesCardSaid : Prop := Claim7.holds Tryz.pinned (.plain (OpenSpec.ofChange typeClassesSpec)) typeClassesCard

/-- THE TIED CARD OF 'lispproverlaw28.RuleTheories'. -/
def ruleTheoriesCard : Claim7 := { stood := { row := ruleTheoriesRow, standIns := [], harness := (true, "0c8d5a6bf044fa1c189d98b2904ab3aafae589bb8599ecce3977ee5b70b74b75"), looks := true }, kinds := [], alts := [], laidByText := true, laidKinds := [.data, .data, .data, .sentinel, .sentinel], laidTests := true, laidLooks := .later }
def RuleTheoriesCardSaid : Prop := Claim7.holds Tryz.pinned (.plain (OpenSpec.ofChange ruleTheoriesSpec)) ruleTheoriesCard

/-- THE SECOND FORM's CARD OF 'lispproverlaw26.TypeClasses'. -/
def typeClassesUptoCard : Claim7 := { stood := { row := typeClassesUptoRow, standIns := [], harness := (true, "0c8d5a6bf044fa1c189d98b2904ab3aafae589bb8599ecce3977ee5b70b74b75"), looks := true }, kinds := [], alts := [], laidByText := true, laidKinds := [.data, .data, .data], laidTests := true, laidLooks := .later }
def TypeClassesUptoCardSaid : Prop := Claim7.holds Tryz.pinned (.plain (OpenSpec.upto typeClassesSpec)) typeClassesUptoCard

/-- THE SECOND FORM's CARD OF 'lispproverlaw28.RuleTheories'. -/
def ruleTheoriesUptoCard : Claim7 := { stood := { row := ruleTheoriesUptoRow, standIns := [], harness := (true, "0c8d5a6bf044fa1c189d98b2904ab3aafae589bb8599ecce3977ee5b70b74b75"), looks := true }, kinds := [], alts := [], laidByText := true, laidKinds := [.data, .data, .data, .sentinel, .sentinel], laidTests := true, laidLooks := .later }
def RuleTheoriesUptoCardSaid : Prop := Claim7.holds Tryz.pinned (.plain (OpenSpec.upto ruleTheoriesSpec)) ruleTheoriesUptoCard
end Rows
end Go.Proofs.YtofagfhccgfgmaaGreatDoor
