/-
  DERIVED. GIVEN WITH THE SEED: THE CARDS: each row of YtfddgmpgpnlppaaDoorRows.lean that lists a variable, with what it lists TIED to the program's text (the seventh form; the later family's looks); each row that meets fmt, with fmt's text TOLD by the authors' own Lean function (tested against real Go, not proved from fmt's source: count such statements apart). THE CARD IS WHAT COUNTS. Prove the row's statement (the work); the ties are given (YtfddgmpgpnlppaaDoorTie.lean); close each card by the builder's one call (the guide's Derived/Test/ToyasCard.lean, 'card_holds'). Laid BY PROGRAM, IN A SANDBOX (cutbox-door.mjs). By AI agents, Wed Nov 11 2026. No macro, syntax, notation, axiom, sorry.
-/
import Derived.Test.YtfddgmpgpnlppaaDoorRows
import GoSem.ClaimSeven
namespace Go.Proofs.YtfddgmpgpnlppaaDoor
namespace Rows

/-- THE TIED CARD OF 'lispproverlaw4.SymbolRaw'. -/
def symbolRawCard : Claim7 := { stood := { row := symbolRawRow, standIns := [], harness := (true, "aa9069eaa1db7d1b52283d9e8443c556f87f894f32e52d31b3d7dbeb1a1d73da"), looks := true }, kinds := [], alts := [], laidByText := true, laidKinds := [.data, .data, .data, .sentinel, .sentinel], laidTests := true, laidLooks := .later }
def SymbolRawCardSaid : Prop := Claim7.holds Tryd.pinned (.plain (OpenSpec.ofChange symbolRawSpec)) symbolRawCard

/-- THE SECOND FORM's CARD OF 'lispproverlaw4.SymbolRaw'. -/
def symbolRawUptoCard : Claim7 := { stood := { row := symbolRawUptoRow, standIns := [], harness := (true, "aa9069eaa1db7d1b52283d9e8443c556f87f894f32e52d31b3d7dbeb1a1d73da"), looks := true }, kinds := [], alts := [], laidByText := true, laidKinds := [.data, .data, .data, .sentinel, .sentinel], laidTests := true, laidLooks := .later }
def SymbolRawUptoCardSaid : Prop := Claim7.holds Tryd.pinned (.plain (OpenSpec.upto symbolRawSpec)) symbolRawUptoCard
end Rows
end Go.Proofs.YtfddgmpgpnlppaaDoor
