/-
  DERIVED. GIVEN WITH THE SEED: THE CARDS: each row of YthjfobafdclafaaDoorRows.lean that lists a variable, with what it lists TIED to the program's text (the seventh form; the later family's looks); each row that meets fmt, with fmt's text TOLD by the authors' own Lean function (tested against real Go, not proved from fmt's source: count such statements apart). THE CARD IS WHAT COUNTS. Prove the row's statement (the work); the ties are given (YthjfobafdclafaaDoorTie.lean); close each card by the builder's one call (the guide's Derived/Test/ToyasCard.lean, 'card_holds'). Laid BY PROGRAM, IN A SANDBOX (cutbox-door.mjs). By AI agents, Wed Nov 11 2026. No macro, syntax, notation, axiom, sorry.
-/
import Derived.Test.YthjfobafdclafaaDoorRows
import GoSem.ClaimSeven
namespace Go.Proofs.YthjfobafdclafaaDoor
namespace Rows

/-- THE TIED CARD OF 'cordonlaw31.SelectorParses'. -/
def selectorParsesCard : Claim7 := { stood := { row := selectorParsesRow, standIns := [], harness := (true, "3d694a9362b517705da46339091b87c2ae3cc6b8a079c39355911648c4b8140f"), looks := false }, kinds := [], alts := [], laidByText := true, laidKinds := [.data, .pinned], laidTests := true, laidLooks := .later }
def SelectorParsesCardSaid : Prop := Claim7.holds Tryd.pinned (.plain (OpenSpec.ofChange selectorParsesSpec)) selectorParsesCard

/-- THE SECOND FORM's CARD OF 'cordonlaw31.SelectorParses'. -/
def selectorParsesUptoCard : Claim7 := { stood := { row := selectorParsesUptoRow, standIns := [], harness := (true, "3d694a9362b517705da46339091b87c2ae3cc6b8a079c39355911648c4b8140f"), looks := false }, kinds := [], alts := [], laidByText := true, laidKinds := [.data, .pinned], laidTests := true, laidLooks := .later }
def SelectorParsesUptoCardSaid : Prop := Claim7.holds Tryd.pinned (.plain (OpenSpec.upto selectorParsesSpec)) selectorParsesUptoCard
end Rows
end Go.Proofs.YthjfobafdclafaaDoor
