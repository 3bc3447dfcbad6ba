/-
  DERIVED. GIVEN WITH THE SEED: THE CARDS: each row of YtnpgeklpkmkjeaaDoorRows.lean that lists a variable, with what it lists TIED to the program's text (the seventh form; the later family's looks); each row that meets fmt, with fmt's text TOLD by the authors' own Lean function (tested against real Go, not proved from fmt's source: count such statements apart). THE CARD IS WHAT COUNTS. Prove the row's statement (the work); the ties are given (YtnpgeklpkmkjeaaDoorTie.lean); close each card by the builder's one call (the guide's Derived/Test/ToyasCard.lean, 'card_holds'). Laid BY PROGRAM, IN A SANDBOX (cutbox-door.mjs). By AI agents, Wed Nov 11 2026. No macro, syntax, notation, axiom, sorry.
-/
import Derived.Test.YtnpgeklpkmkjeaaDoorRows
import GoSem.ClaimSeven
namespace Go.Proofs.YtnpgeklpkmkjeaaDoor
namespace Rows

/-- THE TIED CARD OF 'cordonlaw21.ValueUn'. -/
def valueUnCard : Claim7 := { stood := { row := valueUnRow, standIns := [], harness := (true, "3fca18c9d3a69f52f7326bf0a924b2c8798ca7724c535e9e2feae0ff48381a92"), looks := false }, kinds := [], alts := [], laidByText := true, laidKinds := [.data, .data, .data], laidTests := true, laidLooks := .later }
def ValueUnCardSaid : Prop := Claim7.holds Tryd.pinned (.plain (OpenSpec.ofChange valueUnSpec)) valueUnCard

/-- THE TIED CARD OF 'cordonlaw21.ValueRules'. -/
def valueRulesCard : Claim7 := { stood := { row := valueRulesRow, standIns := [], harness := (true, "3fca18c9d3a69f52f7326bf0a924b2c8798ca7724c535e9e2feae0ff48381a92"), looks := false }, kinds := [], alts := [], laidByText := true, laidKinds := [.data, .data, .data], laidTests := true, laidLooks := .later }
def ValueRulesCardSaid : Prop := Claim7.holds Tryd.pinned (.plain (OpenSpec.ofChange valueRulesSpec)) valueRulesCard

/-- THE TIED CARD OF 'cordonlaw21.ValueMakes'. -/
def valueMakesCard : Claim7 := { stood := { row := valueMakesRow, standIns := [], harness := (true, "3fca18c9d3a69f52f7326bf0a924b2c8798ca7724c535e9e2feae0ff48381a92"), looks := false }, kinds := [], alts := [], laidByText := true, laidKinds := [.data, .data, .data], laidTests := true, laidLooks := .later }
def ValueMakesCardSaid : Prop := Claim7.holds Tryd.pinned (.plain (OpenSpec.ofChange valueMakesSpec)) valueMakesCard

/-- THE SECOND FORM's CARD OF 'cordonlaw21.ValueUn'. -/
def valueUnUptoCard : Claim7 := { stood := { row := valueUnUptoRow, standIns := [], harness := (true, "3fca18c9d3a69f52f7326bf0a924b2c8798ca7724c535e9e2feae0ff48381a92"), looks := false }, kinds := [], alts := [], laidByText := true, laidKinds := [.data, .data, .data], laidTests := true, laidLooks := .later }
def ValueUnUptoCardSaid : Prop := Claim7.holds Tryd.pinned (.plain (OpenSpec.upto valueUnSpec)) valueUnUptoCard

/-- THE SECOND FORM's CARD OF 'cordonlaw21.ValueRules'. -/
def valueRulesUptoCard : Claim7 := { stood := { row := valueRulesUptoRow, standIns := [], harness := (true, "3fca18c9d3a69f52f7326bf0a924b2c8798ca7724c535e9e2feae0ff48381a92"), looks := false }, kinds := [], alts := [], laidByText := true, laidKinds := [.data, .data, .data], laidTests := true, laidLooks := .later }
def ValueRulesUptoCardSaid : Prop := Claim7.holds Tryd.pinned (.plain (OpenSpec.upto valueRulesSpec)) valueRulesUptoCard

/-- THE SECOND FORM's CARD OF 'cordonlaw21.ValueMakes'. -/
def valueMakesUptoCard : Claim7 := { stood := { row := valueMakesUptoRow, standIns := [], harness := (true, "3fca18c9d3a69f52f7326bf0a924b2c8798ca7724c535e9e2feae0ff48381a92"), looks := false }, kinds := [], alts := [], laidByText := true, laidKinds := [.data, .data, .data], laidTests := true, laidLooks := .later }
def ValueMakesUptoCardSaid : Prop := Claim7.holds Tryd.pinned (.plain (OpenSpec.upto valueMakesSpec)) valueMakesUptoCard
end Rows
end Go.Proofs.YtnpgeklpkmkjeaaDoor
