/-
  DERIVED. GIVEN WITH THE SEED: THE CARDS: each row of YtkamcblgpnanlaaDoorRows.lean that lists a variable, with what it lists TIED to the program's text (the seventh form; the later family's looks); each row that meets fmt, with fmt's text TOLD by the authors' own Lean function (tested against real Go, not proved from fmt's source: count such statements apart). THE CARD IS WHAT COUNTS. Prove the row's statement (the work); the ties are given (YtkamcblgpnanlaaDoorTie.lean); close each card by the builder's one call (the guide's Derived/Test/ToyasCard.lean, 'card_holds'). Laid BY PROGRAM, IN A SANDBOX (cutbox-door.mjs). By AI agents, Wed Nov 11 2026. No macro, syntax, notation, axiom, sorry.
-/
import Derived.Test.YtkamcblgpnanlaaDoorRows
import GoSem.ClaimSeven
namespace Go.Proofs.YtkamcblgpnanlaaDoor
namespace Rows

/-- THE TIED CARD OF 'cordonlaw38.DigestWrites'. -/
def digestWritesCard : Claim7 := { stood := { row := digestWritesRow, standIns := [], harness := (true, "44acf4cb4ffeeb3d28a99a655c666143c2d6cf4cd822cd5766ff958f0f24c008"), looks := false }, kinds := [], alts := [], laidByText := true, laidKinds := [.data, .pinned], laidTests := true, laidLooks := .later }
def DigestWritesCardSaid : Prop := Claim7.holds Tryd.pinned (.plain (OpenSpec.ofChange digestWritesSpec)) digestWritesCard

/-- THE TIED CARD OF 'cordonlaw38.DigestOwn'. -/
def digestOwnCard : Claim7 := { stood := { row := digestOwnRow, standIns := [], harness := (true, "44acf4cb4ffeeb3d28a99a655c666143c2d6cf4cd822cd5766ff958f0f24c008"), looks := false }, kinds := [], alts := [], laidByText := true, laidKinds := [.data, .pinned], laidTests := true, laidLooks := .later }
def DigestOwnCardSaid : Prop := Claim7.holds Tryd.pinned (.plain (OpenSpec.ofChange digestOwnSpec)) digestOwnCard

/-- THE TIED CARD OF 'cordonlaw38.DigestWants'. -/
def digestWantsCard : Claim7 := { stood := { row := digestWantsRow, standIns := [], harness := (true, "44acf4cb4ffeeb3d28a99a655c666143c2d6cf4cd822cd5766ff958f0f24c008"), looks := false }, kinds := [], alts := [], laidByText := true, laidKinds := [.data, .pinned], laidTests := true, laidLooks := .later }
def DigestWantsCardSaid : Prop := Claim7.holds Tryd.pinned (.plain (OpenSpec.ofChange digestWantsSpec)) digestWantsCard

/-- THE TIED CARD OF 'cordonlaw21.ValueRules'. -/
def valueRulesCard : Claim7 := { stood := { row := valueRulesRow, standIns := [], harness := (true, "44acf4cb4ffeeb3d28a99a655c666143c2d6cf4cd822cd5766ff958f0f24c008"), looks := false }, kinds := [], alts := [], laidByText := true, laidKinds := [.data, .data, .data], laidTests := true, laidLooks := .later }
def ValueRulesCardSaid : Prop := Claim7.holds Tryd.pinned (.plain (OpenSpec.ofChange valueRulesSpec)) valueRulesCard

/-- THE TIED CARD OF 'cordonlaw21.ValueMakes'. -/
def valueMakesCard : Claim7 := { stood := { row := valueMakesRow, standIns := [], harness := (true, "44acf4cb4ffeeb3d28a99a655c666143c2d6cf4cd822cd5766ff958f0f24c008"), looks := false }, kinds := [], alts := [], laidByText := true, laidKinds := [.data, .data, .data], laidTests := true, laidLooks := .later }
def ValueMakesCardSaid : Prop := Claim7.holds Tryd.pinned (.plain (OpenSpec.ofChange valueMakesSpec)) valueMakesCard

/-- THE TIED CARD OF 'cordonlaw32.PairsBack'. -/
def pairsBackCard : Claim7 := { stood := { row := pairsBackRow, standIns := [], harness := (true, "44acf4cb4ffeeb3d28a99a655c666143c2d6cf4cd822cd5766ff958f0f24c008"), looks := false }, kinds := [], alts := [], laidByText := true, laidKinds := [.data, .pinned], laidTests := true, laidLooks := .later }
def PairsBackCardSaid : Prop := Claim7.holds Tryd.pinned (.plain (OpenSpec.ofChange pairsBackSpec)) pairsBackCard

/-- THE TIED CARD OF 'cordonlaw32.PairsPaths'. -/
def pairsPathsCard : Claim7 := { stood := { row := pairsPathsRow, standIns := [], harness := (true, "44acf4cb4ffeeb3d28a99a655c666143c2d6cf4cd822cd5766ff958f0f24c008"), looks := false }, kinds := [], alts := [], laidByText := true, laidKinds := [.data, .pinned], laidTests := true, laidLooks := .later }
def PairsPathsCardSaid : Prop := Claim7.holds Tryd.pinned (.plain (OpenSpec.ofChange pairsPathsSpec)) pairsPathsCard

/-- THE TIED CARD OF 'cordonlaw32.PairsParses'. -/
def pairsParsesCard : Claim7 := { stood := { row := pairsParsesRow, standIns := [], harness := (true, "44acf4cb4ffeeb3d28a99a655c666143c2d6cf4cd822cd5766ff958f0f24c008"), looks := false }, kinds := [], alts := [], laidByText := true, laidKinds := [.data, .pinned], laidTests := true, laidLooks := .later }
def PairsParsesCardSaid : Prop := Claim7.holds Tryd.pinned (.plain (OpenSpec.ofChange pairsParsesSpec)) pairsParsesCard

/-- THE TIED CARD OF 'cordonlaw11.HeaderTells'. -/
def headerTellsCard : Claim7 := { stood := { row := headerTellsRow, standIns := [], harness := (true, "44acf4cb4ffeeb3d28a99a655c666143c2d6cf4cd822cd5766ff958f0f24c008"), looks := false }, kinds := [], alts := [], laidByText := true, laidKinds := [.data, .pinned], laidTests := true, laidLooks := .later }
def HeaderTellsCardSaid : Prop := Claim7.holds Tryd.pinned (.plain (OpenSpec.ofChange headerTellsSpec)) headerTellsCard

/-- THE TIED CARD OF 'cordonlaw11.HeaderLong'. -/
def headerLongCard : Claim7 := { stood := { row := headerLongRow, standIns := [], harness := (true, "44acf4cb4ffeeb3d28a99a655c666143c2d6cf4cd822cd5766ff958f0f24c008"), looks := false }, kinds := [], alts := [], laidByText := true, laidKinds := [.data, .pinned], laidTests := true, laidLooks := .later }
def HeaderLongCardSaid : Prop := Claim7.holds Tryd.pinned (.plain (OpenSpec.ofChange headerLongSpec)) headerLongCard

/-- THE SECOND FORM's CARD OF 'cordonlaw38.DigestWrites'. -/
def digestWritesUptoCard : Claim7 := { stood := { row := digestWritesUptoRow, standIns := [], harness := (true, "44acf4cb4ffeeb3d28a99a655c666143c2d6cf4cd822cd5766ff958f0f24c008"), looks := false }, kinds := [], alts := [], laidByText := true, laidKinds := [.data, .pinned], laidTests := true, laidLooks := .later }
def DigestWritesUptoCardSaid : Prop := Claim7.holds Tryd.pinned (.plain (OpenSpec.upto digestWritesSpec)) digestWritesUptoCard

/-- THE SECOND FORM's CARD OF 'cordonlaw38.DigestOwn'. -/
def digestOwnUptoCard : Claim7 := { stood := { row := digestOwnUptoRow, standIns := [], harness := (true, "44acf4cb4ffeeb3d28a99a655c666143c2d6cf4cd822cd5766ff958f0f24c008"), looks := false }, kinds := [], alts := [], laidByText := true, laidKinds := [.data, .pinned], laidTests := true, laidLooks := .later }
def DigestOwnUptoCardSaid : Prop := Claim7.holds Tryd.pinned (.plain (OpenSpec.upto digestOwnSpec)) digestOwnUptoCard

/-- THE SECOND FORM's CARD OF 'cordonlaw38.DigestWants'. -/
def digestWantsUptoCard : Claim7 := { stood := { row := digestWantsUptoRow, standIns := [], harness := (true, "44acf4cb4ffeeb3d28a99a655c666143c2d6cf4cd822cd5766ff958f0f24c008"), looks := false }, kinds := [], alts := [], laidByText := true, laidKinds := [.data, .pinned], laidTests := true, laidLooks := .later }
def DigestWantsUptoCardSaid : Prop := Claim7.holds Tryd.pinned (.plain (OpenSpec.upto digestWantsSpec)) digestWantsUptoCard

/-- THE SECOND FORM's CARD OF 'cordonlaw21.ValueRules'. -/
def valueRulesUptoCard : Claim7 := { stood := { row := valueRulesUptoRow, standIns := [], harness := (true, "44acf4cb4ffeeb3d28a99a655c666143c2d6cf4cd822cd5766ff958f0f24c008"), looks := false }, kinds := [], alts := [], laidByText := true, laidKinds := [.data, .data, .data], laidTests := true, laidLooks := .later }
def ValueRulesUptoCardSaid : Prop := Claim7.holds Tryd.pinned (.plain (OpenSpec.upto valueRulesSpec)) valueRulesUptoCard

/-- THE SECOND FORM's CARD OF 'cordonlaw21.ValueMakes'. -/
def valueMakesUptoCard : Claim7 := { stood := { row := valueMakesUptoRow, standIns := [], harness := (true, "44acf4cb4ffeeb3d28a99a655c666143c2d6cf4cd822cd5766ff958f0f24c008"), looks := false }, kinds := [], alts := [], laidByText := true, laidKinds := [.data, .data, .data], laidTests := true, laidLooks := .later }
def ValueMakesUptoCardSaid : Prop := Claim7.holds Tryd.pinned (.plain (OpenSpec.upto valueMakesSpec)) valueMakesUptoCard

/-- THE SECOND FORM's CARD OF 'cordonlaw32.PairsBack'. -/
def pairsBackUptoCard : Claim7 := { stood := { row := pairsBackUptoRow, standIns := [], harness := (true, "44acf4cb4ffeeb3d28a99a655c666143c2d6cf4cd822cd5766ff958f0f24c008"), looks := false }, kinds := [], alts := [], laidByText := true, laidKinds := [.data, .pinned], laidTests := true, laidLooks := .later }
def PairsBackUptoCardSaid : Prop := Claim7.holds Tryd.pinned (.plain (OpenSpec.upto pairsBackSpec)) pairsBackUptoCard

/-- THE SECOND FORM's CARD OF 'cordonlaw32.PairsPaths'. -/
def pairsPathsUptoCard : Claim7 := { stood := { row := pairsPathsUptoRow, standIns := [], harness := (true, "44acf4cb4ffeeb3d28a99a655c666143c2d6cf4cd822cd5766ff958f0f24c008"), looks := false }, kinds := [], alts := [], laidByText := true, laidKinds := [.data, .pinned], laidTests := true, laidLooks := .later }
def PairsPathsUptoCardSaid : Prop := Claim7.holds Tryd.pinned (.plain (OpenSpec.upto pairsPathsSpec)) pairsPathsUptoCard

/-- THE SECOND FORM's CARD OF 'cordonlaw32.PairsParses'. -/
def pairsParsesUptoCard : Claim7 := { stood := { row := pairsParsesUptoRow, standIns := [], harness := (true, "44acf4cb4ffeeb3d28a99a655c666143c2d6cf4cd822cd5766ff958f0f24c008"), looks := false }, kinds := [], alts := [], laidByText := true, laidKinds := [.data, .pinned], laidTests := true, laidLooks := .later }
def PairsParsesUptoCardSaid : Prop := Claim7.holds Tryd.pinned (.plain (OpenSpec.upto pairsParsesSpec)) pairsParsesUptoCard

/-- THE SECOND FORM's CARD OF 'cordonlaw11.HeaderTells'. -/
def headerTellsUptoCard : Claim7 := { stood := { row := headerTellsUptoRow, standIns := [], harness := (true, "44acf4cb4ffeeb3d28a99a655c666143c2d6cf4cd822cd5766ff958f0f24c008"), looks := false }, kinds := [], alts := [], laidByText := true, laidKinds := [.data, .pinned], laidTests := true, laidLooks := .later }
def HeaderTellsUptoCardSaid : Prop := Claim7.holds Tryd.pinned (.plain (OpenSpec.upto headerTellsSpec)) headerTellsUptoCard

/-- THE SECOND FORM's CARD OF 'cordonlaw11.HeaderLong'. -/
def headerLongUptoCard : Claim7 := { stood := { row := headerLongUptoRow, standIns := [], harness := (true, "44acf4cb4ffeeb3d28a99a655c666143c2d6cf4cd822cd5766ff958f0f24c008"), looks := false }, kinds := [], alts := [], laidByText := true, laidKinds := [.data, .pinned], laidTests := true, laidLooks := .later }
def HeaderLongUptoCardSaid : Prop := Claim7.holds Tryd.pinned (.plain (OpenSpec.upto headerLongSpec)) headerLongUptoCard
end Rows
end Go.Proofs.YtkamcblgpnanlaaDoor
