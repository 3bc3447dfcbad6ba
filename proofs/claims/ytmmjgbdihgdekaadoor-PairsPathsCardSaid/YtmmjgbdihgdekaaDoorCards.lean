/-
  DERIVED. GIVEN WITH THE SEED: THE CARDS: each row of YtmmjgbdihgdekaaDoorRows.lean that lists a variable, with what it lists TIED to the program's text (the seventh form; the later family's looks); each row that meets fmt, with fmt's text TOLD by the authors' own Lean function (tested against real Go, not proved from fmt's source: count such statements apart). THE CARD IS WHAT COUNTS. Prove the row's statement (the work); the ties are given (YtmmjgbdihgdekaaDoorTie.lean); close each card by the builder's one call (the guide's Derived/Test/ToyasCard.lean, 'card_holds'). Laid BY PROGRAM, IN A SANDBOX (cutbox-door.mjs). By AI agents, Wed Nov 11 2026. No macro, syntax, notation, axiom, sorry.
-/
import Derived.Test.YtmmjgbdihgdekaaDoorRows
import GoSem.ClaimSeven
namespace Go.Proofs.YtmmjgbdihgdekaaDoor
namespace Rows

/-- THE TIED CARD OF 'cordonlaw38.DigestWants'. -/
def digestWantsCard : Claim7 := { stood := { row := digestWantsRow, standIns := [], harness := (true, "e114bd3c6cc0b0ac5b6d727cb267995d9f8ea025160cd289e84bd9edd306e0ea"), looks := false }, kinds := [], alts := [], laidByText := true, laidKinds := [.data, .pinned], laidTests := true, laidLooks := .later }
def DigestWantsCardSaid : Prop := Claim7.holds Tryd.pinned (.plain (OpenSpec.ofChange digestWantsSpec)) digestWantsCard

/-- THE TIED CARD OF 'cordonlaw32.PairsBack'. -/
def pairsBackCard : Claim7 := { stood := { row := pairsBackRow, standIns := [], harness := (true, "e114bd3c6cc0b0ac5b6d727cb267995d9f8ea025160cd289e84bd9edd306e0ea"), looks := false }, kinds := [], alts := [], laidByText := true, laidKinds := [.data, .pinned], laidTests := true, laidLooks := .later }
def PairsBackCardSaid : Prop := Claim7.holds Tryd.pinned (.plain (OpenSpec.ofChange pairsBackSpec)) pairsBackCard

/-- THE TIED CARD OF 'cordonlaw32.PairsPaths'. -/
def pairsPathsCard : Claim7 := { stood := { row := pairsPathsRow, standIns := [], harness := (true, "e114bd3c6cc0b0ac5b6d727cb267995d9f8ea025160cd289e84bd9edd306e0ea"), looks := false }, kinds := [], alts := [], laidByText := true, laidKinds := [.data, .pinned], laidTests := true, laidLooks := .later }
def PairsPathsCardSaid : Prop := Claim7.holds Tryd.pinned (.plain (OpenSpec.ofChange pairsPathsSpec)) pairsPathsCard

/-- THE TIED CARD OF 'cordonlaw32.PairsParses'. -/
def pairsParsesCard : Claim7 := { stood := { row := pairsParsesRow, standIns := [], harness := (true, "e114bd3c6cc0b0ac5b6d727cb267995d9f8ea025160cd289e84bd9edd306e0ea"), looks := false }, kinds := [], alts := [], laidByText := true, laidKinds := [.data, .pinned], laidTests := true, laidLooks := .later }
def PairsParsesCardSaid : Prop := Claim7.holds Tryd.pinned (.plain (OpenSpec.ofChange pairsParsesSpec)) pairsParsesCard

/-- THE TIED CARD OF 'cordonlaw11.HeaderTells'. -/
def headerTellsCard : Claim7 := { stood := { row := headerTellsRow, standIns := [], harness := (true, "e114bd3c6cc0b0ac5b6d727cb267995d9f8ea025160cd289e84bd9edd306e0ea"), looks := false }, kinds := [], alts := [], laidByText := true, laidKinds := [.data, .pinned], laidTests := true, laidLooks := .later }
def HeaderTellsCardSaid : Prop := Claim7.holds Tryd.pinned (.plain (OpenSpec.ofChange headerTellsSpec)) headerTellsCard

/-- THE TIED CARD OF 'cordonlaw11.HeaderLong'. -/
def headerLongCard : Claim7 := { stood := { row := headerLongRow, standIns := [], harness := (true, "e114bd3c6cc0b0ac5b6d727cb267995d9f8ea025160cd289e84bd9edd306e0ea"), looks := false }, kinds := [], alts := [], laidByText := true, laidKinds := [.data, .pinned], laidTests := true, laidLooks := .later }
def HeaderLongCardSaid : Prop := Claim7.holds Tryd.pinned (.plain (OpenSpec.ofChange headerLongSpec)) headerLongCard

/-- THE TIED CARD OF 'cordonlaw11.HeaderParses'. -/
def headerParsesCard : Claim7 := { stood := { row := headerParsesRow, standIns := [], harness := (true, "e114bd3c6cc0b0ac5b6d727cb267995d9f8ea025160cd289e84bd9edd306e0ea"), looks := false }, kinds := [], alts := [], laidByText := true, laidKinds := [.data, .pinned], laidTests := true, laidLooks := .later }
def HeaderParsesCardSaid : Prop := Claim7.holds Tryd.pinned (.plain (OpenSpec.ofChange headerParsesSpec)) headerParsesCard

/-- THE TIED CARD OF 'cordonlaw11.HeaderBack'. -/
def headerBackCard : Claim7 := { stood := { row := headerBackRow, standIns := [], harness := (true, "e114bd3c6cc0b0ac5b6d727cb267995d9f8ea025160cd289e84bd9edd306e0ea"), looks := false }, kinds := [], alts := [], laidByText := true, laidKinds := [.data, .pinned], laidTests := true, laidLooks := .later }
def HeaderBackCardSaid : Prop := Claim7.holds Tryd.pinned (.plain (OpenSpec.ofChange headerBackSpec)) headerBackCard

/-- THE SECOND FORM's CARD OF 'cordonlaw38.DigestWants'. -/
def digestWantsUptoCard : Claim7 := { stood := { row := digestWantsUptoRow, standIns := [], harness := (true, "e114bd3c6cc0b0ac5b6d727cb267995d9f8ea025160cd289e84bd9edd306e0ea"), looks := false }, kinds := [], alts := [], laidByText := true, laidKinds := [.data, .pinned], laidTests := true, laidLooks := .later }
def DigestWantsUptoCardSaid : Prop := Claim7.holds Tryd.pinned (.plain (OpenSpec.upto digestWantsSpec)) digestWantsUptoCard

/-- THE SECOND FORM's CARD OF 'cordonlaw32.PairsBack'. -/
def pairsBackUptoCard : Claim7 := { stood := { row := pairsBackUptoRow, standIns := [], harness := (true, "e114bd3c6cc0b0ac5b6d727cb267995d9f8ea025160cd289e84bd9edd306e0ea"), looks := false }, kinds := [], alts := [], laidByText := true, laidKinds := [.data, .pinned], laidTests := true, laidLooks := .later }
def PairsBackUptoCardSaid : Prop := Claim7.holds Tryd.pinned (.plain (OpenSpec.upto pairsBackSpec)) pairsBackUptoCard

/-- THE SECOND FORM's CARD OF 'cordonlaw32.PairsPaths'. -/
def pairsPathsUptoCard : Claim7 := { stood := { row := pairsPathsUptoRow, standIns := [], harness := (true, "e114bd3c6cc0b0ac5b6d727cb267995d9f8ea025160cd289e84bd9edd306e0ea"), looks := false }, kinds := [], alts := [], laidByText := true, laidKinds := [.data, .pinned], laidTests := true, laidLooks := .later }
def PairsPathsUptoCardSaid : Prop := Claim7.holds Tryd.pinned (.plain (OpenSpec.upto pairsPathsSpec)) pairsPathsUptoCard

/-- THE SECOND FORM's CARD OF 'cordonlaw32.PairsParses'. -/
def pairsParsesUptoCard : Claim7 := { stood := { row := pairsParsesUptoRow, standIns := [], harness := (true, "e114bd3c6cc0b0ac5b6d727cb267995d9f8ea025160cd289e84bd9edd306e0ea"), looks := false }, kinds := [], alts := [], laidByText := true, laidKinds := [.data, .pinned], laidTests := true, laidLooks := .later }
def PairsParsesUptoCardSaid : Prop := Claim7.holds Tryd.pinned (.plain (OpenSpec.upto pairsParsesSpec)) pairsParsesUptoCard

/-- THE SECOND FORM's CARD OF 'cordonlaw11.HeaderTells'. -/
def headerTellsUptoCard : Claim7 := { stood := { row := headerTellsUptoRow, standIns := [], harness := (true, "e114bd3c6cc0b0ac5b6d727cb267995d9f8ea025160cd289e84bd9edd306e0ea"), looks := false }, kinds := [], alts := [], laidByText := true, laidKinds := [.data, .pinned], laidTests := true, laidLooks := .later }
def HeaderTellsUptoCardSaid : Prop := Claim7.holds Tryd.pinned (.plain (OpenSpec.upto headerTellsSpec)) headerTellsUptoCard

/-- THE SECOND FORM's CARD OF 'cordonlaw11.HeaderLong'. -/
def headerLongUptoCard : Claim7 := { stood := { row := headerLongUptoRow, standIns := [], harness := (true, "e114bd3c6cc0b0ac5b6d727cb267995d9f8ea025160cd289e84bd9edd306e0ea"), looks := false }, kinds := [], alts := [], laidByText := true, laidKinds := [.data, .pinned], laidTests := true, laidLooks := .later }
def HeaderLongUptoCardSaid : Prop := Claim7.holds Tryd.pinned (.plain (OpenSpec.upto headerLongSpec)) headerLongUptoCard

/-- THE SECOND FORM's CARD OF 'cordonlaw11.HeaderParses'. -/
def headerParsesUptoCard : Claim7 := { stood := { row := headerParsesUptoRow, standIns := [], harness := (true, "e114bd3c6cc0b0ac5b6d727cb267995d9f8ea025160cd289e84bd9edd306e0ea"), looks := false }, kinds := [], alts := [], laidByText := true, laidKinds := [.data, .pinned], laidTests := true, laidLooks := .later }
def HeaderParsesUptoCardSaid : Prop := Claim7.holds Tryd.pinned (.plain (OpenSpec.upto headerParsesSpec)) headerParsesUptoCard

/-- THE SECOND FORM's CARD OF 'cordonlaw11.HeaderBack'. -/
def headerBackUptoCard : Claim7 := { stood := { row := headerBackUptoRow, standIns := [], harness := (true, "e114bd3c6cc0b0ac5b6d727cb267995d9f8ea025160cd289e84bd9edd306e0ea"), looks := false }, kinds := [], alts := [], laidByText := true, laidKinds := [.data, .pinned], laidTests := true, laidLooks := .later }
def HeaderBackUptoCardSaid : Prop := Claim7.holds Tryd.pinned (.plain (OpenSpec.upto headerBackSpec)) headerBackUptoCard
end Rows
end Go.Proofs.YtmmjgbdihgdekaaDoor
