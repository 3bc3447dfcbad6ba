/-
  DERIVED. GIVEN WITH THE SEED: THE CARDS: each row of YtdgohabgjgdfeaaDoorRows.lean that lists a variable, with what it lists TIED to the program's text (the seventh form; the later family's looks); each row that meets fmt, with fmt's text TOLD by the authors' own Lean function (tested against real Go, not proved from fmt's source: count such statements apart). THE CARD IS WHAT COUNTS. Prove the row's statement (the work); the ties are given (YtdgohabgjgdfeaaDoorTie.lean); close each card by the builder's one call (the guide's Derived/Test/ToyasCard.lean, 'card_holds'). Laid BY PROGRAM, IN A SANDBOX (cutbox-door.mjs). By AI agents, Wed Nov 11 2026. No macro, syntax, notation, axiom, sorry.
-/
import Derived.Test.YtdgohabgjgdfeaaDoorRows
import GoSem.ClaimSeven
namespace Go.Proofs.YtdgohabgjgdfeaaDoor
namespace Rows

/-- THE TIED CARD OF 'cordonlaw38.DigestWrites'. -/
def digestWritesCard : Claim7 := { stood := { row := digestWritesRow, standIns := [], harness := (true, "72b485fe56fc4706e8716a4c6e9bd2289d1b1db6612a3afbe25c909160b31beb"), looks := false }, kinds := [], alts := [], laidByText := true, laidKinds := [.data, .pinned], laidTests := true, laidLooks := .later }
def DigestWritesCardSaid : Prop := Claim7.holds Tryd.pinned (.plain (OpenSpec.ofChange digestWritesSpec)) digestWritesCard

/-- THE TIED CARD OF 'cordonlaw38.DigestOwn'. -/
def digestOwnCard : Claim7 := { stood := { row := digestOwnRow, standIns := [], harness := (true, "72b485fe56fc4706e8716a4c6e9bd2289d1b1db6612a3afbe25c909160b31beb"), looks := false }, kinds := [], alts := [], laidByText := true, laidKinds := [.data, .pinned], laidTests := true, laidLooks := .later }
def DigestOwnCardSaid : Prop := Claim7.holds Tryd.pinned (.plain (OpenSpec.ofChange digestOwnSpec)) digestOwnCard

/-- THE TIED CARD OF 'cordonlaw38.DigestWants'. -/
def digestWantsCard : Claim7 := { stood := { row := digestWantsRow, standIns := [], harness := (true, "72b485fe56fc4706e8716a4c6e9bd2289d1b1db6612a3afbe25c909160b31beb"), looks := false }, kinds := [], alts := [], laidByText := true, laidKinds := [.data, .pinned], laidTests := true, laidLooks := .later }
def DigestWantsCardSaid : Prop := Claim7.holds Tryd.pinned (.plain (OpenSpec.ofChange digestWantsSpec)) digestWantsCard

/-- THE TIED CARD OF 'cordonlaw32.PairsBack'. -/
def pairsBackCard : Claim7 := { stood := { row := pairsBackRow, standIns := [], harness := (true, "72b485fe56fc4706e8716a4c6e9bd2289d1b1db6612a3afbe25c909160b31beb"), looks := false }, kinds := [], alts := [], laidByText := true, laidKinds := [.data, .pinned], laidTests := true, laidLooks := .later }
def PairsBackCardSaid : Prop := Claim7.holds Tryd.pinned (.plain (OpenSpec.ofChange pairsBackSpec)) pairsBackCard

/-- THE TIED CARD OF 'cordonlaw32.PairsPaths'. -/
def pairsPathsCard : Claim7 := { stood := { row := pairsPathsRow, standIns := [], harness := (true, "72b485fe56fc4706e8716a4c6e9bd2289d1b1db6612a3afbe25c909160b31beb"), looks := false }, kinds := [], alts := [], laidByText := true, laidKinds := [.data, .pinned], laidTests := true, laidLooks := .later }
def PairsPathsCardSaid : Prop := Claim7.holds Tryd.pinned (.plain (OpenSpec.ofChange pairsPathsSpec)) pairsPathsCard

/-- THE TIED CARD OF 'cordonlaw32.PairsParses'. -/
def pairsParsesCard : Claim7 := { stood := { row := pairsParsesRow, standIns := [], harness := (true, "72b485fe56fc4706e8716a4c6e9bd2289d1b1db6612a3afbe25c909160b31beb"), looks := false }, kinds := [], alts := [], laidByText := true, laidKinds := [.data, .pinned], laidTests := true, laidLooks := .later }
def PairsParsesCardSaid : Prop := Claim7.holds Tryd.pinned (.plain (OpenSpec.ofChange pairsParsesSpec)) pairsParsesCard

/-- THE TIED CARD OF 'cordonlaw11.HeaderTells'. -/
def headerTellsCard : Claim7 := { stood := { row := headerTellsRow, standIns := [], harness := (true, "72b485fe56fc4706e8716a4c6e9bd2289d1b1db6612a3afbe25c909160b31beb"), looks := false }, kinds := [], alts := [], laidByText := true, laidKinds := [.data, .pinned], laidTests := true, laidLooks := .later }
def HeaderTellsCardSaid : Prop := Claim7.holds Tryd.pinned (.plain (OpenSpec.ofChange headerTellsSpec)) headerTellsCard

/-- THE TIED CARD OF 'cordonlaw11.HeaderLong'. -/
def headerLongCard : Claim7 := { stood := { row := headerLongRow, standIns := [], harness := (true, "72b485fe56fc4706e8716a4c6e9bd2289d1b1db6612a3afbe25c909160b31beb"), looks := false }, kinds := [], alts := [], laidByText := true, laidKinds := [.data, .pinned], laidTests := true, laidLooks := .later }
def HeaderLongCardSaid : Prop := Claim7.holds Tryd.pinned (.plain (OpenSpec.ofChange headerLongSpec)) headerLongCard

/-- THE TIED CARD OF 'cordonlaw11.HeaderParses'. -/
def headerParsesCard : Claim7 := { stood := { row := headerParsesRow, standIns := [], harness := (true, "72b485fe56fc4706e8716a4c6e9bd2289d1b1db6612a3afbe25c909160b31beb"), looks := false }, kinds := [], alts := [], laidByText := true, laidKinds := [.data, .pinned], laidTests := true, laidLooks := .later }
def HeaderParsesCardSaid : Prop := Claim7.holds Tryd.pinned (.plain (OpenSpec.ofChange headerParsesSpec)) headerParsesCard

/-- THE TIED CARD OF 'cordonlaw11.HeaderBack'. -/
def headerBackCard : Claim7 := { stood := { row := headerBackRow, standIns := [], harness := (true, "72b485fe56fc4706e8716a4c6e9bd2289d1b1db6612a3afbe25c909160b31beb"), looks := false }, kinds := [], alts := [], laidByText := true, laidKinds := [.data, .pinned], laidTests := true, laidLooks := .later }
def HeaderBackCardSaid : Prop := Claim7.holds Tryd.pinned (.plain (OpenSpec.ofChange headerBackSpec)) headerBackCard

/-- THE TIED CARD OF 'cordonlaw01.CutFields'. -/
def cutFieldsCard : Claim7 := { stood := { row := cutFieldsRow, standIns := [], harness := (true, "72b485fe56fc4706e8716a4c6e9bd2289d1b1db6612a3afbe25c909160b31beb"), looks := false }, kinds := [], alts := [], laidByText := true, laidKinds := [.data, .pinned], laidTests := true, laidLooks := .later }
def CutFieldsCardSaid : Prop := Claim7.holds Tryd.pinned (.plain (OpenSpec.ofChange cutFieldsSpec)) cutFieldsCard

/-- THE SECOND FORM's CARD OF 'cordonlaw38.DigestWrites'. -/
def digestWritesUptoCard : Claim7 := { stood := { row := digestWritesUptoRow, standIns := [], harness := (true, "72b485fe56fc4706e8716a4c6e9bd2289d1b1db6612a3afbe25c909160b31beb"), looks := false }, kinds := [], alts := [], laidByText := true, laidKinds := [.data, .pinned], laidTests := true, laidLooks := .later }
def DigestWritesUptoCardSaid : Prop := Claim7.holds Tryd.pinned (.plain (OpenSpec.upto digestWritesSpec)) digestWritesUptoCard

/-- THE SECOND FORM's CARD OF 'cordonlaw38.DigestOwn'. -/
def digestOwnUptoCard : Claim7 := { stood := { row := digestOwnUptoRow, standIns := [], harness := (true, "72b485fe56fc4706e8716a4c6e9bd2289d1b1db6612a3afbe25c909160b31beb"), looks := false }, kinds := [], alts := [], laidByText := true, laidKinds := [.data, .pinned], laidTests := true, laidLooks := .later }
def DigestOwnUptoCardSaid : Prop := Claim7.holds Tryd.pinned (.plain (OpenSpec.upto digestOwnSpec)) digestOwnUptoCard

/-- THE SECOND FORM's CARD OF 'cordonlaw38.DigestWants'. -/
def digestWantsUptoCard : Claim7 := { stood := { row := digestWantsUptoRow, standIns := [], harness := (true, "72b485fe56fc4706e8716a4c6e9bd2289d1b1db6612a3afbe25c909160b31beb"), looks := false }, kinds := [], alts := [], laidByText := true, laidKinds := [.data, .pinned], laidTests := true, laidLooks := .later }
def DigestWantsUptoCardSaid : Prop := Claim7.holds Tryd.pinned (.plain (OpenSpec.upto digestWantsSpec)) digestWantsUptoCard

/-- THE SECOND FORM's CARD OF 'cordonlaw32.PairsBack'. -/
def pairsBackUptoCard : Claim7 := { stood := { row := pairsBackUptoRow, standIns := [], harness := (true, "72b485fe56fc4706e8716a4c6e9bd2289d1b1db6612a3afbe25c909160b31beb"), looks := false }, kinds := [], alts := [], laidByText := true, laidKinds := [.data, .pinned], laidTests := true, laidLooks := .later }
def PairsBackUptoCardSaid : Prop := Claim7.holds Tryd.pinned (.plain (OpenSpec.upto pairsBackSpec)) pairsBackUptoCard

/-- THE SECOND FORM's CARD OF 'cordonlaw32.PairsPaths'. -/
def pairsPathsUptoCard : Claim7 := { stood := { row := pairsPathsUptoRow, standIns := [], harness := (true, "72b485fe56fc4706e8716a4c6e9bd2289d1b1db6612a3afbe25c909160b31beb"), looks := false }, kinds := [], alts := [], laidByText := true, laidKinds := [.data, .pinned], laidTests := true, laidLooks := .later }
def PairsPathsUptoCardSaid : Prop := Claim7.holds Tryd.pinned (.plain (OpenSpec.upto pairsPathsSpec)) pairsPathsUptoCard

/-- THE SECOND FORM's CARD OF 'cordonlaw32.PairsParses'. -/
def pairsParsesUptoCard : Claim7 := { stood := { row := pairsParsesUptoRow, standIns := [], harness := (true, "72b485fe56fc4706e8716a4c6e9bd2289d1b1db6612a3afbe25c909160b31beb"), looks := false }, kinds := [], alts := [], laidByText := true, laidKinds := [.data, .pinned], laidTests := true, laidLooks := .later }
def PairsParsesUptoCardSaid : Prop := Claim7.holds Tryd.pinned (.plain (OpenSpec.upto pairsParsesSpec)) pairsParsesUptoCard

/-- THE SECOND FORM's CARD OF 'cordonlaw11.HeaderTells'. -/
def headerTellsUptoCard : Claim7 := { stood := { row := headerTellsUptoRow, standIns := [], harness := (true, "72b485fe56fc4706e8716a4c6e9bd2289d1b1db6612a3afbe25c909160b31beb"), looks := false }, kinds := [], alts := [], laidByText := true, laidKinds := [.data, .pinned], laidTests := true, laidLooks := .later }
def HeaderTellsUptoCardSaid : Prop := Claim7.holds Tryd.pinned (.plain (OpenSpec.upto headerTellsSpec)) headerTellsUptoCard

/-- THE SECOND FORM's CARD OF 'cordonlaw11.HeaderLong'. -/
def headerLongUptoCard : Claim7 := { stood := { row := headerLongUptoRow, standIns := [], harness := (true, "72b485fe56fc4706e8716a4c6e9bd2289d1b1db6612a3afbe25c909160b31beb"), looks := false }, kinds := [], alts := [], laidByText := true, laidKinds := [.data, .pinned], laidTests := true, laidLooks := .later }
def HeaderLongUptoCardSaid : Prop := Claim7.holds Tryd.pinned (.plain (OpenSpec.upto headerLongSpec)) headerLongUptoCard

/-- THE SECOND FORM's CARD OF 'cordonlaw11.HeaderParses'. -/
def headerParsesUptoCard : Claim7 := { stood := { row := headerParsesUptoRow, standIns := [], harness := (true, "72b485fe56fc4706e8716a4c6e9bd2289d1b1db6612a3afbe25c909160b31beb"), looks := false }, kinds := [], alts := [], laidByText := true, laidKinds := [.data, .pinned], laidTests := true, laidLooks := .later }
def HeaderParsesUptoCardSaid : Prop := Claim7.holds Tryd.pinned (.plain (OpenSpec.upto headerParsesSpec)) headerParsesUptoCard

/-- THE SECOND FORM's CARD OF 'cordonlaw11.HeaderBack'. -/
def headerBackUptoCard : Claim7 := { stood := { row := headerBackUptoRow, standIns := [], harness := (true, "72b485fe56fc4706e8716a4c6e9bd2289d1b1db6612a3afbe25c909160b31beb"), looks := false }, kinds := [], alts := [], laidByText := true, laidKinds := [.data, .pinned], laidTests := true, laidLooks := .later }
def HeaderBackUptoCardSaid : Prop := Claim7.holds Tryd.pinned (.plain (OpenSpec.upto headerBackSpec)) headerBackUptoCard

/-- THE SECOND FORM's CARD OF 'cordonlaw01.CutFields'. -/
def cutFieldsUptoCard : Claim7 := { stood := { row := cutFieldsUptoRow, standIns := [], harness := (true, "72b485fe56fc4706e8716a4c6e9bd2289d1b1db6612a3afbe25c909160b31beb"), looks := false }, kinds := [], alts := [], laidByText := true, laidKinds := [.data, .pinned], laidTests := true, laidLooks := .later }
def CutFieldsUptoCardSaid : Prop := Claim7.holds Tryd.pinned (.plain (OpenSpec.upto cutFieldsSpec)) cutFieldsUptoCard
end Rows
end Go.Proofs.YtdgohabgjgdfeaaDoor
