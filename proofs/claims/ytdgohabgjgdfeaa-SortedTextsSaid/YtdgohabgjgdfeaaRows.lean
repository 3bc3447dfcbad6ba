/-
  No cell of these rows narrows 'for every input' (looked for: loops, veiled, ifaces, maps, wideKeys, modest, calm, conditions, laid).
  DERIVED. THE GIVEN ROWS OF THIS SEAT. 7 by the template 'for every input the law returns true; each argument reads behind the call as it read before'; 0 by the template 'total and deterministic' (their statements: YtdgohabgjgdfeaaTotals.lean).
  GIVEN WITH THE SEED: the statements are not yours to turn. If you find one false, say at which input.
  Laid BY PROGRAM, IN A SANDBOX (cutbox-rows.mjs): the forced cells as the released guide's own fill.sh prints them over the translation 25a7f123dd28854e… (all of the seat's roots in one cut). By AI agents, Wed Nov 11 2026. No macro, syntax, notation, axiom, sorry.
-/
import Derived.Test.YtdgohabgjgdfeaaChecked
import GoSem.Claim
import GoSem.ClaimJoined
import GoSem.ClaimMapViews
import Derived.JoinedTies
import Derived.KernelRfl
namespace Go.Proofs.Ytdgohabgjgdfeaa
/- THE CELL 'sum', in the pinned program and in every row, IS THE sha256 OF THE DUMP (.gsa) THAT YtdgohabgjgdfeaaProg.lean LOADS. Nothing in Lean hashes anything: it is a label: what it is worth is what the hold of that sum in a sandbox is worth. -/
noncomputable def Try.pinned : Pinned := { name := "ytdgohabgjgdfeaa", sum := "25a7f123dd28854ec9c4e72f089c7c56d874f62ecba4fd28684c2bf4e7b350ad", checked := Try.checked }
namespace Rows
def none {H : Type} : Left H := { results := [], args := [] }

/-- 'cordonlaw38.DigestSums': WHATEVER THE INPUT: true; the input reads as it did. -/
def digestSumsSpec : ChangeSpec := { name := "digestSums", fn := fun _ => fun
  | [d1, d2] => { results := [.lit (.bool true)], args := [d1, d2] }
  | _ => none }
def digestSumsRow : OpenClaim := { program := "ytdgohabgjgdfeaa", sum := "25a7f123dd28854ec9c4e72f089c7c56d874f62ecba4fd28684c2bf4e7b350ad", func := "cordon/cordonlaw38.DigestSums", spec := "digestSums", unfollowed := true, recurses := true, apart := false }
def DigestSumsSaid : Prop := digestSumsRow.holds Try.pinned (OpenSpec.ofChange digestSumsSpec)

/-- ITS FALSE NEIGHBOUR: 'it returns false'. Refute it at one input. -/
def digestSumsWrong : ChangeSpec := { name := "digestSums", fn := fun _ => fun
  | [d1, d2] => { results := [.lit (.bool false)], args := [d1, d2] }
  | _ => none }
def DigestSumsWrongFalsely : Prop := digestSumsRow.holds Try.pinned (OpenSpec.ofChange digestSumsWrong)

/-- 'cordonlaw02.SortedPlays': WHATEVER THE INPUT: true; the input reads as it did. -/
def sortedPlaysSpec : ChangeSpec := { name := "sortedPlays", fn := fun _ => fun
  | [d1, d2] => { results := [.lit (.bool true)], args := [d1, d2] }
  | _ => none }
def sortedPlaysRow : OpenClaim := { program := "ytdgohabgjgdfeaa", sum := "25a7f123dd28854ec9c4e72f089c7c56d874f62ecba4fd28684c2bf4e7b350ad", func := "cordon/cordonlaw02.SortedPlays", spec := "sortedPlays", unfollowed := true, recurses := true, apart := false }
def SortedPlaysSaid : Prop := sortedPlaysRow.holds Try.pinned (OpenSpec.ofChange sortedPlaysSpec)

/-- ITS FALSE NEIGHBOUR: 'it returns false'. Refute it at one input. -/
def sortedPlaysWrong : ChangeSpec := { name := "sortedPlays", fn := fun _ => fun
  | [d1, d2] => { results := [.lit (.bool false)], args := [d1, d2] }
  | _ => none }
def SortedPlaysWrongFalsely : Prop := sortedPlaysRow.holds Try.pinned (OpenSpec.ofChange sortedPlaysWrong)

/-- 'cordonlaw02.SortedRules': WHATEVER THE INPUT: true; the input reads as it did. -/
def sortedRulesSpec : ChangeSpec := { name := "sortedRules", fn := fun _ => fun
  | [d1, d2, d3] => { results := [.lit (.bool true)], args := [d1, d2, d3] }
  | _ => none }
def sortedRulesRow : OpenClaim := { program := "ytdgohabgjgdfeaa", sum := "25a7f123dd28854ec9c4e72f089c7c56d874f62ecba4fd28684c2bf4e7b350ad", func := "cordon/cordonlaw02.SortedRules", spec := "sortedRules", unfollowed := true, recurses := true, apart := false }
def SortedRulesSaid : Prop := sortedRulesRow.holds Try.pinned (OpenSpec.ofChange sortedRulesSpec)

/-- ITS FALSE NEIGHBOUR: 'it returns false'. Refute it at one input. -/
def sortedRulesWrong : ChangeSpec := { name := "sortedRules", fn := fun _ => fun
  | [d1, d2, d3] => { results := [.lit (.bool false)], args := [d1, d2, d3] }
  | _ => none }
def SortedRulesWrongFalsely : Prop := sortedRulesRow.holds Try.pinned (OpenSpec.ofChange sortedRulesWrong)

/-- 'cordonlaw02.SortedTexts': WHATEVER THE INPUT: true; the input reads as it did. -/
def sortedTextsSpec : ChangeSpec := { name := "sortedTexts", fn := fun _ => fun
  | [d] => { results := [.lit (.bool true)], args := [d] }
  | _ => none }
def sortedTextsRow : OpenClaim := { program := "ytdgohabgjgdfeaa", sum := "25a7f123dd28854ec9c4e72f089c7c56d874f62ecba4fd28684c2bf4e7b350ad", func := "cordon/cordonlaw02.SortedTexts", spec := "sortedTexts", unfollowed := true, recurses := true, apart := false }
def SortedTextsSaid : Prop := sortedTextsRow.holds Try.pinned (OpenSpec.ofChange sortedTextsSpec)

/-- ITS FALSE NEIGHBOUR: 'it returns false'. Refute it at one input. -/
def sortedTextsWrong : ChangeSpec := { name := "sortedTexts", fn := fun _ => fun
  | [d] => { results := [.lit (.bool false)], args := [d] }
  | _ => none }
def SortedTextsWrongFalsely : Prop := sortedTextsRow.holds Try.pinned (OpenSpec.ofChange sortedTextsWrong)

/-- 'cordonlaw02.SortedTells': WHATEVER THE INPUT: true; the input reads as it did. -/
def sortedTellsSpec : ChangeSpec := { name := "sortedTells", fn := fun _ => fun
  | [d1, d2, d3, d4] => { results := [.lit (.bool true)], args := [d1, d2, d3, d4] }
  | _ => none }
def sortedTellsRow : OpenClaim := { program := "ytdgohabgjgdfeaa", sum := "25a7f123dd28854ec9c4e72f089c7c56d874f62ecba4fd28684c2bf4e7b350ad", func := "cordon/cordonlaw02.SortedTells", spec := "sortedTells", unfollowed := true, recurses := true, apart := false }
def SortedTellsSaid : Prop := sortedTellsRow.holds Try.pinned (OpenSpec.ofChange sortedTellsSpec)

/-- ITS FALSE NEIGHBOUR: 'it returns false'. Refute it at one input. -/
def sortedTellsWrong : ChangeSpec := { name := "sortedTells", fn := fun _ => fun
  | [d1, d2, d3, d4] => { results := [.lit (.bool false)], args := [d1, d2, d3, d4] }
  | _ => none }
def SortedTellsWrongFalsely : Prop := sortedTellsRow.holds Try.pinned (OpenSpec.ofChange sortedTellsWrong)

/-- 'cordonlaw19.LexQuotes': WHATEVER THE INPUT: true; the input reads as it did. -/
def lexQuotesSpec : ChangeSpec := { name := "lexQuotes", fn := fun _ => fun
  | [d] => { results := [.lit (.bool true)], args := [d] }
  | _ => none }
def lexQuotesRow : OpenClaim := { program := "ytdgohabgjgdfeaa", sum := "25a7f123dd28854ec9c4e72f089c7c56d874f62ecba4fd28684c2bf4e7b350ad", func := "cordon/cordonlaw19.LexQuotes", spec := "lexQuotes", inPlace := ["internal/bytealg.IndexByteString", "internal/abi.NoEscape", "sync/atomic.LoadUint32", "(*internal/sync.Mutex).Lock", "internal/race.Disable", "sync/atomic.CompareAndSwapInt32", "internal/race.Enable", "internal/race.Acquire", "(*internal/sync.Mutex).lockSlow", "internal/sync.runtime_canSpin", "internal/sync.runtime_doSpin", "internal/sync.throw", "internal/sync.runtime_nanotime", "internal/sync.runtime_SemacquireMutex", "sync/atomic.AddInt32", "(*internal/sync.Mutex).Unlock", "internal/race.ReleaseMerge", "(*internal/sync.Mutex).unlockSlow", "internal/sync.fatal", "internal/sync.runtime_Semrelease", "sync/atomic.StoreUint32"], unfollowed := true, recurses := true, apart := false }
def LexQuotesSaid : Prop := lexQuotesRow.holds Try.pinned (OpenSpec.ofChange lexQuotesSpec)

/-- ITS FALSE NEIGHBOUR: 'it returns false'. Refute it at one input. -/
def lexQuotesWrong : ChangeSpec := { name := "lexQuotes", fn := fun _ => fun
  | [d] => { results := [.lit (.bool false)], args := [d] }
  | _ => none }
def LexQuotesWrongFalsely : Prop := lexQuotesRow.holds Try.pinned (OpenSpec.ofChange lexQuotesWrong)

/-- 'cordonlaw19.LexBlanks': WHATEVER THE INPUT: true; the input reads as it did. -/
def lexBlanksSpec : ChangeSpec := { name := "lexBlanks", fn := fun _ => fun
  | [d1, d2] => { results := [.lit (.bool true)], args := [d1, d2] }
  | _ => none }
def lexBlanksRow : OpenClaim := { program := "ytdgohabgjgdfeaa", sum := "25a7f123dd28854ec9c4e72f089c7c56d874f62ecba4fd28684c2bf4e7b350ad", func := "cordon/cordonlaw19.LexBlanks", spec := "lexBlanks", inPlace := ["internal/bytealg.IndexByteString", "internal/abi.NoEscape", "sync/atomic.LoadUint32", "(*internal/sync.Mutex).Lock", "internal/race.Disable", "sync/atomic.CompareAndSwapInt32", "internal/race.Enable", "internal/race.Acquire", "(*internal/sync.Mutex).lockSlow", "internal/sync.runtime_canSpin", "internal/sync.runtime_doSpin", "internal/sync.throw", "internal/sync.runtime_nanotime", "internal/sync.runtime_SemacquireMutex", "sync/atomic.AddInt32", "(*internal/sync.Mutex).Unlock", "internal/race.ReleaseMerge", "(*internal/sync.Mutex).unlockSlow", "internal/sync.fatal", "internal/sync.runtime_Semrelease", "sync/atomic.StoreUint32"], unfollowed := true, recurses := true, apart := false }
def LexBlanksSaid : Prop := lexBlanksRow.holds Try.pinned (OpenSpec.ofChange lexBlanksSpec)

/-- ITS FALSE NEIGHBOUR: 'it returns false'. Refute it at one input. -/
def lexBlanksWrong : ChangeSpec := { name := "lexBlanks", fn := fun _ => fun
  | [d1, d2] => { results := [.lit (.bool false)], args := [d1, d2] }
  | _ => none }
def LexBlanksWrongFalsely : Prop := lexBlanksRow.holds Try.pinned (OpenSpec.ofChange lexBlanksWrong)

/- THE SECOND FORM. 'bulk': how many values and letters a reading holds, each counted each time it is reached (what is shared counts as often as it is met; a slice's spare places count too). A statement '..UptoSaid' is the law's where the arguments, and the package variables that the reading takes, are together of bulk at most 1048576: NARROWER than '..Said'. Prove '..Said' where nothing that the law and all that it calls make is longer than what came in: it says more and counts as full. Else prove '..UptoSaid'. A law counts once. -/
mutual
def uptoBulk {H : Type} : DataW H → Nat
  | .lit (.string bytes) => bytes.length + 1
  | .lit _ => 1
  | .nil => 1
  | .ptr d => uptoBulk d + 1
  | .slice elems spare => uptoBulkAll elems + uptoBulkAll spare + 1
  | .agg parts => uptoBulkAll parts + 1
  | .iface _ d => uptoBulk d + 1
  | .map entries => uptoBulkEntries entries + 1
  | .held _ => 1
def uptoBulkAll {H : Type} : List (DataW H) → Nat
  | [] => 0
  | d :: r => uptoBulk d + uptoBulkAll r
def uptoBulkEntries {H : Type} : List (Lit × DataW H) → Nat
  | [] => 0
  | x :: r => uptoBulkEntry x + uptoBulkEntries r
def uptoBulkEntry {H : Type} : Lit × DataW H → Nat
  | (.string bytes, d) => bytes.length + uptoBulk d + 1
  | (_, d) => uptoBulk d + 1
 end
def uptoSmall : (H : Type) → List (DataW H) → Bool := fun _ ds => decide (uptoBulkAll ds ≤ 1048576)
def OpenSpec.upto (s : _root_.Go.ChangeSpec) : _root_.Go.OpenSpec := { _root_.Go.OpenSpec.ofChange s with cond := some uptoSmall }

/-- 'cordonlaw38.DigestSums', WHERE WHAT IT READS IS OF BULK AT MOST 1048576: true; the input reads as it did. -/
def digestSumsUptoRow : OpenClaim := { program := "ytdgohabgjgdfeaa", sum := "25a7f123dd28854ec9c4e72f089c7c56d874f62ecba4fd28684c2bf4e7b350ad", func := "cordon/cordonlaw38.DigestSums", spec := "digestSums", unfollowed := true, recurses := true, apart := false, narrowed := true }
def DigestSumsUptoSaid : Prop := digestSumsUptoRow.holds Try.pinned (OpenSpec.upto digestSumsSpec)

/-- 'cordonlaw02.SortedPlays', WHERE WHAT IT READS IS OF BULK AT MOST 1048576: true; the input reads as it did. -/
def sortedPlaysUptoRow : OpenClaim := { program := "ytdgohabgjgdfeaa", sum := "25a7f123dd28854ec9c4e72f089c7c56d874f62ecba4fd28684c2bf4e7b350ad", func := "cordon/cordonlaw02.SortedPlays", spec := "sortedPlays", unfollowed := true, recurses := true, apart := false, narrowed := true }
def SortedPlaysUptoSaid : Prop := sortedPlaysUptoRow.holds Try.pinned (OpenSpec.upto sortedPlaysSpec)

/-- 'cordonlaw02.SortedRules', WHERE WHAT IT READS IS OF BULK AT MOST 1048576: true; the input reads as it did. -/
def sortedRulesUptoRow : OpenClaim := { program := "ytdgohabgjgdfeaa", sum := "25a7f123dd28854ec9c4e72f089c7c56d874f62ecba4fd28684c2bf4e7b350ad", func := "cordon/cordonlaw02.SortedRules", spec := "sortedRules", unfollowed := true, recurses := true, apart := false, narrowed := true }
def SortedRulesUptoSaid : Prop := sortedRulesUptoRow.holds Try.pinned (OpenSpec.upto sortedRulesSpec)

/-- 'cordonlaw02.SortedTexts', WHERE WHAT IT READS IS OF BULK AT MOST 1048576: true; the input reads as it did. -/
def sortedTextsUptoRow : OpenClaim := { program := "ytdgohabgjgdfeaa", sum := "25a7f123dd28854ec9c4e72f089c7c56d874f62ecba4fd28684c2bf4e7b350ad", func := "cordon/cordonlaw02.SortedTexts", spec := "sortedTexts", unfollowed := true, recurses := true, apart := false, narrowed := true }
def SortedTextsUptoSaid : Prop := sortedTextsUptoRow.holds Try.pinned (OpenSpec.upto sortedTextsSpec)

/-- 'cordonlaw02.SortedTells', WHERE WHAT IT READS IS OF BULK AT MOST 1048576: true; the input reads as it did. -/
def sortedTellsUptoRow : OpenClaim := { program := "ytdgohabgjgdfeaa", sum := "25a7f123dd28854ec9c4e72f089c7c56d874f62ecba4fd28684c2bf4e7b350ad", func := "cordon/cordonlaw02.SortedTells", spec := "sortedTells", unfollowed := true, recurses := true, apart := false, narrowed := true }
def SortedTellsUptoSaid : Prop := sortedTellsUptoRow.holds Try.pinned (OpenSpec.upto sortedTellsSpec)

/-- 'cordonlaw19.LexQuotes', WHERE WHAT IT READS IS OF BULK AT MOST 1048576: true; the input reads as it did. -/
def lexQuotesUptoRow : OpenClaim := { program := "ytdgohabgjgdfeaa", sum := "25a7f123dd28854ec9c4e72f089c7c56d874f62ecba4fd28684c2bf4e7b350ad", func := "cordon/cordonlaw19.LexQuotes", spec := "lexQuotes", inPlace := ["internal/bytealg.IndexByteString", "internal/abi.NoEscape", "sync/atomic.LoadUint32", "(*internal/sync.Mutex).Lock", "internal/race.Disable", "sync/atomic.CompareAndSwapInt32", "internal/race.Enable", "internal/race.Acquire", "(*internal/sync.Mutex).lockSlow", "internal/sync.runtime_canSpin", "internal/sync.runtime_doSpin", "internal/sync.throw", "internal/sync.runtime_nanotime", "internal/sync.runtime_SemacquireMutex", "sync/atomic.AddInt32", "(*internal/sync.Mutex).Unlock", "internal/race.ReleaseMerge", "(*internal/sync.Mutex).unlockSlow", "internal/sync.fatal", "internal/sync.runtime_Semrelease", "sync/atomic.StoreUint32"], unfollowed := true, recurses := true, apart := false, narrowed := true }
def LexQuotesUptoSaid : Prop := lexQuotesUptoRow.holds Try.pinned (OpenSpec.upto lexQuotesSpec)

/-- 'cordonlaw19.LexBlanks', WHERE WHAT IT READS IS OF BULK AT MOST 1048576: true; the input reads as it did. -/
def lexBlanksUptoRow : OpenClaim := { program := "ytdgohabgjgdfeaa", sum := "25a7f123dd28854ec9c4e72f089c7c56d874f62ecba4fd28684c2bf4e7b350ad", func := "cordon/cordonlaw19.LexBlanks", spec := "lexBlanks", inPlace := ["internal/bytealg.IndexByteString", "internal/abi.NoEscape", "sync/atomic.LoadUint32", "(*internal/sync.Mutex).Lock", "internal/race.Disable", "sync/atomic.CompareAndSwapInt32", "internal/race.Enable", "internal/race.Acquire", "(*internal/sync.Mutex).lockSlow", "internal/sync.runtime_canSpin", "internal/sync.runtime_doSpin", "internal/sync.throw", "internal/sync.runtime_nanotime", "internal/sync.runtime_SemacquireMutex", "sync/atomic.AddInt32", "(*internal/sync.Mutex).Unlock", "internal/race.ReleaseMerge", "(*internal/sync.Mutex).unlockSlow", "internal/sync.fatal", "internal/sync.runtime_Semrelease", "sync/atomic.StoreUint32"], unfollowed := true, recurses := true, apart := false, narrowed := true }
def LexBlanksUptoSaid : Prop := lexBlanksUptoRow.holds Try.pinned (OpenSpec.upto lexBlanksSpec)

end Rows
end Go.Proofs.Ytdgohabgjgdfeaa
