/-
  No cell of these rows narrows 'for every input' (looked for: loops, veiled, ifaces, maps, wideKeys, modest, calm, conditions, laid).
  DERIVED. THE GIVEN ROWS OF THIS SEAT. 15 by the template 'for every input the law returns true; each argument reads behind the call as it read before'; 0 by the template 'total and deterministic' (their statements: YtnfmoclmfddajaaTotals.lean).
  GIVEN WITH THE SEED: the statements are not yours to turn. If you find one false, say at which input.
  Laid BY PROGRAM, IN A SANDBOX (cutbox-rows.mjs): the forced cells as the released guide's own fill.sh prints them over the translation 664a83c4f86dc1e4… (all of the seat's roots in one cut). By AI agents, Wed Nov 11 2026. No macro, syntax, notation, axiom, sorry.
-/
import Derived.Test.YtnfmoclmfddajaaChecked
import GoSem.Claim
import GoSem.ClaimJoined
import GoSem.ClaimMapViews
import Derived.JoinedTies
import Derived.KernelRfl
namespace Go.Proofs.Ytnfmoclmfddajaa
/- THE CELL 'sum', in the pinned program and in every row, IS THE sha256 OF THE DUMP (.gsa) THAT YtnfmoclmfddajaaProg.lean LOADS. Nothing in Lean hashes anything: it is a label: what it is worth is what the hold of that sum in a sandbox is worth. -/
noncomputable def Try.pinned : Pinned := { name := "ytnfmoclmfddajaa", sum := "664a83c4f86dc1e41cce667e07d04bb695c1caeb392d5538b97d2adf89d32145", checked := Try.checked }
namespace Rows
def none {H : Type} : Left H := { results := [], args := [] }

/-- 'cordonlaw04.HostParses': WHATEVER THE INPUT: true; the input reads as it did. -/
def hostParsesSpec : ChangeSpec := { name := "hostParses", fn := fun _ => fun
  | [d] => { results := [.lit (.bool true)], args := [d] }
  | _ => none }
def hostParsesRow : OpenClaim := { program := "ytnfmoclmfddajaa", sum := "664a83c4f86dc1e41cce667e07d04bb695c1caeb392d5538b97d2adf89d32145", func := "cordon/cordonlaw04.HostParses", spec := "hostParses", unfollowed := true, recurses := true, apart := false }
def HostParsesSaid : Prop := hostParsesRow.holds Try.pinned (OpenSpec.ofChange hostParsesSpec)

/-- ITS FALSE NEIGHBOUR: 'it returns false'. Refute it at one input. -/
def hostParsesWrong : ChangeSpec := { name := "hostParses", fn := fun _ => fun
  | [d] => { results := [.lit (.bool false)], args := [d] }
  | _ => none }
def HostParsesWrongFalsely : Prop := hostParsesRow.holds Try.pinned (OpenSpec.ofChange hostParsesWrong)

/-- 'cordonlaw04.HostLong': WHATEVER THE INPUT: true; the input reads as it did. -/
def hostLongSpec : ChangeSpec := { name := "hostLong", fn := fun _ => fun
  | [d1, d2, d3] => { results := [.lit (.bool true)], args := [d1, d2, d3] }
  | _ => none }
def hostLongRow : OpenClaim := { program := "ytnfmoclmfddajaa", sum := "664a83c4f86dc1e41cce667e07d04bb695c1caeb392d5538b97d2adf89d32145", func := "cordon/cordonlaw04.HostLong", spec := "hostLong", unfollowed := true, recurses := true, apart := false }
def HostLongSaid : Prop := hostLongRow.holds Try.pinned (OpenSpec.ofChange hostLongSpec)

/-- ITS FALSE NEIGHBOUR: 'it returns false'. Refute it at one input. -/
def hostLongWrong : ChangeSpec := { name := "hostLong", fn := fun _ => fun
  | [d1, d2, d3] => { results := [.lit (.bool false)], args := [d1, d2, d3] }
  | _ => none }
def HostLongWrongFalsely : Prop := hostLongRow.holds Try.pinned (OpenSpec.ofChange hostLongWrong)

/-- 'cordonlaw19.LexMany': WHATEVER THE INPUT: true; the input reads as it did. -/
def lexManySpec : ChangeSpec := { name := "lexMany", fn := fun _ => fun
  | [d] => { results := [.lit (.bool true)], args := [d] }
  | _ => none }
def lexManyRow : OpenClaim := { program := "ytnfmoclmfddajaa", sum := "664a83c4f86dc1e41cce667e07d04bb695c1caeb392d5538b97d2adf89d32145", func := "cordon/cordonlaw19.LexMany", spec := "lexMany", inPlace := ["internal/bytealg.IndexByteString", "internal/abi.NoEscape"], unfollowed := true, recurses := true, apart := false }
def LexManySaid : Prop := lexManyRow.holds Try.pinned (OpenSpec.ofChange lexManySpec)

/-- ITS FALSE NEIGHBOUR: 'it returns false'. Refute it at one input. -/
def lexManyWrong : ChangeSpec := { name := "lexMany", fn := fun _ => fun
  | [d] => { results := [.lit (.bool false)], args := [d] }
  | _ => none }
def LexManyWrongFalsely : Prop := lexManyRow.holds Try.pinned (OpenSpec.ofChange lexManyWrong)

/-- 'cordonlaw01.CutSplits': WHATEVER THE INPUT: true; the input reads as it did. -/
def cutSplitsSpec : ChangeSpec := { name := "cutSplits", fn := fun _ => fun
  | [d1, d2] => { results := [.lit (.bool true)], args := [d1, d2] }
  | _ => none }
def cutSplitsRow : OpenClaim := { program := "ytnfmoclmfddajaa", sum := "664a83c4f86dc1e41cce667e07d04bb695c1caeb392d5538b97d2adf89d32145", func := "cordon/cordonlaw01.CutSplits", spec := "cutSplits", inPlace := ["internal/bytealg.Count", "internal/bytealg.IndexByte", "internal/bytealg.Index"], unfollowed := true, recurses := true, named := ["internal/bytealg.MaxLen"], apart := false }
def CutSplitsSaid : Prop := cutSplitsRow.holds Try.pinned (OpenSpec.ofChange cutSplitsSpec)

/-- ITS FALSE NEIGHBOUR: 'it returns false'. Refute it at one input. -/
def cutSplitsWrong : ChangeSpec := { name := "cutSplits", fn := fun _ => fun
  | [d1, d2] => { results := [.lit (.bool false)], args := [d1, d2] }
  | _ => none }
def CutSplitsWrongFalsely : Prop := cutSplitsRow.holds Try.pinned (OpenSpec.ofChange cutSplitsWrong)

/-- 'cordonlaw01.CutBack': WHATEVER THE INPUT: true; the input reads as it did. -/
def cutBackSpec : ChangeSpec := { name := "cutBack", fn := fun _ => fun
  | [d1, d2] => { results := [.lit (.bool true)], args := [d1, d2] }
  | _ => none }
def cutBackRow : OpenClaim := { program := "ytnfmoclmfddajaa", sum := "664a83c4f86dc1e41cce667e07d04bb695c1caeb392d5538b97d2adf89d32145", func := "cordon/cordonlaw01.CutBack", spec := "cutBack", inPlace := ["internal/bytealg.Count", "internal/bytealg.IndexByte", "internal/bytealg.Index"], unfollowed := true, recurses := true, named := ["internal/bytealg.MaxLen"], apart := false }
def CutBackSaid : Prop := cutBackRow.holds Try.pinned (OpenSpec.ofChange cutBackSpec)

/-- ITS FALSE NEIGHBOUR: 'it returns false'. Refute it at one input. -/
def cutBackWrong : ChangeSpec := { name := "cutBack", fn := fun _ => fun
  | [d1, d2] => { results := [.lit (.bool false)], args := [d1, d2] }
  | _ => none }
def CutBackWrongFalsely : Prop := cutBackRow.holds Try.pinned (OpenSpec.ofChange cutBackWrong)

/-- 'cordonlaw01.CutNumbers': WHATEVER THE INPUT: true; the input reads as it did. -/
def cutNumbersSpec : ChangeSpec := { name := "cutNumbers", fn := fun _ => fun
  | [d1, d2] => { results := [.lit (.bool true)], args := [d1, d2] }
  | _ => none }
def cutNumbersRow : OpenClaim := { program := "ytnfmoclmfddajaa", sum := "664a83c4f86dc1e41cce667e07d04bb695c1caeb392d5538b97d2adf89d32145", func := "cordon/cordonlaw01.CutNumbers", spec := "cutNumbers", inPlace := ["internal/bytealg.Count", "internal/bytealg.IndexByte", "internal/bytealg.Index"], unfollowed := true, recurses := true, named := ["internal/bytealg.MaxLen"], apart := false }
def CutNumbersSaid : Prop := cutNumbersRow.holds Try.pinned (OpenSpec.ofChange cutNumbersSpec)

/-- ITS FALSE NEIGHBOUR: 'it returns false'. Refute it at one input. -/
def cutNumbersWrong : ChangeSpec := { name := "cutNumbers", fn := fun _ => fun
  | [d1, d2] => { results := [.lit (.bool false)], args := [d1, d2] }
  | _ => none }
def CutNumbersWrongFalsely : Prop := cutNumbersRow.holds Try.pinned (OpenSpec.ofChange cutNumbersWrong)

/-- 'cordonlaw01.CutTells': WHATEVER THE INPUT: true; the input reads as it did. -/
def cutTellsSpec : ChangeSpec := { name := "cutTells", fn := fun _ => fun
  | [d1, d2, d3] => { results := [.lit (.bool true)], args := [d1, d2, d3] }
  | _ => none }
def cutTellsRow : OpenClaim := { program := "ytnfmoclmfddajaa", sum := "664a83c4f86dc1e41cce667e07d04bb695c1caeb392d5538b97d2adf89d32145", func := "cordon/cordonlaw01.CutTells", spec := "cutTells", inPlace := ["internal/bytealg.Count", "internal/bytealg.IndexByte", "internal/bytealg.Index"], unfollowed := true, recurses := true, named := ["internal/bytealg.MaxLen"], apart := false }
def CutTellsSaid : Prop := cutTellsRow.holds Try.pinned (OpenSpec.ofChange cutTellsSpec)

/-- ITS FALSE NEIGHBOUR: 'it returns false'. Refute it at one input. -/
def cutTellsWrong : ChangeSpec := { name := "cutTells", fn := fun _ => fun
  | [d1, d2, d3] => { results := [.lit (.bool false)], args := [d1, d2, d3] }
  | _ => none }
def CutTellsWrongFalsely : Prop := cutTellsRow.holds Try.pinned (OpenSpec.ofChange cutTellsWrong)

/-- 'cordonlaw04.HostUps': WHATEVER THE INPUT: true; the input reads as it did. -/
def hostUpsSpec : ChangeSpec := { name := "hostUps", fn := fun _ => fun
  | [d1, d2] => { results := [.lit (.bool true)], args := [d1, d2] }
  | _ => none }
def hostUpsRow : OpenClaim := { program := "ytnfmoclmfddajaa", sum := "664a83c4f86dc1e41cce667e07d04bb695c1caeb392d5538b97d2adf89d32145", func := "cordon/cordonlaw04.HostUps", spec := "hostUps", inPlace := ["internal/bytealg.IndexByte", "internal/bytealg.Index"], unfollowed := true, recurses := true, named := ["internal/bytealg.MaxLen"], apart := false }
def HostUpsSaid : Prop := hostUpsRow.holds Try.pinned (OpenSpec.ofChange hostUpsSpec)

/-- ITS FALSE NEIGHBOUR: 'it returns false'. Refute it at one input. -/
def hostUpsWrong : ChangeSpec := { name := "hostUps", fn := fun _ => fun
  | [d1, d2] => { results := [.lit (.bool false)], args := [d1, d2] }
  | _ => none }
def HostUpsWrongFalsely : Prop := hostUpsRow.holds Try.pinned (OpenSpec.ofChange hostUpsWrong)

/-- 'cordonlaw04.HostBack': WHATEVER THE INPUT: true; the input reads as it did. -/
def hostBackSpec : ChangeSpec := { name := "hostBack", fn := fun _ => fun
  | [d] => { results := [.lit (.bool true)], args := [d] }
  | _ => none }
def hostBackRow : OpenClaim := { program := "ytnfmoclmfddajaa", sum := "664a83c4f86dc1e41cce667e07d04bb695c1caeb392d5538b97d2adf89d32145", func := "cordon/cordonlaw04.HostBack", spec := "hostBack", inPlace := ["internal/bytealg.IndexByte", "internal/bytealg.Index"], unfollowed := true, recurses := true, named := ["internal/bytealg.MaxLen"], apart := false }
def HostBackSaid : Prop := hostBackRow.holds Try.pinned (OpenSpec.ofChange hostBackSpec)

/-- ITS FALSE NEIGHBOUR: 'it returns false'. Refute it at one input. -/
def hostBackWrong : ChangeSpec := { name := "hostBack", fn := fun _ => fun
  | [d] => { results := [.lit (.bool false)], args := [d] }
  | _ => none }
def HostBackWrongFalsely : Prop := hostBackRow.holds Try.pinned (OpenSpec.ofChange hostBackWrong)

/-- 'cordonlaw02.SortedPlays': WHATEVER THE INPUT: true; the input reads as it did. -/
def sortedPlaysSpec : ChangeSpec := { name := "sortedPlays", fn := fun _ => fun
  | [d1, d2] => { results := [.lit (.bool true)], args := [d1, d2] }
  | _ => none }
def sortedPlaysRow : OpenClaim := { program := "ytnfmoclmfddajaa", sum := "664a83c4f86dc1e41cce667e07d04bb695c1caeb392d5538b97d2adf89d32145", func := "cordon/cordonlaw02.SortedPlays", spec := "sortedPlays", unfollowed := true, recurses := true, apart := false }
def SortedPlaysSaid : Prop := sortedPlaysRow.holds Try.pinned (OpenSpec.ofChange sortedPlaysSpec)

/-- ITS FALSE NEIGHBOUR: 'it returns false'. Refute it at one input. -/
def sortedPlaysWrong : ChangeSpec := { name := "sortedPlays", fn := fun _ => fun
  | [d1, d2] => { results := [.lit (.bool false)], args := [d1, d2] }
  | _ => none }
def SortedPlaysWrongFalsely : Prop := sortedPlaysRow.holds Try.pinned (OpenSpec.ofChange sortedPlaysWrong)

/-- 'cordonlaw19.LexQuotes': WHATEVER THE INPUT: true; the input reads as it did. -/
def lexQuotesSpec : ChangeSpec := { name := "lexQuotes", fn := fun _ => fun
  | [d] => { results := [.lit (.bool true)], args := [d] }
  | _ => none }
def lexQuotesRow : OpenClaim := { program := "ytnfmoclmfddajaa", sum := "664a83c4f86dc1e41cce667e07d04bb695c1caeb392d5538b97d2adf89d32145", func := "cordon/cordonlaw19.LexQuotes", spec := "lexQuotes", inPlace := ["internal/bytealg.IndexByteString", "internal/abi.NoEscape", "sync/atomic.LoadUint32", "(*internal/sync.Mutex).Lock", "internal/race.Disable", "sync/atomic.CompareAndSwapInt32", "internal/race.Enable", "internal/race.Acquire", "(*internal/sync.Mutex).lockSlow", "internal/sync.runtime_canSpin", "internal/sync.runtime_doSpin", "internal/sync.throw", "internal/sync.runtime_nanotime", "internal/sync.runtime_SemacquireMutex", "sync/atomic.AddInt32", "(*internal/sync.Mutex).Unlock", "internal/race.ReleaseMerge", "(*internal/sync.Mutex).unlockSlow", "internal/sync.fatal", "internal/sync.runtime_Semrelease", "sync/atomic.StoreUint32"], unfollowed := true, recurses := true, apart := false }
def LexQuotesSaid : Prop := lexQuotesRow.holds Try.pinned (OpenSpec.ofChange lexQuotesSpec)

/-- ITS FALSE NEIGHBOUR: 'it returns false'. Refute it at one input. -/
def lexQuotesWrong : ChangeSpec := { name := "lexQuotes", fn := fun _ => fun
  | [d] => { results := [.lit (.bool false)], args := [d] }
  | _ => none }
def LexQuotesWrongFalsely : Prop := lexQuotesRow.holds Try.pinned (OpenSpec.ofChange lexQuotesWrong)

/-- 'cordonlaw19.LexBlanks': WHATEVER THE INPUT: true; the input reads as it did. -/
def lexBlanksSpec : ChangeSpec := { name := "lexBlanks", fn := fun _ => fun
  | [d1, d2] => { results := [.lit (.bool true)], args := [d1, d2] }
  | _ => none }
def lexBlanksRow : OpenClaim := { program := "ytnfmoclmfddajaa", sum := "664a83c4f86dc1e41cce667e07d04bb695c1caeb392d5538b97d2adf89d32145", func := "cordon/cordonlaw19.LexBlanks", spec := "lexBlanks", inPlace := ["internal/bytealg.IndexByteString", "internal/abi.NoEscape", "sync/atomic.LoadUint32", "(*internal/sync.Mutex).Lock", "internal/race.Disable", "sync/atomic.CompareAndSwapInt32", "internal/race.Enable", "internal/race.Acquire", "(*internal/sync.Mutex).lockSlow", "internal/sync.runtime_canSpin", "internal/sync.runtime_doSpin", "internal/sync.throw", "internal/sync.runtime_nanotime", "internal/sync.runtime_SemacquireMutex", "sync/atomic.AddInt32", "(*internal/sync.Mutex).Unlock", "internal/race.ReleaseMerge", "(*internal/sync.Mutex).unlockSlow", "internal/sync.fatal", "internal/sync.runtime_Semrelease", "sync/atomic.StoreUint32"], unfollowed := true, recurses := true, apart := false }
def LexBlanksSaid : Prop := lexBlanksRow.holds Try.pinned (OpenSpec.ofChange lexBlanksSpec)

/-- ITS FALSE NEIGHBOUR: 'it returns false'. Refute it at one input. -/
def lexBlanksWrong : ChangeSpec := { name := "lexBlanks", fn := fun _ => fun
  | [d1, d2] => { results := [.lit (.bool false)], args := [d1, d2] }
  | _ => none }
def LexBlanksWrongFalsely : Prop := lexBlanksRow.holds Try.pinned (OpenSpec.ofChange lexBlanksWrong)

/-- 'cordonlaw02.SortedRules': WHATEVER THE INPUT: true; the input reads as it did. -/
def sortedRulesSpec : ChangeSpec := { name := "sortedRules", fn := fun _ => fun
  | [d1, d2, d3] => { results := [.lit (.bool true)], args := [d1, d2, d3] }
  | _ => none }
def sortedRulesRow : OpenClaim := { program := "ytnfmoclmfddajaa", sum := "664a83c4f86dc1e41cce667e07d04bb695c1caeb392d5538b97d2adf89d32145", func := "cordon/cordonlaw02.SortedRules", spec := "sortedRules", unfollowed := true, recurses := true, apart := false }
def SortedRulesSaid : Prop := sortedRulesRow.holds Try.pinned (OpenSpec.ofChange sortedRulesSpec)

/-- ITS FALSE NEIGHBOUR: 'it returns false'. Refute it at one input. -/
def sortedRulesWrong : ChangeSpec := { name := "sortedRules", fn := fun _ => fun
  | [d1, d2, d3] => { results := [.lit (.bool false)], args := [d1, d2, d3] }
  | _ => none }
def SortedRulesWrongFalsely : Prop := sortedRulesRow.holds Try.pinned (OpenSpec.ofChange sortedRulesWrong)

/-- 'cordonlaw02.SortedTexts': WHATEVER THE INPUT: true; the input reads as it did. -/
def sortedTextsSpec : ChangeSpec := { name := "sortedTexts", fn := fun _ => fun
  | [d] => { results := [.lit (.bool true)], args := [d] }
  | _ => none }
def sortedTextsRow : OpenClaim := { program := "ytnfmoclmfddajaa", sum := "664a83c4f86dc1e41cce667e07d04bb695c1caeb392d5538b97d2adf89d32145", func := "cordon/cordonlaw02.SortedTexts", spec := "sortedTexts", unfollowed := true, recurses := true, apart := false }
def SortedTextsSaid : Prop := sortedTextsRow.holds Try.pinned (OpenSpec.ofChange sortedTextsSpec)

/-- ITS FALSE NEIGHBOUR: 'it returns false'. Refute it at one input. -/
def sortedTextsWrong : ChangeSpec := { name := "sortedTexts", fn := fun _ => fun
  | [d] => { results := [.lit (.bool false)], args := [d] }
  | _ => none }
def SortedTextsWrongFalsely : Prop := sortedTextsRow.holds Try.pinned (OpenSpec.ofChange sortedTextsWrong)

/-- 'cordonlaw02.SortedTells': WHATEVER THE INPUT: true; the input reads as it did. -/
def sortedTellsSpec : ChangeSpec := { name := "sortedTells", fn := fun _ => fun
  | [d1, d2, d3, d4] => { results := [.lit (.bool true)], args := [d1, d2, d3, d4] }
  | _ => none }
def sortedTellsRow : OpenClaim := { program := "ytnfmoclmfddajaa", sum := "664a83c4f86dc1e41cce667e07d04bb695c1caeb392d5538b97d2adf89d32145", func := "cordon/cordonlaw02.SortedTells", spec := "sortedTells", unfollowed := true, recurses := true, apart := false }
def SortedTellsSaid : Prop := sortedTellsRow.holds Try.pinned (OpenSpec.ofChange sortedTellsSpec)

/-- ITS FALSE NEIGHBOUR: 'it returns false'. Refute it at one input. -/
def sortedTellsWrong : ChangeSpec := { name := "sortedTells", fn := fun _ => fun
  | [d1, d2, d3, d4] => { results := [.lit (.bool false)], args := [d1, d2, d3, d4] }
  | _ => none }
def SortedTellsWrongFalsely : Prop := sortedTellsRow.holds Try.pinned (OpenSpec.ofChange sortedTellsWrong)

/- THE SECOND FORM. 'bulk': how many values and letters a reading holds, each counted each time it is reached (what is shared counts as often as it is met; a slice's spare places count too). A statement '..UptoSaid' is the law's where the arguments, and the package variables that the reading takes, are together of bulk at most 1048576: NARROWER than '..Said'. Prove '..Said' where nothing that the law and all that it calls make is longer than what came in: it says more and counts as full. Else prove '..UptoSaid'. A law counts once. -/
mutual
def uptoBulk {H : Type} : DataW H → Nat
  | .lit (.string bytes) => bytes.length + 1
  | .lit _ => 1
  | .nil => 1
  | .ptr d => uptoBulk d + 1
  | .slice elems spare => uptoBulkAll elems + uptoBulkAll spare + 1
  | .agg parts => uptoBulkAll parts + 1
  | .iface _ d => uptoBulk d + 1
  | .map entries => uptoBulkEntries entries + 1
  | .held _ => 1
def uptoBulkAll {H : Type} : List (DataW H) → Nat
  | [] => 0
  | d :: r => uptoBulk d + uptoBulkAll r
def uptoBulkEntries {H : Type} : List (Lit × DataW H) → Nat
  | [] => 0
  | x :: r => uptoBulkEntry x + uptoBulkEntries r
def uptoBulkEntry {H : Type} : Lit × DataW H → Nat
  | (.string bytes, d) => bytes.length + uptoBulk d + 1
  | (_, d) => uptoBulk d + 1
 end
def uptoSmall : (H : Type) → List (DataW H) → Bool := fun _ ds => decide (uptoBulkAll ds ≤ 1048576)
def OpenSpec.upto (s : _root_.Go.ChangeSpec) : _root_.Go.OpenSpec := { _root_.Go.OpenSpec.ofChange s with cond := some uptoSmall }

/-- 'cordonlaw04.HostParses', WHERE WHAT IT READS IS OF BULK AT MOST 1048576: true; the input reads as it did. -/
def hostParsesUptoRow : OpenClaim := { program := "ytnfmoclmfddajaa", sum := "664a83c4f86dc1e41cce667e07d04bb695c1caeb392d5538b97d2adf89d32145", func := "cordon/cordonlaw04.HostParses", spec := "hostParses", unfollowed := true, recurses := true, apart := false, narrowed := true }
def HostParsesUptoSaid : Prop := hostParsesUptoRow.holds Try.pinned (OpenSpec.upto hostParsesSpec)

/-- 'cordonlaw04.HostLong', WHERE WHAT IT READS IS OF BULK AT MOST 1048576: true; the input reads as it did. -/
def hostLongUptoRow : OpenClaim := { program := "ytnfmoclmfddajaa", sum := "664a83c4f86dc1e41cce667e07d04bb695c1caeb392d5538b97d2adf89d32145", func := "cordon/cordonlaw04.HostLong", spec := "hostLong", unfollowed := true, recurses := true, apart := false, narrowed := true }
def HostLongUptoSaid : Prop := hostLongUptoRow.holds Try.pinned (OpenSpec.upto hostLongSpec)

/-- 'cordonlaw19.LexMany', WHERE WHAT IT READS IS OF BULK AT MOST 1048576: true; the input reads as it did. -/
def lexManyUptoRow : OpenClaim := { program := "ytnfmoclmfddajaa", sum := "664a83c4f86dc1e41cce667e07d04bb695c1caeb392d5538b97d2adf89d32145", func := "cordon/cordonlaw19.LexMany", spec := "lexMany", inPlace := ["internal/bytealg.IndexByteString", "internal/abi.NoEscape"], unfollowed := true, recurses := true, apart := false, narrowed := true }
def LexManyUptoSaid : Prop := lexManyUptoRow.holds Try.pinned (OpenSpec.upto lexManySpec)

/-- 'cordonlaw01.CutSplits', WHERE WHAT IT READS IS OF BULK AT MOST 1048576: true; the input reads as it did. -/
def cutSplitsUptoRow : OpenClaim := { program := "ytnfmoclmfddajaa", sum := "664a83c4f86dc1e41cce667e07d04bb695c1caeb392d5538b97d2adf89d32145", func := "cordon/cordonlaw01.CutSplits", spec := "cutSplits", inPlace := ["internal/bytealg.Count", "internal/bytealg.IndexByte", "internal/bytealg.Index"], unfollowed := true, recurses := true, named := ["internal/bytealg.MaxLen"], apart := false, narrowed := true }
def CutSplitsUptoSaid : Prop := cutSplitsUptoRow.holds Try.pinned (OpenSpec.upto cutSplitsSpec)

/-- 'cordonlaw01.CutBack', WHERE WHAT IT READS IS OF BULK AT MOST 1048576: true; the input reads as it did. -/
def cutBackUptoRow : OpenClaim := { program := "ytnfmoclmfddajaa", sum := "664a83c4f86dc1e41cce667e07d04bb695c1caeb392d5538b97d2adf89d32145", func := "cordon/cordonlaw01.CutBack", spec := "cutBack", inPlace := ["internal/bytealg.Count", "internal/bytealg.IndexByte", "internal/bytealg.Index"], unfollowed := true, recurses := true, named := ["internal/bytealg.MaxLen"], apart := false, narrowed := true }
def CutBackUptoSaid : Prop := cutBackUptoRow.holds Try.pinned (OpenSpec.upto cutBackSpec)

/-- 'cordonlaw01.CutNumbers', WHERE WHAT IT READS IS OF BULK AT MOST 1048576: true; the input reads as it did. -/
def cutNumbersUptoRow : OpenClaim := { program := "ytnfmoclmfddajaa", sum := "664a83c4f86dc1e41cce667e07d04bb695c1caeb392d5538b97d2adf89d32145", func := "cordon/cordonlaw01.CutNumbers", spec := "cutNumbers", inPlace := ["internal/bytealg.Count", "internal/bytealg.IndexByte", "internal/bytealg.Index"], unfollowed := true, recurses := true, named := ["internal/bytealg.MaxLen"], apart := false, narrowed := true }
def CutNumbersUptoSaid : Prop := cutNumbersUptoRow.holds Try.pinned (OpenSpec.upto cutNumbersSpec)

/-- 'cordonlaw01.CutTells', WHERE WHAT IT READS IS OF BULK AT MOST 1048576: true; the input reads as it did. -/
def cutTellsUptoRow : OpenClaim := { program := "ytnfmoclmfddajaa", sum := "664a83c4f86dc1e41cce667e07d04bb695c1caeb392d5538b97d2adf89d32145", func := "cordon/cordonlaw01.CutTells", spec := "cutTells", inPlace := ["internal/bytealg.Count", "internal/bytealg.IndexByte", "internal/bytealg.Index"], unfollowed := true, recurses := true, named := ["internal/bytealg.MaxLen"], apart := false, narrowed := true }
def CutTellsUptoSaid : Prop := cutTellsUptoRow.holds Try.pinned (OpenSpec.upto cutTellsSpec)

/-- 'cordonlaw04.HostUps', WHERE WHAT IT READS IS OF BULK AT MOST 1048576: true; the input reads as it did. -/
def hostUpsUptoRow : OpenClaim := { program := "ytnfmoclmfddajaa", sum := "664a83c4f86dc1e41cce667e07d04bb695c1caeb392d5538b97d2adf89d32145", func := "cordon/cordonlaw04.HostUps", spec := "hostUps", inPlace := ["internal/bytealg.IndexByte", "internal/bytealg.Index"], unfollowed := true, recurses := true, named := ["internal/bytealg.MaxLen"], apart := false, narrowed := true }
def HostUpsUptoSaid : Prop := hostUpsUptoRow.holds Try.pinned (OpenSpec.upto hostUpsSpec)

/-- 'cordonlaw04.HostBack', WHERE WHAT IT READS IS OF BULK AT MOST 1048576: true; the input reads as it did. -/
def hostBackUptoRow : OpenClaim := { program := "ytnfmoclmfddajaa", sum := "664a83c4f86dc1e41cce667e07d04bb695c1caeb392d5538b97d2adf89d32145", func := "cordon/cordonlaw04.HostBack", spec := "hostBack", inPlace := ["internal/bytealg.IndexByte", "internal/bytealg.Index"], unfollowed := true, recurses := true, named := ["internal/bytealg.MaxLen"], apart := false, narrowed := true }
def HostBackUptoSaid : Prop := hostBackUptoRow.holds Try.pinned (OpenSpec.upto hostBackSpec)

/-- 'cordonlaw02.SortedPlays', WHERE WHAT IT READS IS OF BULK AT MOST 1048576: true; the input reads as it did. -/
def sortedPlaysUptoRow : OpenClaim := { program := "ytnfmoclmfddajaa", sum := "664a83c4f86dc1e41cce667e07d04bb695c1caeb392d5538b97d2adf89d32145", func := "cordon/cordonlaw02.SortedPlays", spec := "sortedPlays", unfollowed := true, recurses := true, apart := false, narrowed := true }
def SortedPlaysUptoSaid : Prop := sortedPlaysUptoRow.holds Try.pinned (OpenSpec.upto sortedPlaysSpec)

/-- 'cordonlaw19.LexQuotes', WHERE WHAT IT READS IS OF BULK AT MOST 1048576: true; the input reads as it did. -/
def lexQuotesUptoRow : OpenClaim := { program := "ytnfmoclmfddajaa", sum := "664a83c4f86dc1e41cce667e07d04bb695c1caeb392d5538b97d2adf89d32145", func := "cordon/cordonlaw19.LexQuotes", spec := "lexQuotes", inPlace := ["internal/bytealg.IndexByteString", "internal/abi.NoEscape", "sync/atomic.LoadUint32", "(*internal/sync.Mutex).Lock", "internal/race.Disable", "sync/atomic.CompareAndSwapInt32", "internal/race.Enable", "internal/race.Acquire", "(*internal/sync.Mutex).lockSlow", "internal/sync.runtime_canSpin", "internal/sync.runtime_doSpin", "internal/sync.throw", "internal/sync.runtime_nanotime", "internal/sync.runtime_SemacquireMutex", "sync/atomic.AddInt32", "(*internal/sync.Mutex).Unlock", "internal/race.ReleaseMerge", "(*internal/sync.Mutex).unlockSlow", "internal/sync.fatal", "internal/sync.runtime_Semrelease", "sync/atomic.StoreUint32"], unfollowed := true, recurses := true, apart := false, narrowed := true }
def LexQuotesUptoSaid : Prop := lexQuotesUptoRow.holds Try.pinned (OpenSpec.upto lexQuotesSpec)

/-- 'cordonlaw19.LexBlanks', WHERE WHAT IT READS IS OF BULK AT MOST 1048576: true; the input reads as it did. -/
def lexBlanksUptoRow : OpenClaim := { program := "ytnfmoclmfddajaa", sum := "664a83c4f86dc1e41cce667e07d04bb695c1caeb392d5538b97d2adf89d32145", func := "cordon/cordonlaw19.LexBlanks", spec := "lexBlanks", inPlace := ["internal/bytealg.IndexByteString", "internal/abi.NoEscape", "sync/atomic.LoadUint32", "(*internal/sync.Mutex).Lock", "internal/race.Disable", "sync/atomic.CompareAndSwapInt32", "internal/race.Enable", "internal/race.Acquire", "(*internal/sync.Mutex).lockSlow", "internal/sync.runtime_canSpin", "internal/sync.runtime_doSpin", "internal/sync.throw", "internal/sync.runtime_nanotime", "internal/sync.runtime_SemacquireMutex", "sync/atomic.AddInt32", "(*internal/sync.Mutex).Unlock", "internal/race.ReleaseMerge", "(*internal/sync.Mutex).unlockSlow", "internal/sync.fatal", "internal/sync.runtime_Semrelease", "sync/atomic.StoreUint32"], unfollowed := true, recurses := true, apart := false, narrowed := true }
def LexBlanksUptoSaid : Prop := lexBlanksUptoRow.holds Try.pinned (OpenSpec.upto lexBlanksSpec)

/-- 'cordonlaw02.SortedRules', WHERE WHAT IT READS IS OF BULK AT MOST 1048576: true; the input reads as it did. -/
def sortedRulesUptoRow : OpenClaim := { program := "ytnfmoclmfddajaa", sum := "664a83c4f86dc1e41cce667e07d04bb695c1caeb392d5538b97d2adf89d32145", func := "cordon/cordonlaw02.SortedRules", spec := "sortedRules", unfollowed := true, recurses := true, apart := false, narrowed := true }
def SortedRulesUptoSaid : Prop := sortedRulesUptoRow.holds Try.pinned (OpenSpec.upto sortedRulesSpec)

/-- 'cordonlaw02.SortedTexts', WHERE WHAT IT READS IS OF BULK AT MOST 1048576: true; the input reads as it did. -/
def sortedTextsUptoRow : OpenClaim := { program := "ytnfmoclmfddajaa", sum := "664a83c4f86dc1e41cce667e07d04bb695c1caeb392d5538b97d2adf89d32145", func := "cordon/cordonlaw02.SortedTexts", spec := "sortedTexts", unfollowed := true, recurses := true, apart := false, narrowed := true }
def SortedTextsUptoSaid : Prop := sortedTextsUptoRow.holds Try.pinned (OpenSpec.upto sortedTextsSpec)

/-- 'cordonlaw02.SortedTells', WHERE WHAT IT READS IS OF BULK AT MOST 1048576: true; the input reads as it did. -/
def sortedTellsUptoRow : OpenClaim := { program := "ytnfmoclmfddajaa", sum := "664a83c4f86dc1e41cce667e07d04bb695c1caeb392d5538b97d2adf89d32145", func := "cordon/cordonlaw02.SortedTells", spec := "sortedTells", unfollowed := true, recurses := true, apart := false, narrowed := true }
def SortedTellsUptoSaid : Prop := sortedTellsUptoRow.holds Try.pinned (OpenSpec.upto sortedTellsSpec)

end Rows
end Go.Proofs.Ytnfmoclmfddajaa
