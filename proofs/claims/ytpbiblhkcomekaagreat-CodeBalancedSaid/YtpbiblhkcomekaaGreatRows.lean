/-
  No cell of these rows narrows 'for every input' (looked for: loops, veiled, ifaces, maps, wideKeys, modest, calm, conditions, laid).
  DERIVED. THE GIVEN ROWS OF THIS SEAT. 4 by the template 'for every input the law returns true; each argument reads behind the call as it read before'; 0 by the template 'total and deterministic' (their statements: YtpbiblhkcomekaaGreatTotals.lean).
  GIVEN WITH THE SEED: the statements are not yours to turn. If you find one false, say at which input.
  Laid BY PROGRAM, IN A SANDBOX (cutbox-rows.mjs): the forced cells as the released guide's own fill.sh prints them over the translation d4fef44011fcd189… (all of the seat's roots in one cut). By AI agents, Wed Nov 11 2026. No macro, syntax, notation, axiom, sorry.
-/
import Derived.Test.YtpbiblhkcomekaaGreatChecked
import GoSem.Claim
import GoSem.ClaimJoined
import GoSem.ClaimMapViews
import Derived.JoinedTies
import Derived.KernelRfl
namespace Go.Proofs.YtpbiblhkcomekaaGreat
/- THE CELL 'sum', in the pinned program and in every row, IS THE sha256 OF THE DUMP (.gsa) THAT YtpbiblhkcomekaaGreatProg.lean LOADS. Nothing in Lean hashes anything: it is a label: what it is worth is what the hold of that sum in a sandbox is worth. -/
noncomputable def Tryz.pinned : Pinned := { name := "ytpbiblhkcomekaagreat", sum := "d4fef44011fcd189ef7872cdb43651581699bc93b93b9ac83a7dfbf9e778976e", checked := Tryz.checked }
namespace Rows
def none {H : Type} : Left H := { results := [], args := [] }

/-- 'cordonlaw22.CodeBalanced': WHATEVER THE INPUT: true; the input reads as it did. -/
def codeBalancedSpec : ChangeSpec := { name := "codeBalanced", fn := fun _ => fun
  | [d] => { results := [.lit (.bool true)], args := [d] }
  | _ => none }
def codeBalancedRow : OpenClaim := { program := "ytpbiblhkcomekaagreat", sum := "d4fef44011fcd189ef7872cdb43651581699bc93b93b9ac83a7dfbf9e778976e", func := "cordon/cordonlaw22.CodeBalanced", spec := "codeBalanced", inPlace := ["internal/bytealg.IndexByteString", "internal/abi.NoEscape"], unfollowed := true, recurses := true, apart := false }
def CodeBalancedSaid : Prop := codeBalancedRow.holds Tryz.pinned (OpenSpec.ofChange codeBalancedSpec)

/-- ITS FALSE NEIGHBOUR: 'it returns false'. Refute it at one input. -/
def codeBalancedWrong : ChangeSpec := { name := "codeBalanced", fn := fun _ => fun
  | [d] => { results := [.lit (.bool false)], args := [d] }
  | _ => none }
def CodeBalancedWrongFalsely : Prop := codeBalancedRow.holds Tryz.pinned (OpenSpec.ofChange codeBalancedWrong)

/-- 'cordonlaw22.CodeLimits': WHATEVER THE INPUT: true; the input reads as it did. -/
def codeLimitsSpec : ChangeSpec := { name := "codeLimits", fn := fun _ => fun
  | [d1, d2] => { results := [.lit (.bool true)], args := [d1, d2] }
  | _ => none }
def codeLimitsRow : OpenClaim := { program := "ytpbiblhkcomekaagreat", sum := "d4fef44011fcd189ef7872cdb43651581699bc93b93b9ac83a7dfbf9e778976e", func := "cordon/cordonlaw22.CodeLimits", spec := "codeLimits", inPlace := ["internal/bytealg.IndexByteString", "internal/abi.NoEscape"], unfollowed := true, recurses := true, apart := false }
def CodeLimitsSaid : Prop := codeLimitsRow.holds Tryz.pinned (OpenSpec.ofChange codeLimitsSpec)

/-- ITS FALSE NEIGHBOUR: 'it returns false'. Refute it at one input. -/
def codeLimitsWrong : ChangeSpec := { name := "codeLimits", fn := fun _ => fun
  | [d1, d2] => { results := [.lit (.bool false)], args := [d1, d2] }
  | _ => none }
def CodeLimitsWrongFalsely : Prop := codeLimitsRow.holds Tryz.pinned (OpenSpec.ofChange codeLimitsWrong)

/-- 'cordonlaw22.CodeCompiles': WHATEVER THE INPUT: true; the input reads as it did. -/
def codeCompilesSpec : ChangeSpec := { name := "codeCompiles", fn := fun _ => fun
  | [d] => { results := [.lit (.bool true)], args := [d] }
  | _ => none }
def codeCompilesRow : OpenClaim := { program := "ytpbiblhkcomekaagreat", sum := "d4fef44011fcd189ef7872cdb43651581699bc93b93b9ac83a7dfbf9e778976e", func := "cordon/cordonlaw22.CodeCompiles", spec := "codeCompiles", inPlace := ["internal/bytealg.IndexByteString", "internal/abi.NoEscape"], unfollowed := true, recurses := true, apart := false }
def CodeCompilesSaid : Prop := codeCompilesRow.holds Tryz.pinned (OpenSpec.ofChange codeCompilesSpec)

/-- ITS FALSE NEIGHBOUR: 'it returns false'. Refute it at one input. -/
def codeCompilesWrong : ChangeSpec := { name := "codeCompiles", fn := fun _ => fun
  | [d] => { results := [.lit (.bool false)], args := [d] }
  | _ => none }
def CodeCompilesWrongFalsely : Prop := codeCompilesRow.holds Tryz.pinned (OpenSpec.ofChange codeCompilesWrong)

/-- 'cordonlaw22.CodeMakes': WHATEVER THE INPUT: true; the input reads as it did. -/
def codeMakesSpec : ChangeSpec := { name := "codeMakes", fn := fun _ => fun
  | [d1, d2, d3, d4, d5] => { results := [.lit (.bool true)], args := [d1, d2, d3, d4, d5] }
  | _ => none }
def codeMakesRow : OpenClaim := { program := "ytpbiblhkcomekaagreat", sum := "d4fef44011fcd189ef7872cdb43651581699bc93b93b9ac83a7dfbf9e778976e", func := "cordon/cordonlaw22.CodeMakes", spec := "codeMakes", inPlace := ["internal/bytealg.IndexByteString", "internal/abi.NoEscape"], unfollowed := true, recurses := true, apart := false }
def CodeMakesSaid : Prop := codeMakesRow.holds Tryz.pinned (OpenSpec.ofChange codeMakesSpec)

/-- ITS FALSE NEIGHBOUR: 'it returns false'. Refute it at one input. -/
def codeMakesWrong : ChangeSpec := { name := "codeMakes", fn := fun _ => fun
  | [d1, d2, d3, d4, d5] => { results := [.lit (.bool false)], args := [d1, d2, d3, d4, d5] }
  | _ => none }
def CodeMakesWrongFalsely : Prop := codeMakesRow.holds Tryz.pinned (OpenSpec.ofChange codeMakesWrong)

/- THE SECOND FORM. 'bulk': how many values and letters a reading holds, each counted each time it is reached (what is shared counts as often as it is met; a slice's spare places count too). A statement '..UptoSaid' is the law's where the arguments, and the package variables that the reading takes, are together of bulk at most 1048576: NARROWER than '..Said'. Prove '..Said' where nothing that the law and all that it calls make is longer than what came in: it says more and counts as full. Else prove '..UptoSaid'. A law counts once. -/
mutual
def uptoBulk {H : Type} : DataW H → Nat
  | .lit (.string bytes) => bytes.length + 1
  | .lit _ => 1
  | .nil => 1
  | .ptr d => uptoBulk d + 1
  | .slice elems spare => uptoBulkAll elems + uptoBulkAll spare + 1
  | .agg parts => uptoBulkAll parts + 1
  | .iface _ d => uptoBulk d + 1
  | .map entries => uptoBulkEntries entries + 1
  | .held _ => 1
def uptoBulkAll {H : Type} : List (DataW H) → Nat
  | [] => 0
  | d :: r => uptoBulk d + uptoBulkAll r
def uptoBulkEntries {H : Type} : List (Lit × DataW H) → Nat
  | [] => 0
  | x :: r => uptoBulkEntry x + uptoBulkEntries r
def uptoBulkEntry {H : Type} : Lit × DataW H → Nat
  | (.string bytes, d) => bytes.length + uptoBulk d + 1
  | (_, d) => uptoBulk d + 1
 end
def uptoSmall : (H : Type) → List (DataW H) → Bool := fun _ ds => decide (uptoBulkAll ds ≤ 1048576)
def OpenSpec.upto (s : _root_.Go.ChangeSpec) : _root_.Go.OpenSpec := { _root_.Go.OpenSpec.ofChange s with cond := some uptoSmall }

/-- 'cordonlaw22.CodeBalanced', WHERE WHAT IT READS IS OF BULK AT MOST 1048576: true; the input reads as it did. -/
def codeBalancedUptoRow : OpenClaim := { program := "ytpbiblhkcomekaagreat", sum := "d4fef44011fcd189ef7872cdb43651581699bc93b93b9ac83a7dfbf9e778976e", func := "cordon/cordonlaw22.CodeBalanced", spec := "codeBalanced", inPlace := ["internal/bytealg.IndexByteString", "internal/abi.NoEscape"], unfollowed := true, recurses := true, apart := false, narrowed := true }
def CodeBalancedUptoSaid : Prop := codeBalancedUptoRow.holds Tryz.pinned (OpenSpec.upto codeBalancedSpec)

/-- 'cordonlaw22.CodeLimits', WHERE WHAT IT READS IS OF BULK AT MOST 1048576: true; the input reads as it did. -/
def codeLimitsUptoRow : OpenClaim := { program := "ytpbiblhkcomekaagreat", sum := "d4fef44011fcd189ef7872cdb43651581699bc93b93b9ac83a7dfbf9e778976e", func := "cordon/cordonlaw22.CodeLimits", spec := "codeLimits", inPlace := ["internal/bytealg.IndexByteString", "internal/abi.NoEscape"], unfollowed := true, recurses := true, apart := false, narrowed := true }
def CodeLimitsUptoSaid : Prop := codeLimitsUptoRow.holds Tryz.pinned (OpenSpec.upto codeLimitsSpec)

/-- 'cordonlaw22.CodeCompiles', WHERE WHAT IT READS IS OF BULK AT MOST 1048576: true; the input reads as it did. -/
def codeCompilesUptoRow : OpenClaim := { program := "ytpbiblhkcomekaagreat", sum := "d4fef44011fcd189ef7872cdb43651581699bc93b93b9ac83a7dfbf9e778976e", func := "cordon/cordonlaw22.CodeCompiles", spec := "codeCompiles", inPlace := ["internal/bytealg.IndexByteString", "internal/abi.NoEscape"], unfollowed := true, recurses := true, apart := false, narrowed := true }
def CodeCompilesUptoSaid : Prop := codeCompilesUptoRow.holds Tryz.pinned (OpenSpec.upto codeCompilesSpec)

/-- 'cordonlaw22.CodeMakes', WHERE WHAT IT READS IS OF BULK AT MOST 1048576: true; the input reads as it did. -/
def codeMakesUptoRow : OpenClaim := { program := "ytpbiblhkcomekaagreat", sum := "d4fef44011fcd189ef7872cdb43651581699bc93b93b9ac83a7dfbf9e778976e", func := "cordon/cordonlaw22.CodeMakes", spec := "codeMakes", inPlace := ["internal/bytealg.IndexByteString", "internal/abi.NoEscape"], unfollowed := true, recurses := true, apart := false, narrowed := true }
def CodeMakesUptoSaid : Prop := codeMakesUptoRow.holds Tryz.pinned (OpenSpec.upto codeMakesSpec)

end Rows
end Go.Proofs.YtpbiblhkcomekaaGreat
