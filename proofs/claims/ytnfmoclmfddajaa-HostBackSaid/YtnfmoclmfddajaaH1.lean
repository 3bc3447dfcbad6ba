/- Parts of hosts. -/
import Derived.Test.YtnfmoclmfddajaaD4
namespace Go.Proofs.Ytnfmoclmfddajaa
open Go Go.RowKit
set_option linter.unusedSimpArgs false
set_option linter.unusedVariables false
set_option maxRecDepth 100000
set_option maxHeartbeats 4000000
theorem lives04_call (H : Heap) : VCall Try.prog 18 [] H (fun x K => x = .sc (.bool true) ∧ K = H) := VCall.closed mixed 80 (by kernel_rfl)
/-- No byte of a part. -/
def notPart (b : UInt8) : Bool := b != 45 && (Nat.blt b.toNat 48 || Nat.blt 57 b.toNat) && (Nat.blt b.toNat 97 || Nat.blt 122 b.toNat)
theorem partB_call (b : UInt8) (H : Heap) : VCall Try.prog 113 [bV b] H (fun x K => x = booV (notPart b) ∧ K = H) := VCall.bytes mixed 30 notPart (by kernel_rfl) b H
end Go.Proofs.Ytnfmoclmfddajaa
