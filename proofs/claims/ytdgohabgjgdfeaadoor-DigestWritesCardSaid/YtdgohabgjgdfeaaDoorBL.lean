/- The fixed fact of layer 38, by reckoning; a block of the sum is known. -/
import Derived.Test.YtdgohabgjgdfeaaDoorS5
namespace Go.Proofs.YtdgohabgjgdfeaaDoor
open Go Go.RowKit
set_option maxRecDepth 100000
set_option maxHeartbeats 4000000
theorem lives38_run : isV (vcallO orcB Tryd.prog (vcodeO orcB Tryd.prog 80) 14 [] ⟨[], 0⟩) (.sc (.bool true)) = true := by kernel_rfl
theorem lives38_call (H : Heap) : VCall Tryd.prog 14 [] H (fun x K => x = .sc (.bool true) ∧ K = H) := VCall.closedO orcB_ok mixed 80 (by simp) lives38_run
end Go.Proofs.YtdgohabgjgdfeaaDoor
