import Derived.Test.YtmmjgbdihgdekaaDoorH5
import Derived.Test.YtmmjgbdihgdekaaDoorH6
/- The fixed fact of layer 32, by reckoning. -/
namespace Go.Proofs.YtmmjgbdihgdekaaDoor
open Go Go.RowKit
set_option maxRecDepth 100000
set_option maxHeartbeats 4000000
theorem lives32_run : isV (vcallO orcC Tryd.prog (vcodeO orcC Tryd.prog 120) 21 [] ⟨[], 0⟩) (.sc (.bool true)) = true := by kernel_rfl
theorem lives32_call (H : Heap) : VCall Tryd.prog 21 [] H (fun x K => x = .sc (.bool true) ∧ K = H) := VCall.closedO orcC_ok mixed 120 (by simp) lives32_run
end Go.Proofs.YtmmjgbdihgdekaaDoor

