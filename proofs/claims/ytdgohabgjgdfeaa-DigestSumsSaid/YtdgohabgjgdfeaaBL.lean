/- The fixed fact of layer 38, by reckoning; a block of the sum is known. -/
import Derived.Test.YtdgohabgjgdfeaaS5
namespace Go.Proofs.Ytdgohabgjgdfeaa
open Go Go.RowKit
set_option maxRecDepth 100000
set_option maxHeartbeats 4000000
theorem lives38_run : isV (vcallO orcB Try.prog (vcodeO orcB Try.prog 80) 10 [] ⟨[], 0⟩) (.sc (.bool true)) = true := by kernel_rfl
theorem lives38_call (H : Heap) : VCall Try.prog 10 [] H (fun x K => x = .sc (.bool true) ∧ K = H) := VCall.closedO orcB_ok mixed 80 (by simp) lives38_run
end Go.Proofs.Ytdgohabgjgdfeaa
