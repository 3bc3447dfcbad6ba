/- Signs: the first of ";". -/
import Derived.Test.YtbnemkdkeaiaoaaVd
namespace Go.Proofs.Ytbnemkdkeaiaoaa
open Go Go.RowKit
set_option linter.unusedSimpArgs false
set_option linter.unusedVariables false
set_option maxRecDepth 100000
set_option maxHeartbeats 4000000
theorem lives19_call (H : Heap) : VCall Try.prog 5 [] H (fun x K => x = .sc (.bool true) ∧ K = H) := VCall.closed mixed 80 (by kernel_rfl)
theorem sidx59 (H : Heap) : VCall Try.prog 16 [strV [32, 9, 13, 10], bV 59] H (fun x K => x = .sc (.int .i64 (-1)) ∧ K = H) := VCall.closedA mixed 60 (by simp [nameless_strV, nameless_bV]) (by kernel_rfl)
theorem sidx32 (H : Heap) : VCall Try.prog 16 [strV [32, 9, 13, 10], bV 32] H (fun x K => x = .sc (.int .i64 0) ∧ K = H) := VCall.closedA mixed 60 (by simp [nameless_strV, nameless_bV]) (by kernel_rfl)
theorem letter59 (H : Heap) : VCall Try.prog 19 [bV 59] H (fun x K => x = .sc (.bool false) ∧ K = H) := VCall.closedA mixed 60 (by simp [nameless_bV]) (by kernel_rfl)
theorem digit59 (H : Heap) : VCall Try.prog 21 [bV 59] H (fun x K => x = .sc (.bool false) ∧ K = H) := VCall.closedA mixed 60 (by simp [nameless_bV]) (by kernel_rfl)
end Go.Proofs.Ytbnemkdkeaiaoaa
