import Derived.Test.YtmmjgbdihgdekaaDoorI4
import Derived.Test.YtmmjgbdihgdekaaDoorI6
/- Lower and Token of the document. -/
namespace Go.Proofs.YtmmjgbdihgdekaaDoor
open Go Go.RowKit
set_option linter.unusedSimpArgs false
set_option linter.unusedVariables false
set_option maxRecDepth 100000
set_option maxHeartbeats 4000000
end Go.Proofs.YtmmjgbdihgdekaaDoor

/- Lower of the document. -/
namespace Go.Proofs.YtmmjgbdihgdekaaDoor
open Go Go.RowKit
set_option linter.unusedSimpArgs false
set_option linter.unusedVariables false
set_option maxRecDepth 100000
set_option maxHeartbeats 4000000
end Go.Proofs.YtmmjgbdihgdekaaDoor

/- The document's free bytes, hexadecimal signs and coded texts, walked. -/
namespace Go.Proofs.YtmmjgbdihgdekaaDoor
open Go Go.RowKit
set_option linter.unusedSimpArgs false
set_option linter.unusedVariables false
set_option maxRecDepth 100000
set_option maxHeartbeats 16000000
theorem GQuo.u8 {a b : Int} {K : Int → Prop} (h : 0 ≤ a ∧ 0 < b ∧ a < 256) (k : K (a / b)) : GQuo .u8 a b K := ⟨by
  have h1 : a.tdiv b = a / b := Int.tdiv_eq_ediv_of_nonneg h.1
  have h2 : 0 ≤ a / b := Int.ediv_nonneg h.1 (by omega)
  have h3 : a / b ≤ a := Int.ediv_le_self b h.1
  rw [h1]
  exact (GAr.u8s ⟨h2, by omega⟩ k).out⟩
theorem szP (l : List UInt8) : (⟨l.toArray⟩ : ByteArray).size = l.length := by simp [ByteArray.size]
end Go.Proofs.YtmmjgbdihgdekaaDoor

/- The document's coded, walked. -/
namespace Go.Proofs.YtmmjgbdihgdekaaDoor
open Go Go.RowKit
set_option linter.unusedSimpArgs false
set_option linter.unusedVariables false
set_option maxRecDepth 100000
set_option maxHeartbeats 16000000
end Go.Proofs.YtmmjgbdihgdekaaDoor

/- The document's text of pairs, walked. -/
namespace Go.Proofs.YtmmjgbdihgdekaaDoor
open Go Go.RowKit
set_option linter.unusedSimpArgs false
set_option linter.unusedVariables false
set_option maxRecDepth 100000
set_option maxHeartbeats 16000000
end Go.Proofs.YtmmjgbdihgdekaaDoor

