import Derived.Test.YtmmjgbdihgdekaaDoorG5
import Derived.Test.YtmmjgbdihgdekaaDoorG8
/- The law DigestWrites, walked. -/
namespace Go.Proofs.YtmmjgbdihgdekaaDoor
open Go Go.RowKit
set_option linter.unusedSimpArgs false
set_option linter.unusedVariables false
set_option maxRecDepth 100000
set_option maxHeartbeats 4000000
theorem b64_len : ∀ l : List UInt8, (b64 l).length ≤ 2 * l.length + 4
  | a :: b :: c :: r => by
    have e : b64 (a :: b :: c :: r) = sgn (a.toNat / 4) :: sgn (a.toNat % 4 * 16 + b.toNat / 16) :: sgn (b.toNat % 16 * 4 + c.toNat / 64) :: sgn (c.toNat % 64) :: b64 r := by cases r <;> rfl
    have := b64_len r
    rw [e]
    simp only [List.length_cons]
    omega
  | [a, b] => by simp [b64]
  | [a] => by simp [b64]
  | [] => by simp [b64]
theorem rreadY_call {t : List UInt8} (h : b64 (r64 t) = t) (hl : t.length ≤ 1000) (H : Heap) : VCall Tryd.prog 63 [strV t] H (fun x K => x = .tp [roB (r64 t), booV true] ∧ K = H) := by
  have : r64R t = .tp [roB (r64 t), booV true] := by unfold r64R; rw [if_pos h]
  rw [← this]; exact rread_call t H hl
theorem rreadN_call {t : List UInt8} (h : ¬ b64 (r64 t) = t) (hl : t.length ≤ 1000) (H : Heap) : VCall Tryd.prog 63 [strV t] H (fun x K => x = .tp [.ro 0 [], booV false] ∧ K = H) := by
  have : r64R t = .tp [.ro 0 [], booV false] := by unfold r64R; rw [if_neg h]
  rw [← this]; exact rread_call t H hl
theorem readS_call {t x : List UInt8} (h : readP t = some x) (hl : t.length ≤ 1000) (H : Heap) : VCall Tryd.prog 61 [roB t] H (fun v K => v = .tp [roB x, iV 0] ∧ K = H) := by
  rw [← readV_some h]; exact read_call t H hl
theorem readN_call {t : List UInt8} (h : readP t = none) (hl : t.length ≤ 1000) (H : Heap) : VCall Tryd.prog 61 [roB t] H (fun v K => v = .tp [.ro 0 [], iV 2] ∧ K = H) := by
  rw [← readV_none h]; exact read_call t H hl
end Go.Proofs.YtmmjgbdihgdekaaDoor

