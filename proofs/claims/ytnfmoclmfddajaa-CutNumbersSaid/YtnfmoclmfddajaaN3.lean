/- The statement CutNumbers, walked. -/
import Derived.Test.YtnfmoclmfddajaaN2
namespace Go.Proofs.Ytnfmoclmfddajaa
open Go Go.RowKit
set_option linter.unusedSimpArgs false
set_option linter.unusedVariables false
set_option maxRecDepth 100000
set_option maxHeartbeats 4000000
theorem mixed : (Try.prog).follows .mixedOrders = true := by kernel_rfl
theorem lives01_call (H : Heap) : VCall Try.prog 25 [] H (fun x K => x = .sc (.bool true) ∧ K = H) := VCall.closed mixed 60 (by kernel_rfl)
theorem cutNumbers_walk (l : List UInt8) (most : Int) (hl : l.length ≤ 9223372036854775807) (h1 : most < 9223372036854775808) : VCall Try.prog 8 [roB l, iV most] ⟨[], 0⟩ (fun x _ => x = .sc (.bool true)) := by
  refine VCall.go Try.func8 rfl ?_
  repeat' (first | (with_reducible refine And.intro ?_ ?_) | ((conv => whnf); first | (with_reducible refine And.intro ?_ ?_) | (refine ifB_intro (fun hc => ?_) (fun hc => ?_) <;> (try simp only [str_size, str_list, str_nil, decide_eq_true_eq, decide_eq_false_iff_not, beq_iff_eq, bne_iff_ne, beq_eq_false_iff_ne, bne_eq_false_iff_eq, ne_eq, Bool.not_eq_true', Bool.not_eq_false', Bool.not_true, Bool.not_false, gt_iff_lt, ge_iff_le, Int.not_lt, Int.not_le, Decidable.not_not] at hc) <;> (try (exfalso; omega))) | (refine Exists.intro _ (And.intro (by rfl) ?_)) | (with_reducible refine stopD ?_) | (with_reducible refine stopW ?_) | (refine GCall.mk ((lives01_call _).mono ?_); rintro _ _ ⟨rfl, rfl⟩) | (with_reducible refine stopC ?_) | (with_reducible refine stopR ?_)))
  all_goals (first | exact Done'.mk rfl | refine GCall'.mk ((num_call l most _ (by omega) (by omega) (by omega)).mono ?_))
  rintro _ _ ⟨rfl, rfl⟩
  repeat' (first | (with_reducible refine And.intro ?_ ?_) | ((conv => whnf); first | (with_reducible refine And.intro ?_ ?_) | (refine ifB_intro (fun hc => ?_) (fun hc => ?_) <;> (try simp only [str_size, str_list, str_nil, decide_eq_true_eq, decide_eq_false_iff_not, beq_iff_eq, bne_iff_ne, beq_eq_false_iff_ne, bne_eq_false_iff_eq, ne_eq, Bool.not_eq_true', Bool.not_eq_false', Bool.not_true, Bool.not_false, gt_iff_lt, ge_iff_le, Int.not_lt, Int.not_le, Decidable.not_not] at hc) <;> (try (exfalso; omega))) | (refine Exists.intro _ (And.intro (by exact vbytes_map l) ?_)) | (with_reducible refine stopD ?_) | (with_reducible refine stopW ?_) | (refine GCall.mk ((rnum_call l most _ (by omega) (by omega) (by omega)).mono ?_); rintro _ _ ⟨rfl, rfl⟩) | (with_reducible refine stopC ?_) | (with_reducible refine stopR ?_)))
  all_goals (first | exact absurd trivial hc | rw [List.length_map] | refine Done'.mk ?_)
  exact congrArg (fun b => VV.sc (.bool b)) (beq_self_eq_true (num l most).isSome)
end Go.Proofs.Ytnfmoclmfddajaa
