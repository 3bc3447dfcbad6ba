/- Words that are turned, walked. -/
import Derived.Test.YtdgohabgjgdfeaaDoorS1
namespace Go.Proofs.YtdgohabgjgdfeaaDoor
open Go Go.RowKit
set_option linter.unusedSimpArgs false
set_option linter.unusedVariables false
set_option maxRecDepth 100000
set_option maxHeartbeats 4000000
def wV (n : Nat) : VV := .sc (.int .u32 (n : Int))
theorem rot_call (x : Nat) (hx : x < 4294967296) (a : Nat) (h1 : 1 ≤ a) (h2 : a ≤ 31) (z : Int) (hz : z = -(a : Int)) (H : Heap) : VCall Tryd.prog 160 [wV x, iV z] H (fun v K => v = wV (rl x (32 - a)) ∧ K = H) := by
  have hb : bitZ .and .u64 (z % 18446744073709551616) 31 = ((32 - a : Nat) : Int) := by
    have e : z % 18446744073709551616 = ((18446744073709551616 - a : Nat) : Int) := by omega
    rw [e]
    have := and_u64 (a := 18446744073709551616 - a) (b := 31) (by omega) (by omega)
    refine Eq.trans this ?_
    rw [show (31 : Nat) = 2 ^ 5 - 1 by rfl, Nat.and_two_pow_sub_one_eq_mod]
    omega
  refine VCall.go Tryd.func160 rfl ?_
  repeat' (first | (with_reducible refine And.intro ?_ ?_) | ((with_reducible intro hc); (try simp only [leZ_eq, ltZ_eq, eqZ_eq, str_size, str_list, str_nil, List.toList_toArray, decide_eq_true_eq, decide_eq_false_iff_not, beq_iff_eq, bne_iff_ne, beq_eq_false_iff_ne, bne_eq_false_iff_eq, ne_eq, Bool.not_eq_true', Bool.not_eq_false', Bool.not_true, Bool.not_false, gt_iff_lt, ge_iff_le, Int.not_lt, Int.not_le, Decidable.not_not] at hc); (first | (exact absurd rfl hc) | (exact absurd trivial hc) | (exfalso; omega) | skip)) | ((conv => whnf); first | (with_reducible refine And.intro ?_ ?_) | (refine ifB_intro (fun hc => ?_) (fun hc => ?_) <;> (try simp only [leZ_eq, ltZ_eq, eqZ_eq, str_size, str_list, str_nil, List.toList_toArray, decide_eq_true_eq, decide_eq_false_iff_not, beq_iff_eq, bne_iff_ne, beq_eq_false_iff_ne, bne_eq_false_iff_eq, ne_eq, Bool.not_eq_true', Bool.not_eq_false', Bool.not_true, Bool.not_false, gt_iff_lt, ge_iff_le, Int.not_lt, Int.not_le, Decidable.not_not] at hc) <;> (first | (exact absurd rfl hc) | (exact absurd trivial hc) | (exfalso; omega) | skip)) | (refine GAr.i64 (by omega) ?_) | ((refine GAr.i64w ?_); intro kw hk1 hk2) | (refine GAr.u8s (by omega) ?_) | (refine GAr.u8 ?_) | (refine GAr.u64s (by omega) ?_) | (refine GAr.u32s (by omega) ?_) | (refine GAr.u64 ?_) | (refine GAr.u32 ?_) | (refine GQuo.i64 (by omega) ?_) | (refine GRem.pos (by omega) ?_) | (with_reducible refine stopA ?_) | (refine Exists.intro _ (And.intro (by rfl) ?_)) | (refine GOp.via (by rfl) ?_) | (with_reducible refine stopO ?_) | (with_reducible refine stopE ?_) | (with_reducible refine stopD ?_) | (with_reducible refine stopW ?_) | (with_reducible refine stopG ?_) | (with_reducible refine stopC ?_) | (with_reducible refine stopR ?_)))
  all_goals (first | omega | skip)
  refine Done'.mk ⟨?_, rfl⟩
  refine scI_eq (x := bitZ .or .u32 (shlZ .u32 (x : Int) (bitZ .and .u64 (z % 18446744073709551616) 31)) (shrZ .u32 (x : Int) (32 - bitZ .and .u64 (z % 18446744073709551616) 31))) ?_
  rw [hb, show (32 : Int) - ((32 - a : Nat) : Int) = ((32 - (32 - a) : Nat) : Int) by omega, shl_u32 (by omega), shr_u32 (by omega), or_u32 (Nat.mod_lt _ (by omega)) (div_lt32 hx _)]
  rfl
theorem turn_call (x : Nat) (hx : x < 4294967296) (a b c : Nat) (h1 : 1 ≤ a ∧ a ≤ 31) (h2 : 1 ≤ b ∧ b ≤ 31) (h3 : 1 ≤ c ∧ c ≤ 31) (H : Heap) : VCall Tryd.prog 162 [wV x, iV a, iV b, iV c] H (fun v K => v = wV (tn x a b c) ∧ K = H) := by
  refine VCall.go Tryd.func162 rfl ?_
  repeat' (first | (with_reducible refine And.intro ?_ ?_) | ((with_reducible intro hc); (try simp only [leZ_eq, ltZ_eq, eqZ_eq, str_size, str_list, str_nil, List.toList_toArray, decide_eq_true_eq, decide_eq_false_iff_not, beq_iff_eq, bne_iff_ne, beq_eq_false_iff_ne, bne_eq_false_iff_eq, ne_eq, Bool.not_eq_true', Bool.not_eq_false', Bool.not_true, Bool.not_false, gt_iff_lt, ge_iff_le, Int.not_lt, Int.not_le, Decidable.not_not] at hc); (first | (exact absurd rfl hc) | (exact absurd trivial hc) | (exfalso; omega) | skip)) | ((conv => whnf); first | (with_reducible refine And.intro ?_ ?_) | (refine ifB_intro (fun hc => ?_) (fun hc => ?_) <;> (try simp only [leZ_eq, ltZ_eq, eqZ_eq, str_size, str_list, str_nil, List.toList_toArray, decide_eq_true_eq, decide_eq_false_iff_not, beq_iff_eq, bne_iff_ne, beq_eq_false_iff_ne, bne_eq_false_iff_eq, ne_eq, Bool.not_eq_true', Bool.not_eq_false', Bool.not_true, Bool.not_false, gt_iff_lt, ge_iff_le, Int.not_lt, Int.not_le, Decidable.not_not] at hc) <;> (first | (exact absurd rfl hc) | (exact absurd trivial hc) | (exfalso; omega) | skip)) | (refine GAr.i64 (by omega) ?_) | ((refine GAr.i64w ?_); intro kw hk1 hk2) | (refine GAr.u8s (by omega) ?_) | (refine GAr.u8 ?_) | (refine GAr.u64s (by omega) ?_) | (refine GAr.u32s (by omega) ?_) | (refine GAr.u64 ?_) | (refine GAr.u32 ?_) | (refine GQuo.i64 (by omega) ?_) | (refine GRem.pos (by omega) ?_) | (with_reducible refine stopA ?_) | (refine Exists.intro _ (And.intro (by rfl) ?_)) | (refine GOp.via (by rfl) ?_) | (with_reducible refine stopO ?_) | (with_reducible refine stopE ?_) | (with_reducible refine stopD ?_) | (with_reducible refine stopW ?_) | (with_reducible refine stopG ?_) | (first | (refine GCall.mk ((rot_call x hx a h1.1 h1.2 (0 - (a : Int)) (by omega) _).mono ?_); rintro _ _ ⟨rfl, rfl⟩) | (refine GCall.mk ((rot_call x hx b h2.1 h2.2 (0 - (b : Int)) (by omega) _).mono ?_); rintro _ _ ⟨rfl, rfl⟩) | (refine GCall.mk ((rot_call x hx c h3.1 h3.2 (0 - (c : Int)) (by omega) _).mono ?_); rintro _ _ ⟨rfl, rfl⟩)) | (with_reducible refine stopC ?_) | (with_reducible refine stopR ?_)))
  all_goals (first | omega | skip)
  refine Done'.mk ⟨?_, rfl⟩
  refine scI_eq (x := bitZ .xor .u32 (bitZ .xor .u32 (rl x (32 - a) : Nat) (rl x (32 - b) : Nat)) (rl x (32 - c) : Nat)) ?_
  rw [xor_u32 (rl_lt hx) (rl_lt hx), xor_u32 (xor_lt (rl_lt hx) (rl_lt hx)) (rl_lt hx)]
  rfl
end Go.Proofs.YtdgohabgjgdfeaaDoor
