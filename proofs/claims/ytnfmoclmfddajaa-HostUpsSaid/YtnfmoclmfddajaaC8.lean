/- Lower and Token of the document. -/
import Derived.Test.YtnfmoclmfddajaaC7
namespace Go.Proofs.Ytnfmoclmfddajaa
open Go Go.RowKit
set_option linter.unusedSimpArgs false
set_option linter.unusedVariables false
set_option maxRecDepth 100000
set_option maxHeartbeats 4000000
theorem rtoken_call (l : List UInt8) (H : Heap) (hl : l.length ≤ 4611686018427387904) : VCall Try.prog 38 [strV l] H (fun x K => x = booV (tokenB l) ∧ K = H) := by
  refine VCall.go Try.func38 rfl ?_
  repeat' (first | (with_reducible refine And.intro ?_ ?_) | ((with_reducible intro hc); (try simp only [str_size, str_list, str_nil, decide_eq_true_eq, decide_eq_false_iff_not, beq_iff_eq, bne_iff_ne, beq_eq_false_iff_ne, bne_eq_false_iff_eq, ne_eq, Bool.not_eq_true', Bool.not_eq_false', Bool.not_true, Bool.not_false, gt_iff_lt, ge_iff_le, Int.not_lt, Int.not_le, Decidable.not_not] at hc); (first | (exact absurd rfl hc) | (exact absurd trivial hc) | (exfalso; omega) | skip)) | ((conv => whnf); first | (with_reducible refine And.intro ?_ ?_) | (refine ifB_intro (fun hc => ?_) (fun hc => ?_) <;> (try simp only [str_size, str_list, str_nil, decide_eq_true_eq, decide_eq_false_iff_not, beq_iff_eq, bne_iff_ne, beq_eq_false_iff_ne, bne_eq_false_iff_eq, ne_eq, Bool.not_eq_true', Bool.not_eq_false', Bool.not_true, Bool.not_false, gt_iff_lt, ge_iff_le, Int.not_lt, Int.not_le, Decidable.not_not] at hc) <;> (first | (exact absurd rfl hc) | (exact absurd trivial hc) | (exfalso; omega) | skip)) | (refine GAr.i64 (by omega) ?_) | ((refine GAr.i64w ?_); intro kw hk1 hk2) | (refine GAr.u8s (by omega) ?_) | (refine GAr.u8 ?_) | (refine GAr.u64s (by omega) ?_) | (refine GAr.u32s (by omega) ?_) | (refine GAr.u64 ?_) | (refine GAr.u32 ?_) | (refine GQuo.i64 (by omega) ?_) | (refine GRem.pos (by omega) ?_) | (with_reducible refine stopA ?_) | (refine Exists.intro _ (And.intro (by rfl) ?_)) | (refine GOp.via (by rfl) ?_) | (with_reducible refine stopO ?_) | (with_reducible refine stopE ?_) | (with_reducible refine stopD ?_) | (with_reducible refine stopW ?_) | (with_reducible refine stopC ?_) | (with_reducible refine stopR ?_)))
  refine GWP'.mk (GWP.loopK (α := Nat) (fun i => i ≤ l.length ∧ (l.drop i).all tokB = l.all tokB) (fun i => [(0, strV l), (3, iV i)]) (fun _ => H) [] 31 (fun i => l.length - i) 0 ⟨Nat.zero_le _, rfl⟩ ⟨rfl, ⟨rfl, rfl, trivial⟩, rfl, rfl⟩ ?_)
  rintro i ⟨hi, hgo⟩
  by_cases hil : i < l.length
  · have hb : ∃ c, l[i]? = some c := ⟨l[i], by simp⟩
    obtain ⟨c, hb⟩ := hb
    have hd := dgB_eq c
    have ht : tokB c = (decide (48 ≤ c.toNat ∧ c.toNat ≤ 57) || letB c || puncB c) := by rw [hd]; rfl
    rw [all_at tokB hb, ht] at hgo
    have good : (decide (48 ≤ c.toNat ∧ c.toNat ≤ 57) || letB c || puncB c) = true → ∃ b, (b ≤ l.length ∧ (l.drop b).all tokB = l.all tokB) ∧ l.length - b < l.length - i ∧ b = i + 1 := by
      intro h
      rw [h, Bool.true_and] at hgo
      exact ⟨i + 1, ⟨by omega, hgo⟩, by omega, rfl⟩
    have bad : (decide (48 ≤ c.toNat ∧ c.toNat ≤ 57) || letB c || puncB c) = false → tokenB l = false := by
      intro h
      rw [h, Bool.false_and] at hgo
      unfold tokenB
      rw [← hgo]
      rfl
    have hdec : ∀ p : Prop, [Decidable p] → p → decide p = true := fun p _ h => decide_eq_true h
    repeat' (first | (with_reducible refine And.intro ?_ ?_) | ((with_reducible intro hc); (try simp only [str_size, str_list, str_nil, decide_eq_true_eq, decide_eq_false_iff_not, beq_iff_eq, bne_iff_ne, beq_eq_false_iff_ne, bne_eq_false_iff_eq, ne_eq, Bool.not_eq_true', Bool.not_eq_false', Bool.not_true, Bool.not_false, gt_iff_lt, ge_iff_le, Int.not_lt, Int.not_le, Decidable.not_not] at hc); (first | (exact absurd rfl hc) | (exact absurd trivial hc) | (exfalso; omega) | skip)) | ((conv => whnf); first | (with_reducible refine And.intro ?_ ?_) | (refine ifB_intro (fun hc => ?_) (fun hc => ?_) <;> (try simp only [str_size, str_list, str_nil, decide_eq_true_eq, decide_eq_false_iff_not, beq_iff_eq, bne_iff_ne, beq_eq_false_iff_ne, bne_eq_false_iff_eq, ne_eq, Bool.not_eq_true', Bool.not_eq_false', Bool.not_true, Bool.not_false, gt_iff_lt, ge_iff_le, Int.not_lt, Int.not_le, Decidable.not_not] at hc) <;> (first | (exact absurd rfl hc) | (exact absurd trivial hc) | (exfalso; omega) | skip)) | (refine GAr.i64 (by omega) ?_) | ((refine GAr.i64w ?_); intro kw hk1 hk2) | (refine GAr.u8s (by omega) ?_) | (refine GAr.u8 ?_) | (refine GAr.u64s (by omega) ?_) | (refine GAr.u32s (by omega) ?_) | (refine GAr.u64 ?_) | (refine GAr.u32 ?_) | (refine GQuo.i64 (by omega) ?_) | (refine GRem.pos (by omega) ?_) | (with_reducible refine stopA ?_) | (refine Exists.intro _ (And.intro (by (first | exact hb | rfl)) ?_)) | (refine GOp.via (by rfl) ?_) | (with_reducible refine stopO ?_) | (with_reducible refine stopE ?_) | (with_reducible refine stopD ?_) | (with_reducible refine stopW ?_) | (first | (refine GCall.mk ((digit_call c _).mono ?_); rintro _ _ ⟨rfl, rfl⟩) | (refine GCall.mk ((letter_call c _).mono ?_); rintro _ _ ⟨rfl, rfl⟩) | (refine GCall.mk ((in_call c [33, 35, 36, 37, 38, 39, 42, 43, 45, 46, 94, 95, 96, 124, 126] _ (by simp)).mono ?_); rintro _ _ ⟨rfl, rfl⟩)) | (with_reducible refine stopC ?_) | (with_reducible refine stopR ?_)))
    all_goals (first | omega | refine Done'.mk ?_)
    all_goals (first | (refine ⟨?_, rfl⟩; rw [bad (by simp_all [puncB])]; rfl) | skip)
    all_goals (
      have hg : (decide (48 ≤ c.toNat ∧ c.toNat ≤ 57) || letB c || puncB c) = true := by simp_all [puncB]
      obtain ⟨b, h1, h2, rfl⟩ := good hg
      refine ⟨i + 1, h1, h2, rfl, ⟨rfl, iv_eq ?_, trivial⟩, rfl, rfl⟩
      push_cast
      omega)
  · repeat' (first | (with_reducible refine And.intro ?_ ?_) | ((with_reducible intro hc); (try simp only [str_size, str_list, str_nil, decide_eq_true_eq, decide_eq_false_iff_not, beq_iff_eq, bne_iff_ne, beq_eq_false_iff_ne, bne_eq_false_iff_eq, ne_eq, Bool.not_eq_true', Bool.not_eq_false', Bool.not_true, Bool.not_false, gt_iff_lt, ge_iff_le, Int.not_lt, Int.not_le, Decidable.not_not] at hc); (first | (exact absurd rfl hc) | (exact absurd trivial hc) | (exfalso; omega) | skip)) | ((conv => whnf); first | (with_reducible refine And.intro ?_ ?_) | (refine ifB_intro (fun hc => ?_) (fun hc => ?_) <;> (try simp only [str_size, str_list, str_nil, decide_eq_true_eq, decide_eq_false_iff_not, beq_iff_eq, bne_iff_ne, beq_eq_false_iff_ne, bne_eq_false_iff_eq, ne_eq, Bool.not_eq_true', Bool.not_eq_false', Bool.not_true, Bool.not_false, gt_iff_lt, ge_iff_le, Int.not_lt, Int.not_le, Decidable.not_not] at hc) <;> (first | (exact absurd rfl hc) | (exact absurd trivial hc) | (exfalso; omega) | skip)) | (refine GAr.i64 (by omega) ?_) | ((refine GAr.i64w ?_); intro kw hk1 hk2) | (refine GAr.u8s (by omega) ?_) | (refine GAr.u8 ?_) | (refine GAr.u64s (by omega) ?_) | (refine GAr.u32s (by omega) ?_) | (refine GAr.u64 ?_) | (refine GAr.u32 ?_) | (refine GQuo.i64 (by omega) ?_) | (refine GRem.pos (by omega) ?_) | (with_reducible refine stopA ?_) | (refine Exists.intro _ (And.intro (by rfl) ?_)) | (refine GOp.via (by rfl) ?_) | (with_reducible refine stopO ?_) | (with_reducible refine stopE ?_) | (with_reducible refine stopD ?_) | (with_reducible refine stopW ?_) | (with_reducible refine stopC ?_) | (with_reducible refine stopR ?_)))
    all_goals (first | omega | refine Done'.mk ⟨?_, rfl⟩)
    have : i = l.length := by omega
    subst this
    rw [List.drop_length] at hgo
    unfold tokenB
    rw [← hgo]
    refine Eq.trans (b := booV (!((⟨l.toArray⟩ : ByteArray).toList == (⟨#[]⟩ : ByteArray).toList))) rfl ?_
    rw [str_list, str_nil]
    rfl
end Go.Proofs.Ytnfmoclmfddajaa
