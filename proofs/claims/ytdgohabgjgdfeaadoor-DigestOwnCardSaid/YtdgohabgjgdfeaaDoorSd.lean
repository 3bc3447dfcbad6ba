/- The sum of bytes, walked. -/
import Derived.Test.YtdgohabgjgdfeaaDoorSc
namespace Go.Proofs.YtdgohabgjgdfeaaDoor
open Go Go.RowKit
set_option linter.unusedSimpArgs false
set_option linter.unusedVariables false
set_option maxRecDepth 100000
set_option maxHeartbeats 4000000
theorem sum_call (l : List UInt8) (hl : l.length ≤ 1000000) (H : Heap) : VCall Tryd.prog 19 [roB l] H (fun v K => v = .ag ((sha l).map bV) ∧ K = H) := by
  refine VCall.pure (by simp [nameless_roB]) (nameless_ag (nameless_map nameless_bV _)) ?_
  have hadd0 := add_call h0T h0T_ok [] l 0 (by omega) (by simp; omega)
  have hB : blkF h0T ([] ++ l) = stF l := rfl
  rw [hB] at hadd0
  have hsum0 := sumM_call (stF l).1 (stF_ok l) (stF l).2 (0 + l.length) (by rw [stF_len]; omega) (by omega)
  have hsha : (blkF (stF l).1 ((stF l).2 ++ padT (0 + l.length))).1.bytes = sha l := by
    rw [stF_app, Nat.zero_add, sha_eq]
  rw [hsha] at hsum0
  have hbl : ((sha l).map bV).length = 32 := by rw [List.length_map, sha_len]
  have hb1 := one_map (sha l)
  have hbn := nameless_map nameless_bV (sha l)
  have h0 : (List.replicate 32 (bV 0)).length = 32 := rfl
  generalize (sha l).map bV = bs at *
  generalize stF l = S at *
  have hadd : VCall Tryd.prog 74 [.ptr 1 0, roB l] ⟨[(1, .cells true (hV h0T (.sc (.slice none 0 0)) (.sc (nV 0)))), (0, .cells true (List.replicate 32 (bV 0)))], 2⟩ (fun v K => v = .tp [] ∧ K = ⟨[(1, .cells true (hV S.1 (.gs 2 S.2.length 1) (.sc (nV (0 + l.length))))), (2, .opt (S.2.map bV)), (0, .cells true (List.replicate 32 (bV 0)))], 3⟩) := by
    refine VCall.at (n1 := 2) (O1 := [(0, .cells true (hV h0T (.gs 1 0 1) (.sc (nV 0)))), (1, .opt [])]) [1] [(1, 0)] rfl ⟨⟨_, rfl, (.cells (.cons .sc (.cons .sc (.cons .sc (.cons .sc (.cons .sc (.cons .sc (.cons .sc (.cons .sc (.cons (.gsN) (.cons .sc .nil)))))))))))⟩, rfl, trivial⟩ (.cons (.ptr (List.Mem.head _)) (.cons (.of (nameless_roB l)) .nil)) hadd0 ?_
    rintro v K ⟨rfl, rfl⟩
    exact ⟨.tp [], [(1, .cells true (hV S.1 (.gs 2 S.2.length 1) (.sc (nV (0 + l.length))))), (2, .opt (S.2.map bV))], ⟨rfl, .undef, ⟨⟨_, rfl, (.cells (.cons .sc (.cons .sc (.cons .sc (.cons .sc (.cons .sc (.cons .sc (.cons .sc (.cons .sc (.cons (.gs (List.Mem.head _)) (.cons .sc .nil)))))))))))⟩, ⟨_, rfl, .opt (.of (nameless_map nameless_bV _))⟩, trivial⟩⟩, rfl, rfl, rfl⟩
  have hsum : VCall Tryd.prog 75 [.ptr 1 0] ⟨[(1, .cells true (hV S.1 (.gs 2 S.2.length 1) (.sc (nV (0 + l.length))))), (2, .opt (S.2.map bV)), (0, .cells true (List.replicate 32 (bV 0)))], 3⟩ (fun v K => v = .ag bs ∧ K = ⟨[(0, .cells true (List.replicate 32 (bV 0)))], 3⟩) := by
    refine VCall.at (n1 := 2) (O1 := [(0, .cells true (hV S.1 (.gs 1 S.2.length 1) (.sc (nV (0 + l.length))))), (1, .opt (S.2.map bV))]) [1, 2] [(1, 0), (2, 1)] rfl ⟨⟨_, rfl, (.cells (.cons .sc (.cons .sc (.cons .sc (.cons .sc (.cons .sc (.cons .sc (.cons .sc (.cons .sc (.cons (.gs (List.Mem.tail _ (List.Mem.head _))) (.cons .sc .nil)))))))))))⟩, ⟨_, rfl, .opt (.of (nameless_map nameless_bV _))⟩, trivial⟩ (.cons (.ptr (List.Mem.head _)) .nil) hsum0 ?_
    rintro v K ⟨rfl, rfl⟩
    exact ⟨.ag bs, [], ⟨rfl, .of (nameless_ag hbn), trivial⟩, rfl, rfl, rfl⟩
  refine VCall.go Tryd.func19 rfl ?_
  repeat' (first | (with_reducible refine And.intro ?_ ?_) | ((with_reducible intro hc); (try simp only [leZ_eq, ltZ_eq, eqZ_eq, str_size, str_list, str_nil, List.toList_toArray, decide_eq_true_eq, decide_eq_false_iff_not, beq_iff_eq, bne_iff_ne, beq_eq_false_iff_ne, bne_eq_false_iff_eq, ne_eq, Bool.not_eq_true', Bool.not_eq_false', Bool.not_true, Bool.not_false, gt_iff_lt, ge_iff_le, Int.not_lt, Int.not_le, Decidable.not_not] at hc); (first | (exact absurd rfl hc) | (exact absurd trivial hc) | (exfalso; omega) | skip)) | ((conv => whnf); first | (with_reducible refine And.intro ?_ ?_) | (refine ifB_intro (fun hc => ?_) (fun hc => ?_) <;> (try simp only [leZ_eq, ltZ_eq, eqZ_eq, str_size, str_list, str_nil, List.toList_toArray, decide_eq_true_eq, decide_eq_false_iff_not, beq_iff_eq, bne_iff_ne, beq_eq_false_iff_ne, bne_eq_false_iff_eq, ne_eq, Bool.not_eq_true', Bool.not_eq_false', Bool.not_true, Bool.not_false, gt_iff_lt, ge_iff_le, Int.not_lt, Int.not_le, Decidable.not_not] at hc) <;> (first | (exact absurd rfl hc) | (exact absurd trivial hc) | (exfalso; omega) | skip)) | (refine GAr.i64 (by omega) ?_) | ((refine GAr.i64w ?_); intro kw hk1 hk2) | (refine GAr.u8s (by omega) ?_) | (refine GAr.u8 ?_) | (refine GAr.u64s (by omega) ?_) | (refine GAr.u32s (by omega) ?_) | (refine GAr.u64 ?_) | (refine GAr.u32 ?_) | (refine GQuo.i64 (by omega) ?_) | (refine GRem.pos (by omega) ?_) | (with_reducible refine stopA ?_) | (refine Exists.intro _ (And.intro (by rfl) ?_)) | (refine GOp.stA (vs := bs) (by rfl) (by rfl) (by rfl) (by rfl) h0 hbl hb1 ?_) | (refine GOp.via (by rfl) ?_) | (with_reducible refine stopO ?_) | (with_reducible refine stopE ?_) | (with_reducible refine stopD ?_) | (with_reducible refine stopW ?_) | (with_reducible refine stopG ?_) | (first | (refine GCall.mk (VCall.inl Tryd.func73 rfl ?_)) | (refine GCall.mk ((hadd).mono ?_); rintro _ _ ⟨rfl, rfl⟩) | (refine GCall.mk ((hsum).mono ?_); rintro _ _ ⟨rfl, rfl⟩)) | (with_reducible refine stopC ?_) | (with_reducible refine stopR ?_)))
  all_goals (first | omega | skip)
  conv => whnf
  split
  · rename_i v hv
    have e := hv.symm.trans (vresAll_arr (a := 2) (b := 0) (vs := bs) rfl rfl rfl hbl)
    injection e with e
    subst e
    exact stopD (Done'.mk rfl)
  · rename_i hv
    have e := hv.symm.trans (vresAll_arr (a := 2) (b := 0) (vs := bs) rfl rfl rfl hbl)
    cases e
theorem addN_call (l : List UInt8) (H : Heap) : VCall Tryd.prog 74 [.sc (.pointer none), roB l] H (fun v K => v = .tp [] ∧ K = H) := by
  refine VCall.pure (by intro v hv; simp at hv; rcases hv with rfl | rfl; exact nameless_sc _; exact nameless_roB l) (nameless_tp (by simp)) ?_
  refine VCall.go Tryd.func74 rfl ?_
  repeat' (first | (with_reducible refine And.intro ?_ ?_) | ((with_reducible intro hc); (try simp only [leZ_eq, ltZ_eq, eqZ_eq, str_size, str_list, str_nil, List.toList_toArray, decide_eq_true_eq, decide_eq_false_iff_not, beq_iff_eq, bne_iff_ne, beq_eq_false_iff_ne, bne_eq_false_iff_eq, ne_eq, Bool.not_eq_true', Bool.not_eq_false', Bool.not_true, Bool.not_false, gt_iff_lt, ge_iff_le, Int.not_lt, Int.not_le, Decidable.not_not] at hc); (first | (exact absurd rfl hc) | (exact absurd trivial hc) | (exfalso; omega) | skip)) | ((conv => whnf); first | (with_reducible refine And.intro ?_ ?_) | (refine ifB_intro (fun hc => ?_) (fun hc => ?_) <;> (try simp only [leZ_eq, ltZ_eq, eqZ_eq, str_size, str_list, str_nil, List.toList_toArray, decide_eq_true_eq, decide_eq_false_iff_not, beq_iff_eq, bne_iff_ne, beq_eq_false_iff_ne, bne_eq_false_iff_eq, ne_eq, Bool.not_eq_true', Bool.not_eq_false', Bool.not_true, Bool.not_false, gt_iff_lt, ge_iff_le, Int.not_lt, Int.not_le, Decidable.not_not] at hc) <;> (first | (exact absurd rfl hc) | (exact absurd trivial hc) | (exfalso; omega) | skip)) | (refine GAr.i64 (by omega) ?_) | ((refine GAr.i64w ?_); intro kw hk1 hk2) | (refine GAr.u8s (by omega) ?_) | (refine GAr.u8 ?_) | (refine GAr.u64s (by omega) ?_) | (refine GAr.u32s (by omega) ?_) | (refine GAr.u64 ?_) | (refine GAr.u32 ?_) | (refine GQuo.i64 (by omega) ?_) | (refine GRem.pos (by omega) ?_) | (with_reducible refine stopA ?_) | (refine Exists.intro _ (And.intro (by rfl) ?_)) | (refine GOp.via (by rfl) ?_) | (with_reducible refine stopO ?_) | (with_reducible refine stopE ?_) | (with_reducible refine stopD ?_) | (with_reducible refine stopW ?_) | (with_reducible refine stopG ?_) | (with_reducible refine stopC ?_) | (with_reducible refine stopR ?_)))
  all_goals (first | omega | skip)
  exact Done'.mk rfl
theorem sumN_call (H : Heap) : VCall Tryd.prog 75 [.sc (.pointer none)] H (fun v K => v = .ag (List.replicate 32 (bV 0)) ∧ K = H) := by
  refine VCall.pure (by intro v hv; simp at hv; rw [hv]; exact nameless_sc _) (nameless_ag (by intro v hv; rw [(List.mem_replicate.1 hv).2]; exact nameless_bV 0)) ?_
  refine VCall.go Tryd.func75 rfl ?_
  repeat' (first | (with_reducible refine And.intro ?_ ?_) | ((with_reducible intro hc); (try simp only [leZ_eq, ltZ_eq, eqZ_eq, str_size, str_list, str_nil, List.toList_toArray, decide_eq_true_eq, decide_eq_false_iff_not, beq_iff_eq, bne_iff_ne, beq_eq_false_iff_ne, bne_eq_false_iff_eq, ne_eq, Bool.not_eq_true', Bool.not_eq_false', Bool.not_true, Bool.not_false, gt_iff_lt, ge_iff_le, Int.not_lt, Int.not_le, Decidable.not_not] at hc); (first | (exact absurd rfl hc) | (exact absurd trivial hc) | (exfalso; omega) | skip)) | ((conv => whnf); first | (with_reducible refine And.intro ?_ ?_) | (refine ifB_intro (fun hc => ?_) (fun hc => ?_) <;> (try simp only [leZ_eq, ltZ_eq, eqZ_eq, str_size, str_list, str_nil, List.toList_toArray, decide_eq_true_eq, decide_eq_false_iff_not, beq_iff_eq, bne_iff_ne, beq_eq_false_iff_ne, bne_eq_false_iff_eq, ne_eq, Bool.not_eq_true', Bool.not_eq_false', Bool.not_true, Bool.not_false, gt_iff_lt, ge_iff_le, Int.not_lt, Int.not_le, Decidable.not_not] at hc) <;> (first | (exact absurd rfl hc) | (exact absurd trivial hc) | (exfalso; omega) | skip)) | (refine GAr.i64 (by omega) ?_) | ((refine GAr.i64w ?_); intro kw hk1 hk2) | (refine GAr.u8s (by omega) ?_) | (refine GAr.u8 ?_) | (refine GAr.u64s (by omega) ?_) | (refine GAr.u32s (by omega) ?_) | (refine GAr.u64 ?_) | (refine GAr.u32 ?_) | (refine GQuo.i64 (by omega) ?_) | (refine GRem.pos (by omega) ?_) | (with_reducible refine stopA ?_) | (refine Exists.intro _ (And.intro (by rfl) ?_)) | (refine GOp.via (by rfl) ?_) | (with_reducible refine stopO ?_) | (with_reducible refine stopE ?_) | (with_reducible refine stopD ?_) | (with_reducible refine stopW ?_) | (with_reducible refine stopG ?_) | (with_reducible refine stopC ?_) | (with_reducible refine stopR ?_)))
  all_goals (first | omega | skip)
  exact Done'.mk rfl
end Go.Proofs.YtdgohabgjgdfeaaDoor
