/- Lower. -/
import Derived.Test.YtnfmoclmfddajaaC5
namespace Go.Proofs.Ytnfmoclmfddajaa
open Go Go.RowKit
set_option linter.unusedSimpArgs false
set_option linter.unusedVariables false
set_option maxRecDepth 100000
set_option maxHeartbeats 4000000
theorem vop_store {P : Program} {o : Oper} {ts : List VV} {H H' : Heap} {t : TypeId} {a x : Operand} (ho : o.op = .store t a x) (h : vstore P t (veval ts a) (veval ts x) H = some H') : vop P o ts H = some (.tp [], H') := by
  simp only [vop, ho, h]
theorem vop_make {P : Program} {o : Oper} {ts : List VV} {H : Heap} {r : VV × Heap} {t : TypeId} {a x : Operand} (ho : o.op = .makeSlice t a x) (h : vmakeSlice P t (veval ts a) (veval ts x) H = some r) : vop P o ts H = some r := by
  simp only [vop, ho, h]
theorem vstore_u8 {H : Heap} {b q i : Nat} {vs : List VV} {x : UInt8} (hg : H.get b = some (.cells true vs)) (hi : q = i) (hq : i < vs.length) : vstore Try.prog 5 (.ptr b q) (bV x) H = some (H.set b (.cells true (vs.set i (bV x)))) := by
  subst hi
  have hz : vsize Try.prog 5 = some 1 := by kernel_rfl
  have h1 : Nat.ble (q + 1) vs.length = true := Nat.ble_eq_true_of_le hq
  simp only [vstore, hg, bV, cellsOf, hz, List.length_singleton, Nat.beq_refl, h1, Bool.and_self, setRun]
theorem zeros_u8 (n : Nat) : ∃ zl, vzero Try.prog 5 = some zl ∧ zl.length = 1 ∧ vzeros zl (n * 1) = List.replicate n (bV 0) := by
  refine ⟨[bV 0], rfl, rfl, ?_⟩
  show List.replicate (n * 1) (bV 0) = _
  rw [Nat.mul_one]
theorem vmake_u8 {H : Heap} {n : Nat} (hn : n ≤ 140737488355328) : vmakeSlice Try.prog 22 (iV n) (iV n) H = some (.sl H.next 0 n (some n) 1, H.add (.cells true (List.replicate n (bV 0)))) := by
  obtain ⟨i, h1, h2, h3⟩ := info_u8
  obtain ⟨zl, h4, h5, h6⟩ := zeros_u8 n
  simp only [vmakeSlice, iV, Try.underlying22, h1, h4, h2, h3, Int.toNat_natCast, h6]
  rw [if_pos ⟨by omega, by omega, by omega, by omega, h5, by omega⟩]
/-- What stands there when so many are done. -/
def lowRow (l : List UInt8) (i : Nat) : List VV := ((l.take i).map fun b => bV (lowB b)) ++ List.replicate (l.length - i) (bV 0)
theorem lowRow_len (l : List UInt8) (i : Nat) (h : i ≤ l.length) : (lowRow l i).length = l.length := by
  simp [lowRow]; omega
theorem lowRow_set {l : List UInt8} {i : Nat} {c : UInt8} (h : l[i]? = some c) : (lowRow l i).set i (bV (lowB c)) = lowRow l (i + 1) := by
  obtain ⟨hi, e⟩ := List.getElem?_eq_some_iff.1 h
  unfold lowRow
  rw [List.take_succ_eq_append_getElem hi, e, show l.length - i = (l.length - (i + 1)) + 1 by omega, List.replicate_succ]
  rw [List.set_append_right _ _ (by simp; omega)]
  have : i - ((l.take i).map fun b => bV (lowB b)).length = 0 := by simp; omega
  rw [this]
  simp
theorem lower_slice (l : List UInt8) (H : Heap) (hl : l.length ≤ 140737488355328) : VCall Try.prog 30 [roB l] H (fun x K => x = roB (l.map lowB) ∧ K = H) := by
  refine VCall.frozen (Q := fun v K => Frz K v (roB (l.map lowB))) (by simp [nameless_roB]) ?_ (fun v K h => h)
  refine VCall.go Try.func30 rfl ?_
  repeat' (first | (with_reducible refine And.intro ?_ ?_) | ((with_reducible intro hc); (try simp only [str_size, str_list, str_nil, decide_eq_true_eq, decide_eq_false_iff_not, beq_iff_eq, bne_iff_ne, beq_eq_false_iff_ne, bne_eq_false_iff_eq, ne_eq, Bool.not_eq_true', Bool.not_eq_false', Bool.not_true, Bool.not_false, gt_iff_lt, ge_iff_le, Int.not_lt, Int.not_le, Decidable.not_not] at hc); (first | (exact absurd rfl hc) | (exact absurd trivial hc) | (exfalso; omega) | skip)) | ((conv => whnf); first | (with_reducible refine And.intro ?_ ?_) | (refine ifB_intro (fun hc => ?_) (fun hc => ?_) <;> (try simp only [str_size, str_list, str_nil, decide_eq_true_eq, decide_eq_false_iff_not, beq_iff_eq, bne_iff_ne, beq_eq_false_iff_ne, bne_eq_false_iff_eq, ne_eq, Bool.not_eq_true', Bool.not_eq_false', Bool.not_true, Bool.not_false, gt_iff_lt, ge_iff_le, Int.not_lt, Int.not_le, Decidable.not_not] at hc) <;> (first | (exact absurd rfl hc) | (exact absurd trivial hc) | (exfalso; omega) | skip)) | (refine GAr.i64 (by omega) ?_) | ((refine GAr.i64w ?_); intro kw hk1 hk2) | (refine GAr.u8s (by omega) ?_) | (refine GAr.u8 ?_) | (refine GAr.u64s (by omega) ?_) | (refine GAr.u32s (by omega) ?_) | (refine GAr.u64 ?_) | (refine GAr.u32 ?_) | (refine GQuo.i64 (by omega) ?_) | (refine GRem.pos (by omega) ?_) | (with_reducible refine stopA ?_) | (refine Exists.intro _ (And.intro (by rfl) ?_)) | (refine GOp.via (by rfl) ?_) | (with_reducible refine stopO ?_) | (with_reducible refine stopE ?_) | (with_reducible refine stopD ?_) | (with_reducible refine stopW ?_) | (with_reducible refine stopC ?_) | (with_reducible refine stopR ?_)))
  refine GOp'.via (vop_make rfl (vmake_u8 hl)) ?_
  repeat' (first | (with_reducible refine And.intro ?_ ?_) | ((with_reducible intro hc); (try simp only [str_size, str_list, str_nil, decide_eq_true_eq, decide_eq_false_iff_not, beq_iff_eq, bne_iff_ne, beq_eq_false_iff_ne, bne_eq_false_iff_eq, ne_eq, Bool.not_eq_true', Bool.not_eq_false', Bool.not_true, Bool.not_false, gt_iff_lt, ge_iff_le, Int.not_lt, Int.not_le, Decidable.not_not] at hc); (first | (exact absurd rfl hc) | (exact absurd trivial hc) | (exfalso; omega) | skip)) | ((conv => whnf); first | (with_reducible refine And.intro ?_ ?_) | (refine ifB_intro (fun hc => ?_) (fun hc => ?_) <;> (try simp only [str_size, str_list, str_nil, decide_eq_true_eq, decide_eq_false_iff_not, beq_iff_eq, bne_iff_ne, beq_eq_false_iff_ne, bne_eq_false_iff_eq, ne_eq, Bool.not_eq_true', Bool.not_eq_false', Bool.not_true, Bool.not_false, gt_iff_lt, ge_iff_le, Int.not_lt, Int.not_le, Decidable.not_not] at hc) <;> (first | (exact absurd rfl hc) | (exact absurd trivial hc) | (exfalso; omega) | skip)) | (refine GAr.i64 (by omega) ?_) | ((refine GAr.i64w ?_); intro kw hk1 hk2) | (refine GAr.u8s (by omega) ?_) | (refine GAr.u8 ?_) | (refine GAr.u64s (by omega) ?_) | (refine GAr.u32s (by omega) ?_) | (refine GAr.u64 ?_) | (refine GAr.u32 ?_) | (refine GQuo.i64 (by omega) ?_) | (refine GRem.pos (by omega) ?_) | (with_reducible refine stopA ?_) | (refine Exists.intro _ (And.intro (by rfl) ?_)) | (refine GOp.via (by rfl) ?_) | (with_reducible refine stopO ?_) | (with_reducible refine stopE ?_) | (with_reducible refine stopD ?_) | (with_reducible refine stopW ?_) | (with_reducible refine stopC ?_) | (with_reducible refine stopR ?_)))
  refine GWP'.mk (GWP.loopK (α := Nat) (fun i => i ≤ l.length) (fun i => [(3, .sl 0 0 l.length (some l.length) 1), (9, roB l), (10, iV l.length), (11, iV i)]) (fun i => ⟨[(0, .cells true (lowRow l i))], 1⟩) [] 23 (fun i => l.length - i) 0 (Nat.zero_le _) ⟨rfl, ⟨rfl, rfl, rfl, rfl, trivial⟩, ?_, rfl⟩ ?_)
  · simp [lowRow, Heap.add]
  rintro i hi
  by_cases hil : i < l.length
  · have hb : ∃ c, l[i]? = some c := ⟨l[i], by simp⟩
    obtain ⟨c, hb⟩ := hb
    repeat' (first | (with_reducible refine And.intro ?_ ?_) | ((with_reducible intro hc); (try simp only [str_size, str_list, str_nil, decide_eq_true_eq, decide_eq_false_iff_not, beq_iff_eq, bne_iff_ne, beq_eq_false_iff_ne, bne_eq_false_iff_eq, ne_eq, Bool.not_eq_true', Bool.not_eq_false', Bool.not_true, Bool.not_false, gt_iff_lt, ge_iff_le, Int.not_lt, Int.not_le, Decidable.not_not] at hc); (first | (exact absurd rfl hc) | (exact absurd trivial hc) | (exfalso; omega) | skip)) | ((conv => whnf); first | (with_reducible refine And.intro ?_ ?_) | (refine ifB_intro (fun hc => ?_) (fun hc => ?_) <;> (try simp only [str_size, str_list, str_nil, decide_eq_true_eq, decide_eq_false_iff_not, beq_iff_eq, bne_iff_ne, beq_eq_false_iff_ne, bne_eq_false_iff_eq, ne_eq, Bool.not_eq_true', Bool.not_eq_false', Bool.not_true, Bool.not_false, gt_iff_lt, ge_iff_le, Int.not_lt, Int.not_le, Decidable.not_not] at hc) <;> (first | (exact absurd rfl hc) | (exact absurd trivial hc) | (exfalso; omega) | skip)) | (refine GAr.i64 (by omega) ?_) | ((refine GAr.i64w ?_); intro kw hk1 hk2) | (refine GAr.u8s (by omega) ?_) | (refine GAr.u8 ?_) | (refine GAr.u64s (by omega) ?_) | (refine GAr.u32s (by omega) ?_) | (refine GAr.u64 ?_) | (refine GAr.u32 ?_) | (refine GQuo.i64 (by omega) ?_) | (refine GRem.pos (by omega) ?_) | (with_reducible refine stopA ?_) | (refine Exists.intro _ (And.intro (by (first | exact vat_of vagg_u8 (map_at hb) (mul1 rfl rfl) | rfl)) ?_)) | (refine GOp.via (by rfl) ?_) | (with_reducible refine stopO ?_) | (with_reducible refine stopE ?_) | (with_reducible refine stopD ?_) | (with_reducible refine stopW ?_) | (refine GCall.mk ((lower_call c _).mono ?_); rintro _ _ ⟨rfl, rfl⟩) | (with_reducible refine stopC ?_) | (with_reducible refine stopR ?_)))
    all_goals (first | omega | skip)
    refine GOp'.via (vop_store rfl (vstore_u8 (i := i) (x := lowB c) rfl ((Nat.zero_add _).trans (mul1 rfl rfl)) (by rw [lowRow_len l i hi]; exact hil))) ?_
    repeat' (first | (with_reducible refine And.intro ?_ ?_) | ((with_reducible intro hc); (try simp only [str_size, str_list, str_nil, decide_eq_true_eq, decide_eq_false_iff_not, beq_iff_eq, bne_iff_ne, beq_eq_false_iff_ne, bne_eq_false_iff_eq, ne_eq, Bool.not_eq_true', Bool.not_eq_false', Bool.not_true, Bool.not_false, gt_iff_lt, ge_iff_le, Int.not_lt, Int.not_le, Decidable.not_not] at hc); (first | (exact absurd rfl hc) | (exact absurd trivial hc) | (exfalso; omega) | skip)) | ((conv => whnf); first | (with_reducible refine And.intro ?_ ?_) | (refine ifB_intro (fun hc => ?_) (fun hc => ?_) <;> (try simp only [str_size, str_list, str_nil, decide_eq_true_eq, decide_eq_false_iff_not, beq_iff_eq, bne_iff_ne, beq_eq_false_iff_ne, bne_eq_false_iff_eq, ne_eq, Bool.not_eq_true', Bool.not_eq_false', Bool.not_true, Bool.not_false, gt_iff_lt, ge_iff_le, Int.not_lt, Int.not_le, Decidable.not_not] at hc) <;> (first | (exact absurd rfl hc) | (exact absurd trivial hc) | (exfalso; omega) | skip)) | (refine GAr.i64 (by omega) ?_) | ((refine GAr.i64w ?_); intro kw hk1 hk2) | (refine GAr.u8s (by omega) ?_) | (refine GAr.u8 ?_) | (refine GAr.u64s (by omega) ?_) | (refine GAr.u32s (by omega) ?_) | (refine GAr.u64 ?_) | (refine GAr.u32 ?_) | (refine GQuo.i64 (by omega) ?_) | (refine GRem.pos (by omega) ?_) | (with_reducible refine stopA ?_) | (refine Exists.intro _ (And.intro (by rfl) ?_)) | (refine GOp.via (by rfl) ?_) | (with_reducible refine stopO ?_) | (with_reducible refine stopE ?_) | (with_reducible refine stopD ?_) | (with_reducible refine stopW ?_) | (with_reducible refine stopC ?_) | (with_reducible refine stopR ?_)))
    refine Done'.mk ⟨i + 1, by omega, by omega, rfl, ⟨rfl, rfl, rfl, iv_eq ?_, trivial⟩, ?_, rfl⟩
    · push_cast
      omega
    · rw [← lowRow_set hb]
      rfl
  · repeat' (first | (with_reducible refine And.intro ?_ ?_) | ((with_reducible intro hc); (try simp only [str_size, str_list, str_nil, decide_eq_true_eq, decide_eq_false_iff_not, beq_iff_eq, bne_iff_ne, beq_eq_false_iff_ne, bne_eq_false_iff_eq, ne_eq, Bool.not_eq_true', Bool.not_eq_false', Bool.not_true, Bool.not_false, gt_iff_lt, ge_iff_le, Int.not_lt, Int.not_le, Decidable.not_not] at hc); (first | (exact absurd rfl hc) | (exact absurd trivial hc) | (exfalso; omega) | skip)) | ((conv => whnf); first | (with_reducible refine And.intro ?_ ?_) | (refine ifB_intro (fun hc => ?_) (fun hc => ?_) <;> (try simp only [str_size, str_list, str_nil, decide_eq_true_eq, decide_eq_false_iff_not, beq_iff_eq, bne_iff_ne, beq_eq_false_iff_ne, bne_eq_false_iff_eq, ne_eq, Bool.not_eq_true', Bool.not_eq_false', Bool.not_true, Bool.not_false, gt_iff_lt, ge_iff_le, Int.not_lt, Int.not_le, Decidable.not_not] at hc) <;> (first | (exact absurd rfl hc) | (exact absurd trivial hc) | (exfalso; omega) | skip)) | (refine GAr.i64 (by omega) ?_) | ((refine GAr.i64w ?_); intro kw hk1 hk2) | (refine GAr.u8s (by omega) ?_) | (refine GAr.u8 ?_) | (refine GAr.u64s (by omega) ?_) | (refine GAr.u32s (by omega) ?_) | (refine GAr.u64 ?_) | (refine GAr.u32 ?_) | (refine GQuo.i64 (by omega) ?_) | (refine GRem.pos (by omega) ?_) | (with_reducible refine stopA ?_) | (refine Exists.intro _ (And.intro (by rfl) ?_)) | (refine GOp.via (by rfl) ?_) | (with_reducible refine stopO ?_) | (with_reducible refine stopE ?_) | (with_reducible refine stopD ?_) | (with_reducible refine stopW ?_) | (with_reducible refine stopC ?_) | (with_reducible refine stopR ?_)))
    all_goals (first | omega | skip)
    have : i = l.length := by omega
    subst this
    have hrow : lowRow l l.length = (l.map lowB).map bV := by simp [lowRow]
    have hf := Frz.sl (K := ⟨[(0, .cells true (lowRow l l.length))], 1⟩) (b := 0) (o := 0) (n := l.length) (z := 1) (c := some l.length) (vs := lowRow l l.length) rfl (by rw [hrow]; simp) (by
      intro v hv
      rw [hrow] at hv
      obtain ⟨b, _, rfl⟩ := List.mem_map.1 hv
      exact nameless_bV b)
    rw [List.drop_zero, Nat.mul_one, hrow, List.take_of_length_le (by simp)] at hf
    rw [hrow]
    refine Done'.mk ?_
    have e : roB (l.map lowB) = .ro l.length ((l.map lowB).map bV) := by unfold roB; rw [List.length_map]
    rw [e]
    exact hf
end Go.Proofs.Ytnfmoclmfddajaa
