/- The document's digits, walked. -/
import Derived.Test.YtdgohabgjgdfeaaS7
import Derived.Test.YtdgohabgjgdfeaaVi
namespace Go.Proofs.Ytdgohabgjgdfeaa
open Go Go.RowKit
set_option linter.unusedSimpArgs false
set_option linter.unusedVariables false
set_option maxRecDepth 100000
set_option maxHeartbeats 4000000
def uV (n : Nat) : VV := .sc (.int .u64 (n : Int))
def roU (l : List Nat) : VV := .ro l.length (l.map uV)
theorem nameless_uV (n : Nat) : Nameless (uV n) := nameless_sc _
theorem nameless_roU (l : List Nat) : Nameless (roU l) := nameless_ro (nameless_map nameless_uV l)
theorem sty_u : SlTy Try.prog 76 1 8 := ⟨⟨_, _, _, rfl, rfl, rfl, rfl, rfl, rfl⟩⟩
theorem vagg_u : vagg Try.prog 78 = some false := by kernel_rfl
theorem mapu_at {l : List Nat} {i x : Nat} (h : l[i]? = some x) : (l.map uV)[i]? = some (uV x) := by
  rw [List.getElem?_map, h]; rfl
theorem digit_call (l : List Nat) (i : Nat) (H : Heap) : VCall Try.prog 106 [roU l, iV i] H (fun v K => v = uV (l.getD i 0) ∧ K = H) := by
  by_cases hi : i < l.length
  · have hg : l[i]? = some l[i] := List.getElem?_eq_getElem hi
    have e : l.getD i 0 = l[i] := by simp [List.getD, hg]
    rw [e]
    generalize l[i] = x at hg
    refine VCall.go Try.func106 rfl ?_
    repeat' (first | (with_reducible refine And.intro ?_ ?_) | ((with_reducible intro hc); (try simp only [leZ_eq, ltZ_eq, eqZ_eq, str_size, str_list, str_nil, List.toList_toArray, decide_eq_true_eq, decide_eq_false_iff_not, beq_iff_eq, bne_iff_ne, beq_eq_false_iff_ne, bne_eq_false_iff_eq, ne_eq, Bool.not_eq_true', Bool.not_eq_false', Bool.not_true, Bool.not_false, gt_iff_lt, ge_iff_le, Int.not_lt, Int.not_le, Decidable.not_not] at hc); (first | (exact absurd rfl hc) | (exact absurd trivial hc) | (exfalso; omega) | skip)) | ((conv => whnf); first | (with_reducible refine And.intro ?_ ?_) | (refine ifB_intro (fun hc => ?_) (fun hc => ?_) <;> (try simp only [leZ_eq, ltZ_eq, eqZ_eq, str_size, str_list, str_nil, List.toList_toArray, decide_eq_true_eq, decide_eq_false_iff_not, beq_iff_eq, bne_iff_ne, beq_eq_false_iff_ne, bne_eq_false_iff_eq, ne_eq, Bool.not_eq_true', Bool.not_eq_false', Bool.not_true, Bool.not_false, gt_iff_lt, ge_iff_le, Int.not_lt, Int.not_le, Decidable.not_not] at hc) <;> (first | (exact absurd rfl hc) | (exact absurd trivial hc) | (exfalso; omega) | skip)) | (refine GAr.i64 (by omega) ?_) | ((refine GAr.i64w ?_); intro kw hk1 hk2) | (refine GAr.u8s (by omega) ?_) | (refine GAr.u8 ?_) | (refine GAr.u64s (by omega) ?_) | (refine GAr.u32s (by omega) ?_) | (refine GAr.u64 ?_) | (refine GAr.u32 ?_) | (refine GQuo.i64 (by omega) ?_) | (refine GRem.pos (by omega) ?_) | (with_reducible refine stopA ?_) | (refine Exists.intro _ (And.intro (by (first | exact vat_of vagg_u (mapu_at hg) (mul1 rfl (by omega)) | rfl)) ?_)) | (refine GOp.via (by rfl) ?_) | (with_reducible refine stopO ?_) | (with_reducible refine stopE ?_) | (with_reducible refine stopD ?_) | (with_reducible refine stopW ?_) | (with_reducible refine stopG ?_) | (with_reducible refine stopC ?_) | (with_reducible refine stopR ?_)))
    all_goals (first | omega | skip)
    exact Done'.mk ⟨rfl, rfl⟩
  · have e : l.getD i 0 = 0 := by simp [List.getD, List.getElem?_eq_none (Nat.le_of_not_lt hi)]
    rw [e]
    refine VCall.go Try.func106 rfl ?_
    repeat' (first | (with_reducible refine And.intro ?_ ?_) | ((with_reducible intro hc); (try simp only [leZ_eq, ltZ_eq, eqZ_eq, str_size, str_list, str_nil, List.toList_toArray, decide_eq_true_eq, decide_eq_false_iff_not, beq_iff_eq, bne_iff_ne, beq_eq_false_iff_ne, bne_eq_false_iff_eq, ne_eq, Bool.not_eq_true', Bool.not_eq_false', Bool.not_true, Bool.not_false, gt_iff_lt, ge_iff_le, Int.not_lt, Int.not_le, Decidable.not_not] at hc); (first | (exact absurd rfl hc) | (exact absurd trivial hc) | (exfalso; omega) | skip)) | ((conv => whnf); first | (with_reducible refine And.intro ?_ ?_) | (refine ifB_intro (fun hc => ?_) (fun hc => ?_) <;> (try simp only [leZ_eq, ltZ_eq, eqZ_eq, str_size, str_list, str_nil, List.toList_toArray, decide_eq_true_eq, decide_eq_false_iff_not, beq_iff_eq, bne_iff_ne, beq_eq_false_iff_ne, bne_eq_false_iff_eq, ne_eq, Bool.not_eq_true', Bool.not_eq_false', Bool.not_true, Bool.not_false, gt_iff_lt, ge_iff_le, Int.not_lt, Int.not_le, Decidable.not_not] at hc) <;> (first | (exact absurd rfl hc) | (exact absurd trivial hc) | (exfalso; omega) | skip)) | (refine GAr.i64 (by omega) ?_) | ((refine GAr.i64w ?_); intro kw hk1 hk2) | (refine GAr.u8s (by omega) ?_) | (refine GAr.u8 ?_) | (refine GAr.u64s (by omega) ?_) | (refine GAr.u32s (by omega) ?_) | (refine GAr.u64 ?_) | (refine GAr.u32 ?_) | (refine GQuo.i64 (by omega) ?_) | (refine GRem.pos (by omega) ?_) | (with_reducible refine stopA ?_) | (refine Exists.intro _ (And.intro (by rfl) ?_)) | (refine GOp.via (by rfl) ?_) | (with_reducible refine stopO ?_) | (with_reducible refine stopE ?_) | (with_reducible refine stopD ?_) | (with_reducible refine stopW ?_) | (with_reducible refine stopG ?_) | (with_reducible refine stopC ?_) | (with_reducible refine stopR ?_)))
    all_goals (first | omega | skip)
    exact Done'.mk ⟨rfl, rfl⟩
theorem wide_call (a b : Nat) (ha : a < 1099511627776) (hb : b < 65536) (H : Heap) : VCall Try.prog 143 [uV a, uV b] H (fun v K => v = .tp [uV 0, uV (a * b)] ∧ K = H) := by
  have h1 := shr_u64 (a := a) (k := 32) (by omega)
  have e32 : ((32 : Nat) : Int) = 32 := rfl
  rw [e32] at h1
  have h2 := and_u64 (a := a) (b := 4294967295) (by omega) (by omega)
  have e4 : ((4294967295 : Nat) : Int) = 4294967295 := rfl
  rw [e4, show (4294967295 : Nat) = 2 ^ 32 - 1 by rfl, Nat.and_two_pow_sub_one_eq_mod] at h2
  have hq : a / 2 ^ 32 < 256 := by omega
  have hm : a % 2 ^ 32 < 4294967296 := by omega
  have b1 : a / 2 ^ 32 * b ≤ 255 * 65535 := Nat.mul_le_mul (by omega) (by omega)
  have b2 : a % 2 ^ 32 * b ≤ 4294967295 * 65535 := Nat.mul_le_mul (by omega) (by omega)
  have e1 : shrZ .u64 (a : Int) 32 * (b : Int) = ((a / 2 ^ 32 * b : Nat) : Int) := by rw [h1]; exact (Int.natCast_mul _ _).symm
  have e2 : bitZ .and .u64 (a : Int) 4294967295 * (b : Int) = ((a % 2 ^ 32 * b : Nat) : Int) := by rw [h2]; exact (Int.natCast_mul _ _).symm
  have h3 := shl_u64 (a := a / 2 ^ 32 * b) (k := 32) (by omega) (by omega)
  rw [e32, ← e1] at h3
  have h4 := shr_u64 (a := a / 2 ^ 32 * b) (k := 32) (by omega)
  rw [e32, ← e1] at h4
  have hz : a / 2 ^ 32 * b / 2 ^ 32 = 0 := by omega
  rw [hz] at h4
  have hs : a * b = a % 2 ^ 32 * b + a / 2 ^ 32 * b * 2 ^ 32 := by
    have := Nat.mod_add_div a (2 ^ 32)
    rw [Nat.mul_right_comm, Nat.mul_comm (a / 2 ^ 32), ← Nat.add_mul, this]
  refine VCall.go Try.func143 rfl ?_
  repeat' (first | (with_reducible refine And.intro ?_ ?_) | ((with_reducible intro hc); (try simp only [leZ_eq, ltZ_eq, eqZ_eq, str_size, str_list, str_nil, List.toList_toArray, decide_eq_true_eq, decide_eq_false_iff_not, beq_iff_eq, bne_iff_ne, beq_eq_false_iff_ne, bne_eq_false_iff_eq, ne_eq, Bool.not_eq_true', Bool.not_eq_false', Bool.not_true, Bool.not_false, gt_iff_lt, ge_iff_le, Int.not_lt, Int.not_le, Decidable.not_not] at hc); (first | (exact absurd rfl hc) | (exact absurd trivial hc) | (exfalso; omega) | skip)) | ((conv => whnf); first | (with_reducible refine And.intro ?_ ?_) | (refine ifB_intro (fun hc => ?_) (fun hc => ?_) <;> (try simp only [leZ_eq, ltZ_eq, eqZ_eq, str_size, str_list, str_nil, List.toList_toArray, decide_eq_true_eq, decide_eq_false_iff_not, beq_iff_eq, bne_iff_ne, beq_eq_false_iff_ne, bne_eq_false_iff_eq, ne_eq, Bool.not_eq_true', Bool.not_eq_false', Bool.not_true, Bool.not_false, gt_iff_lt, ge_iff_le, Int.not_lt, Int.not_le, Decidable.not_not] at hc) <;> (first | (exact absurd rfl hc) | (exact absurd trivial hc) | (exfalso; omega) | skip)) | (refine GAr.i64 (by omega) ?_) | ((refine GAr.i64w ?_); intro kw hk1 hk2) | (refine GAr.u8s (by omega) ?_) | (refine GAr.u8 ?_) | (refine GAr.u64s (by omega) ?_) | (refine GAr.u32s (by omega) ?_) | (refine GAr.u64 ?_) | (refine GAr.u32 ?_) | (refine GQuo.i64 (by omega) ?_) | (refine GRem.pos (by omega) ?_) | (with_reducible refine stopA ?_) | (refine Exists.intro _ (And.intro (by rfl) ?_)) | (refine GOp.via (by rfl) ?_) | (with_reducible refine stopO ?_) | (with_reducible refine stopE ?_) | (with_reducible refine stopD ?_) | (with_reducible refine stopW ?_) | (with_reducible refine stopG ?_) | (with_reducible refine stopC ?_) | (with_reducible refine stopR ?_)))
  all_goals (first | omega | skip)
  refine Done'.mk ⟨tp2 (scI_eq ?_) (scI_eq ?_), rfl⟩
  · exact h4
  · show bitZ .and .u64 (a : Int) 4294967295 * (b : Int) + shlZ .u64 (shrZ .u64 (a : Int) 32 * (b : Int)) 32 = _
    rw [e2, h3, hs]
    exact (Int.natCast_add _ _).symm
theorem and16 {a : Nat} (ha : a < 18446744073709551616) : bitZ .and .u64 (a : Int) 65535 = ((a % 65536 : Nat) : Int) := by
  have h2 := and_u64 (a := a) (b := 65535) (by omega) (by omega)
  have e4 : ((65535 : Nat) : Int) = 65535 := rfl
  rw [e4, show (65535 : Nat) = 2 ^ 16 - 1 by rfl, Nat.and_two_pow_sub_one_eq_mod] at h2
  exact h2
theorem shr16 {a : Nat} : shrZ .u64 (a : Int) 16 = ((a / 65536 : Nat) : Int) := by
  have h1 := shr_u64 (a := a) (k := 16) (by omega)
  have e : ((16 : Nat) : Int) = 16 := rfl
  rw [e] at h1
  exact h1
theorem shl48 : shlZ .u64 0 48 = 0 := by
  have h1 := shl_u64 (a := 0) (k := 48) (by omega) (by omega)
  exact h1
theorem or_zero {a : Nat} (ha : a < 18446744073709551616) : bitZ .or .u64 (a : Int) 0 = (a : Int) := by
  have h1 := or_u64 (a := a) (b := 0) (by omega) (by omega)
  rw [Nat.or_zero] at h1
  exact h1
/-- What is still to come. -/
def remD (y : Nat) (l : List Nat) (i c : Nat) : List Nat := if i < l.length then tmD y (l.drop i) c else cgD (l.length + 3 - i) c
theorem remD_next {y : Nat} {l : List Nat} {i c : Nat} (h : i < l.length) : remD y l i c = (y * l.getD i 0 + c) % 65536 :: remD y l (i + 1) ((y * l.getD i 0 + c) / 65536) := by
  have hd : l.getD i 0 = l[i] := by simp [List.getD, List.getElem?_eq_getElem h]
  rw [hd]
  unfold remD
  rw [if_pos h, List.drop_eq_getElem_cons h]
  simp only [tmD]
  split
  · rfl
  · rw [List.drop_eq_nil_of_le (by omega), show l.length + 3 - (i + 1) = 3 by omega]
    rfl
theorem remD_tail {y : Nat} {l : List Nat} {i c : Nat} (h : ¬ i < l.length) (h3 : i < l.length + 3) (hc : c ≠ 0) : remD y l i c = (y * l.getD i 0 + c) % 65536 :: remD y l (i + 1) ((y * l.getD i 0 + c) / 65536) := by
  have hd : l.getD i 0 = 0 := by simp [List.getD, List.getElem?_eq_none (Nat.le_of_not_lt h)]
  rw [hd, Nat.mul_zero, Nat.zero_add]
  unfold remD
  rw [if_neg h, if_neg (by omega), show l.length + 3 - i = (l.length + 3 - (i + 1)) + 1 by omega]
  simp only [cgD]
  rw [if_neg hc]
theorem remD_end {y : Nat} {l : List Nat} {i : Nat} (h : ¬ i < l.length) : remD y l i 0 = [] := by
  unfold remD
  rw [if_neg h]
  cases l.length + 3 - i with
  | zero => rfl
  | succ n => simp [cgD]

theorem times_call (y : Nat) (hy : y < 1099511627776) (l : List Nat) (hl : okD l) (hn : l.length ≤ 1000) (H : Heap) : VCall Try.prog 104 [roU l, uV y] H (fun v K => v = roU (tmD y l 0) ∧ K = H) := by
  refine VCall.frozen (Q := fun v K => Frz K v (roU (tmD y l 0))) (by simp [nameless_roU, nameless_uV]) ?_ (fun v K h => h)
  refine VCall.go Try.func104 rfl ?_
  repeat' (first | (with_reducible refine And.intro ?_ ?_) | ((with_reducible intro hc); (try simp only [leZ_eq, ltZ_eq, eqZ_eq, str_size, str_list, str_nil, List.toList_toArray, decide_eq_true_eq, decide_eq_false_iff_not, beq_iff_eq, bne_iff_ne, beq_eq_false_iff_ne, bne_eq_false_iff_eq, ne_eq, Bool.not_eq_true', Bool.not_eq_false', Bool.not_true, Bool.not_false, gt_iff_lt, ge_iff_le, Int.not_lt, Int.not_le, Decidable.not_not] at hc); (first | (exact absurd rfl hc) | (exact absurd trivial hc) | (exfalso; omega) | skip)) | ((conv => whnf); first | (with_reducible refine And.intro ?_ ?_) | (refine ifB_intro (fun hc => ?_) (fun hc => ?_) <;> (try simp only [leZ_eq, ltZ_eq, eqZ_eq, str_size, str_list, str_nil, List.toList_toArray, decide_eq_true_eq, decide_eq_false_iff_not, beq_iff_eq, bne_iff_ne, beq_eq_false_iff_ne, bne_eq_false_iff_eq, ne_eq, Bool.not_eq_true', Bool.not_eq_false', Bool.not_true, Bool.not_false, gt_iff_lt, ge_iff_le, Int.not_lt, Int.not_le, Decidable.not_not] at hc) <;> (first | (exact absurd rfl hc) | (exact absurd trivial hc) | (exfalso; omega) | skip)) | (refine GAr.i64 (by omega) ?_) | ((refine GAr.i64w ?_); intro kw hk1 hk2) | (refine GAr.u8s (by omega) ?_) | (refine GAr.u8 ?_) | (refine GAr.u64s (by omega) ?_) | (refine GAr.u32s (by omega) ?_) | (refine GAr.u64 ?_) | (refine GAr.u32 ?_) | (refine GQuo.i64 (by omega) ?_) | (refine GRem.pos (by omega) ?_) | (with_reducible refine stopA ?_) | (refine Exists.intro _ (And.intro (by rfl) ?_)) | (refine GOp.via (by rfl) ?_) | (with_reducible refine stopO ?_) | (with_reducible refine stopE ?_) | (with_reducible refine stopD ?_) | (with_reducible refine stopW ?_) | (with_reducible refine stopG ?_) | (with_reducible refine stopC ?_) | (with_reducible refine stopR ?_)))
  (refine GWP'.mk (GWP.loopB [0] (fun (a : List Nat × Nat × Nat) => a.1 ++ remD y l a.2.1 a.2.2 = tmD y l 0 ∧ a.2.1 ≤ l.length + 3 ∧ a.1.length = a.2.1 ∧ a.2.2 ≤ y ∧ (l.length ≤ a.2.1 → a.2.2 < 65536 ^ (l.length + 3 - a.2.1))) (fun a => [(5, .gs 1 a.1.length 1), (6, uV a.2.2), (7, iV a.2.1)]) (fun a => [(1, .opt (a.1.map uV))]) 2 (fun a => l.length + 3 - a.2.1) ([], 0, 0) ⟨by
    show [] ++ remD y l 0 0 = _
    unfold remD
    split
    · rfl
    · rename_i h
      have : l = [] := List.eq_nil_of_length_eq_zero (by omega)
      subst this
      rfl, Nat.zero_le _, rfl, Nat.zero_le _, fun _ => Nat.pow_pos (by omega)⟩ ?_); (conv => whnf); refine And.intro ?_ ?_)
  · (refine KeptA.of [] rfl rfl (by repeat' (first | exact trivial | refine And.intro rfl ?_)) rfl ?fit ?ren; (case ren => (repeat' (first | exact trivial | (refine And.intro ?_ ?_) | (refine Exists.intro _ (And.intro rfl ?_)) | (refine RenO.opt ?_) | (refine RenO.toOpt ?_) | (refine RenO.cells ?_) | exact RenO.defs | exact RenL.nil | (refine RenL.cons ?_ ?_) | (first | (refine RenL.eq (by simp) (nameless_map nameless_uV _)) | (with_reducible exact RenV.sc) | exact RenV.gsN | exact RenV.gsZ | (refine RenV.gsE (by (first | exact List.Mem.head _ | exact List.Mem.tail _ (List.Mem.head _) | exact List.Mem.tail _ (List.Mem.tail _ (List.Mem.head _)) | (simp; done))) ?_; (first | rfl | omega | (simp only [List.length_append, List.length_cons, List.length_nil, List.length_map, List.length_take, List.length_drop] <;> omega) | (simp only <;> omega) | (simp <;> omega))) | exact RenV.gsL (by decide) | exact RenV.slL (by decide) | (refine RenV.eq (scI_eq ?_) (nameless_sc _); (first | rfl | omega | (simp only [List.length_append, List.length_cons, List.length_nil, List.length_map, List.length_take, List.length_drop] <;> omega) | (simp only <;> omega) | (simp <;> omega))) | exact RenV.undef) | (with_unfolding_all exact (rfl : (_ : VObj) = _))))); (case fit => (repeat' (first | exact trivial | (refine And.intro ?_ ?_) | (refine Exists.intro _ (And.intro rfl ?_)) | (first | (refine RenL.eq (by simp) (nameless_map nameless_uV _)) | (with_reducible exact RenV.sc) | exact RenV.gsN | exact RenV.gsZ | (refine RenV.gsE (by (first | exact List.Mem.head _ | exact List.Mem.tail _ (List.Mem.head _) | exact List.Mem.tail _ (List.Mem.tail _ (List.Mem.head _)) | (simp; done))) ?_; (first | rfl | omega | (simp only [List.length_append, List.length_cons, List.length_nil, List.length_map, List.length_take, List.length_drop] <;> omega) | (simp only <;> omega) | (simp <;> omega))) | exact RenV.gsL (by decide) | exact RenV.slL (by decide) | (refine RenV.eq (scI_eq ?_) (nameless_sc _); (first | rfl | omega | (simp only [List.length_append, List.length_cons, List.length_nil, List.length_map, List.length_take, List.length_drop] <;> omega) | (simp only <;> omega) | (simp <;> omega))) | exact RenV.undef)))))
  rintro ⟨out, i, c⟩ ⟨h1, h2, h3, h4, h5⟩
  simp only at h1 h2 h3 h4 h5 ⊢
  have hgo : (i < l.length ∨ 0 < c) → i < l.length + 3 ∧ remD y l i c = (y * l.getD i 0 + c) % 65536 :: remD y l (i + 1) ((y * l.getD i 0 + c) / 65536) ∧ l.getD i 0 < 65536 ∧ (l.length ≤ i + 1 → (y * l.getD i 0 + c) / 65536 < 65536 ^ (l.length + 3 - (i + 1))) := fun h => by
    have hd : l.getD i 0 < 65536 := by
      by_cases hi : i < l.length
      · have : l.getD i 0 = l[i] := by simp [List.getD, List.getElem?_eq_getElem hi]
        rw [this]
        exact hl _ (List.getElem_mem _)
      · simp [List.getD, List.getElem?_eq_none (Nat.le_of_not_lt hi)]
    by_cases hi : i < l.length
    · refine ⟨by omega, remD_next hi, hd, fun h7 => ?_⟩
      rw [show l.length + 3 - (i + 1) = 3 by omega]
      have := carry_le hd h4
      omega
    · have hc0 : 0 < c := by omega
      have h6 : i < l.length + 3 := by
        rcases Nat.lt_or_ge i (l.length + 3) with g | g
        · exact g
        · have := h5 (by omega)
          rw [show l.length + 3 - i = 0 by omega] at this
          omega
      refine ⟨h6, remD_tail hi h6 (by omega), hd, fun h7 => ?_⟩
      have h8 := h5 (by omega)
      have : l.getD i 0 = 0 := by simp [List.getD, List.getElem?_eq_none (Nat.le_of_not_lt hi)]
      rw [this, Nat.mul_zero, Nat.zero_add]
      rw [show l.length + 3 - i = (l.length + 3 - (i + 1)) + 1 by omega, Nat.pow_succ] at h8
      exact Nat.div_lt_of_lt_mul (by rw [Nat.mul_comm]; exact h8)
  have hst : ¬ (i < l.length ∨ 0 < c) → out = tmD y l 0 := fun h => by
    obtain rfl : c = 0 := by omega
    rw [remD_end (by omega), List.append_nil] at h1
    exact h1
  clear h5
  by_cases hcond : i < l.length ∨ 0 < c
  · obtain ⟨g1, g2, g3, g4⟩ := hgo hcond
    clear hgo hst
    rw [g2] at h1
    have g5 := carry_le g3 h4
    have hdc := digit_call l i
    generalize l.getD i 0 = d at *
    have hwc := wide_call y d hy g3
    have b1 : y * d ≤ 72056494543077376 := Nat.le_trans (Nat.mul_le_mul (show y ≤ 1099511627775 by omega) (show d ≤ 65535 by omega)) (by decide)
    generalize hp : y * d = p at *
    have hpc : ((p + c : Nat) : Int) = (p : Int) + (c : Int) := Int.natCast_add _ _
    have a1 := and16 (a := p + c) (by omega)
    rw [hpc] at a1
    have a2 := shr16 (a := p + c)
    rw [hpc] at a2
    have a3 := shl48
    have hv : uV ((p + c) % 65536) = .sc (.int .u64 (bitZ .and .u64 ((p : Int) + (c : Int)) 65535)) := scI_eq a1.symm
    have hw : bitZ .or .u64 (shrZ .u64 ((p : Int) + (c : Int)) 16) (shlZ .u64 0 48) = (((p + c) / 65536 : Nat) : Int) := by
      rw [a2, a3]
      exact or_zero (by omega)
    have hrow : out.map uV ++ [.sc (.int .u64 (bitZ .and .u64 ((p : Int) + (c : Int)) 65535))] = (out ++ [(p + c) % 65536]).map uV := by rw [← hv]; simp
    have hlo : (out.map uV).length = i * 1 := by simp [h3]
    have ho2 : (out ++ [(p + c) % 65536]).length = out.length + 1 := by simp
    repeat' (first | (with_reducible refine And.intro ?_ ?_) | ((with_reducible intro hc); (try simp only [leZ_eq, ltZ_eq, eqZ_eq, str_size, str_list, str_nil, List.toList_toArray, decide_eq_true_eq, decide_eq_false_iff_not, beq_iff_eq, bne_iff_ne, beq_eq_false_iff_ne, bne_eq_false_iff_eq, ne_eq, Bool.not_eq_true', Bool.not_eq_false', Bool.not_true, Bool.not_false, gt_iff_lt, ge_iff_le, Int.not_lt, Int.not_le, Decidable.not_not] at hc); (first | (exact absurd rfl hc) | (exact absurd trivial hc) | (exfalso; omega) | skip)) | (exact Is.mk rfl rfl) | ((conv => whnf); first | (with_reducible refine And.intro ?_ ?_) | (with_reducible intro hx) | (exact Is.mk rfl rfl) | (with_reducible apply Val.via) | (with_reducible apply ValH.via) | (refine ifB_intro (fun hc => ?_) (fun hc => ?_) <;> (try simp only [leZ_eq, ltZ_eq, eqZ_eq, str_size, str_list, str_nil, List.toList_toArray, decide_eq_true_eq, decide_eq_false_iff_not, beq_iff_eq, bne_iff_ne, beq_eq_false_iff_ne, bne_eq_false_iff_eq, ne_eq, Bool.not_eq_true', Bool.not_eq_false', Bool.not_true, Bool.not_false, gt_iff_lt, ge_iff_le, Int.not_lt, Int.not_le, Decidable.not_not] at hc) <;> (first | (exact absurd rfl hc) | (exact absurd trivial hc) | (exfalso; omega) | skip)) | (refine GAr.i64 (by omega) ?_) | ((refine GAr.i64w ?_); intro kw hk1 hk2) | (refine GAr.u8s (by omega) ?_) | (refine GAr.u8 ?_) | (refine GAr.u64s (by omega) ?_) | (refine GAr.u32s (by omega) ?_) | (refine GAr.u64 ?_) | (refine GAr.u32 ?_) | (refine GQuo.i64 (by omega) ?_) | (refine GRem.pos (by omega) ?_) | (with_reducible refine stopA ?_) | (refine Exists.intro _ (And.intro (by (first | rfl)) ?_)) | (refine GOp.drawn (by rfl) (by rfl) (Nat.le_of_ble_eq_true (by rfl)) (by rfl)) | (refine GOp.via (by rfl) ?_) | (refine GWP.drawY mixed _ (by kernel_rfl) (by rfl) ?_) | (first | (refine GCall.mk ((hdc _).mono ?_); rintro _ _ ⟨rfl, rfl⟩) | (refine GCall.mk ((hwc _).mono ?_); rintro _ _ ⟨rfl, rfl⟩) | (refine stopO (GOp'.grow rfl sty_u (d := .slice 78) Try.underlying76 (by intro k h; cases h) rfl (m := 1) (l := [.sc (.int .u64 (bitZ .and .u64 ((p : Int) + (c : Int)) 65535))]) (by rfl) (by rfl) rfl (by simp) (by omega) (by omega) ?_))) | (with_reducible refine stopO ?_) | (with_reducible refine stopE ?_) | (with_reducible refine stopD ?_) | (with_reducible refine stopW ?_) | (with_reducible refine stopG ?_) | (with_reducible refine stopC ?_) | (with_reducible refine stopR ?_)))
    all_goals (first | omega | skip)
    all_goals ((refine Done'.mk ⟨(out ++ [(p + c) % 65536], i + 1, (p + c) / 65536), ⟨by simp only; rw [← h1]; simp, by simp only; omega, by simp only; omega, by simp only; omega, fun h => g4 h⟩, ?mu, KeptA.of [(3, 1)] rfl rfl (by repeat' (first | exact trivial | refine And.intro rfl ?_)) rfl ?fit ?ren⟩; (case mu => (first | omega | (simp only; omega))); (case ren => (repeat' (first | exact trivial | (refine And.intro ?_ ?_) | (refine Exists.intro _ (And.intro rfl ?_)) | (refine RenO.opt ?_) | (refine RenO.toOpt ?_) | (refine RenO.cells ?_) | exact RenO.defs | exact RenL.nil | (refine RenL.cons ?_ ?_) | (first | (first | exact RenL.eq hrow (nameless_map nameless_uV _) | exact RenV.gsE (List.Mem.head _) ho2.symm | exact RenV.eq (scI_eq hw) (nameless_sc _)) | (with_reducible exact RenV.sc) | exact RenV.gsN | exact RenV.gsZ | (refine RenV.gsE (by (first | exact List.Mem.head _ | exact List.Mem.tail _ (List.Mem.head _) | exact List.Mem.tail _ (List.Mem.tail _ (List.Mem.head _)) | (simp; done))) ?_; (first | rfl | omega | (simp only [List.length_append, List.length_cons, List.length_nil, List.length_map, List.length_take, List.length_drop] <;> omega) | (simp only <;> omega) | (simp <;> omega))) | exact RenV.gsL (by decide) | exact RenV.slL (by decide) | (refine RenV.eq (scI_eq ?_) (nameless_sc _); (first | rfl | omega | (simp only [List.length_append, List.length_cons, List.length_nil, List.length_map, List.length_take, List.length_drop] <;> omega) | (simp only <;> omega) | (simp <;> omega))) | exact RenV.undef) | (with_unfolding_all exact (rfl : (_ : VObj) = _))))); (case fit => (repeat' (first | exact trivial | (refine And.intro ?_ ?_) | (refine Exists.intro _ (And.intro rfl ?_)) | (first | (first | exact RenL.eq hrow (nameless_map nameless_uV _) | exact RenV.gsE (List.Mem.head _) ho2.symm | exact RenV.eq (scI_eq hw) (nameless_sc _)) | (with_reducible exact RenV.sc) | exact RenV.gsN | exact RenV.gsZ | (refine RenV.gsE (by (first | exact List.Mem.head _ | exact List.Mem.tail _ (List.Mem.head _) | exact List.Mem.tail _ (List.Mem.tail _ (List.Mem.head _)) | (simp; done))) ?_; (first | rfl | omega | (simp only [List.length_append, List.length_cons, List.length_nil, List.length_map, List.length_take, List.length_drop] <;> omega) | (simp only <;> omega) | (simp <;> omega))) | exact RenV.gsL (by decide) | exact RenV.slL (by decide) | (refine RenV.eq (scI_eq ?_) (nameless_sc _); (first | rfl | omega | (simp only [List.length_append, List.length_cons, List.length_nil, List.length_map, List.length_take, List.length_drop] <;> omega) | (simp only <;> omega) | (simp <;> omega))) | exact RenV.undef))))))
  · have hst := hst hcond
    subst hst
    obtain rfl : c = 0 := by omega
    clear hgo
    repeat' (first | (with_reducible refine And.intro ?_ ?_) | ((with_reducible intro hc); (try simp only [leZ_eq, ltZ_eq, eqZ_eq, str_size, str_list, str_nil, List.toList_toArray, decide_eq_true_eq, decide_eq_false_iff_not, beq_iff_eq, bne_iff_ne, beq_eq_false_iff_ne, bne_eq_false_iff_eq, ne_eq, Bool.not_eq_true', Bool.not_eq_false', Bool.not_true, Bool.not_false, gt_iff_lt, ge_iff_le, Int.not_lt, Int.not_le, Decidable.not_not] at hc); (first | (exact absurd rfl hc) | (exact absurd trivial hc) | (exfalso; omega) | skip)) | (exact Is.mk rfl rfl) | ((conv => whnf); first | (with_reducible refine And.intro ?_ ?_) | (with_reducible intro hx) | (exact Is.mk rfl rfl) | (with_reducible apply Val.via) | (with_reducible apply ValH.via) | (refine ifB_intro (fun hc => ?_) (fun hc => ?_) <;> (try simp only [leZ_eq, ltZ_eq, eqZ_eq, str_size, str_list, str_nil, List.toList_toArray, decide_eq_true_eq, decide_eq_false_iff_not, beq_iff_eq, bne_iff_ne, beq_eq_false_iff_ne, bne_eq_false_iff_eq, ne_eq, Bool.not_eq_true', Bool.not_eq_false', Bool.not_true, Bool.not_false, gt_iff_lt, ge_iff_le, Int.not_lt, Int.not_le, Decidable.not_not] at hc) <;> (first | (exact absurd rfl hc) | (exact absurd trivial hc) | (exfalso; omega) | skip)) | (refine GAr.i64 (by omega) ?_) | ((refine GAr.i64w ?_); intro kw hk1 hk2) | (refine GAr.u8s (by omega) ?_) | (refine GAr.u8 ?_) | (refine GAr.u64s (by omega) ?_) | (refine GAr.u32s (by omega) ?_) | (refine GAr.u64 ?_) | (refine GAr.u32 ?_) | (refine GQuo.i64 (by omega) ?_) | (refine GRem.pos (by omega) ?_) | (with_reducible refine stopA ?_) | (refine Exists.intro _ (And.intro (by rfl) ?_)) | (refine GOp.drawn (by rfl) (by rfl) (Nat.le_of_ble_eq_true (by rfl)) (by rfl)) | (refine GOp.via (by rfl) ?_) | (refine GWP.drawY mixed _ (by kernel_rfl) (by rfl) ?_) | fail | (with_reducible refine stopO ?_) | (with_reducible refine stopE ?_) | (with_reducible refine stopD ?_) | (with_reducible refine stopW ?_) | (with_reducible refine stopG ?_) | (with_reducible refine stopC ?_) | (with_reducible refine stopR ?_)))
    all_goals (first | omega | skip)
    exact Done'.mk (Frz.gs rfl (by simp) (nameless_map nameless_uV _))
end Go.Proofs.Ytdgohabgjgdfeaa
