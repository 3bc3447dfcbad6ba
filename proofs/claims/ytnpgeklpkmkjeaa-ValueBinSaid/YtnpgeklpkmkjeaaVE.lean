/- The two operators answer alike: for each operator and any two values that the package makes there is one value and one error that both hand back. -/
import Derived.Test.YtnpgeklpkmkjeaaVC2
import Derived.Test.YtnpgeklpkmkjeaaVD2
import Derived.Test.YtnpgeklpkmkjeaaVD3
import Derived.Test.YtnpgeklpkmkjeaaVD4
namespace Go.Proofs.Ytnpgeklpkmkjeaa
open Go.RowKit
set_option linter.unusedSimpArgs false
set_option linter.unusedVariables false
/-- Both hand back this value and this error. -/
def Both (op : ByteArray) (k1 n1 : Int) (s1 : ByteArray) (k2 n2 : Int) (s2 : ByteArray) : Prop :=
  ∃ k n s e, Ans 6 #[.string op, .agg #[.int .i64 k1, .int .i64 n1, .string s1], .agg #[.int .i64 k2, .int .i64 n2, .string s2]] k n s e ∧ Ans 8 #[.string op, .agg #[.int .i64 k1, .int .i64 n1, .string s1], .agg #[.int .i64 k2, .int .i64 n2, .string s2]] k n s e

theorem cmp_lt (m n : Int) : decide (cmpI m n < 0) = decide (m < n) := by
  unfold cmpI; split <;> (try split) <;> simp <;> omega
theorem cmp_gt (m n : Int) : decide (0 < cmpI m n) = decide (n < m) := by
  unfold cmpI; split <;> (try split) <;> simp <;> omega
theorem cmp_le (c : Int) : decide (c ≤ 0) = !decide (0 < c) := by
  rw [Bool.eq_iff_iff]; simp
theorem cmp_ge (c : Int) : decide (0 ≤ c) = !decide (c < 0) := by
  rw [Bool.eq_iff_iff]; simp
theorem mul_big {a b : Int} (h1 : -2147483648 ≤ a) (h2 : a ≤ 2147483648) (h3 : -2147483648 ≤ b) (h4 : b ≤ 2147483648) : -4611686018427387904 ≤ a * b ∧ a * b ≤ 4611686018427387904 := by
  have hab : (a * b).natAbs ≤ 2147483648 * 2147483648 := by
    rw [Int.natAbs_mul]
    exact Nat.mul_le_mul (by omega) (by omega)
  omega
theorem quo_big {a b : Int} (h1 : -2147483648 ≤ a) (h2 : a ≤ 2147483648) : -2147483648 ≤ a.tdiv b ∧ a.tdiv b ≤ 2147483648 := by
  have h : (a.tdiv b).natAbs ≤ a.natAbs := by rw [Int.natAbs_tdiv]; exact Nat.div_le_self _ _
  omega
theorem rem_big {a b : Int} (h1 : -2147483648 ≤ a) (h2 : a ≤ 2147483648) : -2147483648 ≤ a.tmod b ∧ a.tmod b ≤ 2147483648 := by
  have h : (a.tmod b).natAbs ≤ a.natAbs := by rw [Int.natAbs_tmod]; exact Nat.mod_le _ _
  omega
/-- Of the values that are made: which kinds, and what stands in them. -/
theorem vok_num {n : Int} {s : ByteArray} (h : VOk 1 n s) : -2147483648 ≤ n ∧ n ≤ 2147483648 ∧ s = ⟨#[]⟩ := by
  rcases h with ⟨h, _⟩ | ⟨_, a, b, c⟩ | ⟨h, _⟩ | ⟨h, _⟩ <;> first | exact ⟨a, b, c⟩ | (exfalso; omega)
theorem vok_txt {n : Int} {s : ByteArray} (h : VOk 2 n s) : n = 0 ∧ s.size ≤ 4096 := by
  rcases h with ⟨h, _⟩ | ⟨h, _⟩ | ⟨_, a, b⟩ | ⟨h, _⟩ <;> first | exact ⟨a, b⟩ | (exfalso; omega)

section
variable (k1 n1 : Int) (s1 : ByteArray) (k2 n2 : Int) (s2 : ByteArray) (v1 : VOk k1 n1 s1) (v2 : VOk k2 n2 s2)
include v1 v2
omit v1 v2 in
/-- Two kinds: both numbers, both texts, or neither. -/
theorem kinds : (k1 = 1 ∧ k2 = 1) ∨ (k1 = 2 ∧ k2 = 2) ∨ (¬ k1 = k2 ∨ (¬ k1 = 1 ∧ ¬ k1 = 2)) := by
  by_cases h : k1 = k2
  · by_cases h1 : k1 = 1
    · exact .inl ⟨h1, by omega⟩
    · by_cases h2 : k1 = 2
      · exact .inr (.inl ⟨h2, by omega⟩)
      · exact .inr (.inr (.inr ⟨h1, h2⟩))
  · exact .inr (.inr (.inl h))
theorem both_lt : Both ⟨#[60]⟩ k1 n1 s1 k2 n2 s2 := by
  rcases kinds k1 k2 with ⟨rfl, rfl⟩ | ⟨rfl, rfl⟩ | h
  · obtain ⟨_, _, rfl⟩ := vok_num v1
    obtain ⟨_, _, rfl⟩ := vok_num v2
    exact ⟨_, _, _, _, bin_lt_num n1 n2 _ _ rfl, by rw [cmp_lt]; exact rbin_lt_num _ _ _ _⟩
  · obtain ⟨rfl, _⟩ := vok_txt v1
    obtain ⟨rfl, _⟩ := vok_txt v2
    exact ⟨_, _, _, _, bin_lt_txt _ _ _ _ rfl, by rw [cmpS_lt]; exact rbin_lt_txt _ _ _ _⟩
  · exact ⟨_, _, _, _, bin_lt_kind _ _ _ _ _ _ h, rbin_lt_kind _ _ _ _ _ _ h⟩
theorem both_gt : Both ⟨#[62]⟩ k1 n1 s1 k2 n2 s2 := by
  rcases kinds k1 k2 with ⟨rfl, rfl⟩ | ⟨rfl, rfl⟩ | h
  · obtain ⟨_, _, rfl⟩ := vok_num v1
    obtain ⟨_, _, rfl⟩ := vok_num v2
    exact ⟨_, _, _, _, bin_gt_num n1 n2 _ _ rfl, by rw [cmp_gt]; exact rbin_gt_num _ _ _ _⟩
  · obtain ⟨rfl, _⟩ := vok_txt v1
    obtain ⟨rfl, _⟩ := vok_txt v2
    exact ⟨_, _, _, _, bin_gt_txt _ _ _ _ rfl, by rw [cmpS_gt]; exact rbin_gt_txt _ _ _ _⟩
  · exact ⟨_, _, _, _, bin_gt_kind _ _ _ _ _ _ h, rbin_gt_kind _ _ _ _ _ _ h⟩
theorem both_le : Both ⟨#[60, 61]⟩ k1 n1 s1 k2 n2 s2 := by
  rcases kinds k1 k2 with ⟨rfl, rfl⟩ | ⟨rfl, rfl⟩ | h
  · obtain ⟨_, _, rfl⟩ := vok_num v1
    obtain ⟨_, _, rfl⟩ := vok_num v2
    exact ⟨_, _, _, _, bin_le_num n1 n2 _ _ rfl, by rw [cmp_le, cmp_gt]; exact rbin_le_num _ _ _ _⟩
  · obtain ⟨rfl, _⟩ := vok_txt v1
    obtain ⟨rfl, _⟩ := vok_txt v2
    exact ⟨_, _, _, _, bin_le_txt _ _ _ _ rfl, by rw [cmp_le, cmpS_gt]; exact rbin_le_txt _ _ _ _⟩
  · exact ⟨_, _, _, _, bin_le_kind _ _ _ _ _ _ h, rbin_le_kind _ _ _ _ _ _ h⟩
theorem both_ge : Both ⟨#[62, 61]⟩ k1 n1 s1 k2 n2 s2 := by
  rcases kinds k1 k2 with ⟨rfl, rfl⟩ | ⟨rfl, rfl⟩ | h
  · obtain ⟨_, _, rfl⟩ := vok_num v1
    obtain ⟨_, _, rfl⟩ := vok_num v2
    exact ⟨_, _, _, _, bin_ge_num n1 n2 _ _ rfl, by rw [cmp_ge, cmp_lt]; exact rbin_ge_num _ _ _ _⟩
  · obtain ⟨rfl, _⟩ := vok_txt v1
    obtain ⟨rfl, _⟩ := vok_txt v2
    exact ⟨_, _, _, _, bin_ge_txt _ _ _ _ rfl, by rw [cmp_ge, cmpS_lt]; exact rbin_ge_txt _ _ _ _⟩
  · exact ⟨_, _, _, _, bin_ge_kind _ _ _ _ _ _ h, rbin_ge_kind _ _ _ _ _ _ h⟩
omit v1 v2 in
theorem not_nums (h : ¬ (k1 = 1 ∧ k2 = 1)) : (k1 == 1) = false ∨ (k2 == 1) = false := by
  by_cases h1 : k1 = 1
  · exact .inr (by rw [beq_eq_false_iff_ne]; exact fun e => h ⟨h1, e⟩)
  · exact .inl (by rw [beq_eq_false_iff_ne]; exact h1)
theorem both_plus : Both ⟨#[43]⟩ k1 n1 s1 k2 n2 s2 := by
  rcases kinds k1 k2 with ⟨rfl, rfl⟩ | ⟨rfl, rfl⟩ | h
  · obtain ⟨a1, a2, rfl⟩ := vok_num v1
    obtain ⟨b1, b2, rfl⟩ := vok_num v2
    by_cases hr : -2147483648 ≤ n1 + n2 ∧ n1 + n2 ≤ 2147483648
    · exact ⟨_, _, _, _, bin_plus_in _ _ _ _ a1 a2 b1 b2 hr.1 hr.2, rbin_plus_in _ _ _ _ a1 a2 b1 b2 (by omega) (by omega) hr.1 hr.2⟩
    · exact ⟨_, _, _, _, bin_plus_out _ _ _ _ a1 a2 b1 b2 (by omega) (by omega) (by omega), rbin_plus_out _ _ _ _ a1 a2 b1 b2 (by omega) (by omega) (by omega)⟩
  · obtain ⟨rfl, hs⟩ := vok_txt v1
    obtain ⟨rfl, ht⟩ := vok_txt v2
    have hz : (s1 ++ s2).size = s1.size + s2.size := ByteArray.size_append
    by_cases hr : (s1 ++ s2).size ≤ 4096
    · exact ⟨_, _, _, _, bin_plus_txt_in _ _ _ _ hs ht hr, rbin_plus_txt_in _ _ _ _ hs ht hr⟩
    · exact ⟨_, _, _, _, bin_plus_txt_out _ _ _ _ hs ht (by omega) (by omega), rbin_plus_txt_out _ _ _ _ hs ht (by omega) (by omega)⟩
  · exact ⟨_, _, _, _, bin_plus_kind _ _ _ _ _ _ h, rbin_plus_kind _ _ _ _ _ _ h⟩
theorem both_minus : Both ⟨#[45]⟩ k1 n1 s1 k2 n2 s2 := by
  by_cases hk : k1 = 1 ∧ k2 = 1
  · obtain ⟨rfl, rfl⟩ := hk
    obtain ⟨a1, a2, rfl⟩ := vok_num v1
    obtain ⟨b1, b2, rfl⟩ := vok_num v2
    by_cases hr : -2147483648 ≤ n1 - n2 ∧ n1 - n2 ≤ 2147483648
    · exact ⟨_, _, _, _, bin_minus_in _ _ _ _ a1 a2 b1 b2 hr.1 hr.2, rbin_minus_in _ _ _ _ a1 a2 b1 b2 (by omega) (by omega) hr.1 hr.2⟩
    · exact ⟨_, _, _, _, bin_minus_out _ _ _ _ a1 a2 b1 b2 (by omega) (by omega) (by omega), rbin_minus_out _ _ _ _ a1 a2 b1 b2 (by omega) (by omega) (by omega)⟩
  · exact ⟨_, _, _, _, bin_minus_kind _ _ _ _ _ _ (not_nums _ _ hk), rbin_minus_kind _ _ _ _ _ _ (not_nums _ _ hk)⟩
theorem both_times : Both ⟨#[42]⟩ k1 n1 s1 k2 n2 s2 := by
  by_cases hk : k1 = 1 ∧ k2 = 1
  · obtain ⟨rfl, rfl⟩ := hk
    obtain ⟨a1, a2, rfl⟩ := vok_num v1
    obtain ⟨b1, b2, rfl⟩ := vok_num v2
    have hm := mul_big a1 a2 b1 b2
    by_cases hr : -2147483648 ≤ n1 * n2 ∧ n1 * n2 ≤ 2147483648
    · exact ⟨_, _, _, _, bin_times_in _ _ _ _ a1 a2 b1 b2 hr.1 hr.2, rbin_times_in _ _ _ _ a1 a2 b1 b2 (by omega) (by omega) hr.1 hr.2⟩
    · exact ⟨_, _, _, _, bin_times_out _ _ _ _ a1 a2 b1 b2 (by omega) (by omega) (by omega), rbin_times_out _ _ _ _ a1 a2 b1 b2 (by omega) (by omega) (by omega)⟩
  · exact ⟨_, _, _, _, bin_times_kind _ _ _ _ _ _ (not_nums _ _ hk), rbin_times_kind _ _ _ _ _ _ (not_nums _ _ hk)⟩
theorem both_quo : Both ⟨#[47]⟩ k1 n1 s1 k2 n2 s2 := by
  by_cases hk : k1 = 1 ∧ k2 = 1
  · obtain ⟨rfl, rfl⟩ := hk
    obtain ⟨a1, a2, rfl⟩ := vok_num v1
    obtain ⟨b1, b2, rfl⟩ := vok_num v2
    by_cases hz : n2 = 0
    · subst hz
      exact ⟨_, _, _, _, bin_quo_zero _ _ _, rbin_quo_zero _ _ _⟩
    · have hq := quo_big (b := n2) a1 a2
      refine ⟨_, _, _, _, bin_quo _ _ _ _ a1 a2 b1 b2 hz hq.1 hq.2, ?_⟩
      rcases Int.lt_or_le n1 0 with ha | ha <;> rcases Int.lt_or_le n2 0 with hb | hb
      · exact rbin_quo_nn _ _ _ _ ha a1 a2 hb b1 b2 hq.1 hq.2
      · exact rbin_quo_np _ _ _ _ ha a1 a2 (by omega) b1 b2 hq.1 hq.2
      · exact rbin_quo_pn _ _ _ _ ha a1 a2 hb b1 b2 hq.1 hq.2
      · have e := Int.tdiv_eq_ediv_of_nonneg (b := n2) ha
        rw [e] at hq ⊢
        exact rbin_quo_pp _ _ _ _ ha a1 a2 (by omega) b1 b2 hq.1 hq.2
  · exact ⟨_, _, _, _, bin_quo_kind _ _ _ _ _ _ (not_nums _ _ hk), rbin_quo_kind _ _ _ _ _ _ (not_nums _ _ hk)⟩
theorem both_rem : Both ⟨#[37]⟩ k1 n1 s1 k2 n2 s2 := by
  by_cases hk : k1 = 1 ∧ k2 = 1
  · obtain ⟨rfl, rfl⟩ := hk
    obtain ⟨a1, a2, rfl⟩ := vok_num v1
    obtain ⟨b1, b2, rfl⟩ := vok_num v2
    by_cases hz : n2 = 0
    · subst hz
      exact ⟨_, _, _, _, bin_rem_zero _ _ _, rbin_rem_zero _ _ _⟩
    · have hq := rem_big (b := n2) a1 a2
      refine ⟨_, _, _, _, bin_rem _ _ _ _ a1 a2 b1 b2 hz hq.1 hq.2, ?_⟩
      rcases Int.lt_or_le n1 0 with ha | ha
      · rcases Int.lt_or_le n2 0 with hb | hb
        · exact rbin_rem_nn _ _ _ _ ha a1 a2 hb b1 b2 hq.1 hq.2
        · exact rbin_rem_np _ _ _ _ ha a1 a2 (by omega) b1 b2 hq.1 hq.2
      · have e := Int.tmod_eq_emod_of_nonneg (b := n2) ha
        rw [e] at hq ⊢
        rcases Int.lt_or_le n2 0 with hb | hb
        · exact rbin_rem_pn _ _ _ _ ha a1 a2 hb b1 b2 hq.1 hq.2
        · exact rbin_rem_pp _ _ _ _ ha a1 a2 (by omega) b1 b2 hq.1 hq.2
  · exact ⟨_, _, _, _, bin_rem_kind _ _ _ _ _ _ (not_nums _ _ hk), rbin_rem_kind _ _ _ _ _ _ (not_nums _ _ hk)⟩
omit v1 v2 in
theorem op_ne {op : ByteArray} {l : List UInt8} (h : ¬ op = ⟨l.toArray⟩) : (op.toList == l) = false := by
  rw [beq_eq_false_iff_ne]
  intro e
  exact h (tl_inj (by rw [e, tl_data]))
theorem both_any (op : ByteArray) : Both op k1 n1 s1 k2 n2 s2 := by
  by_cases h1 : op = ⟨[111, 114].toArray⟩
  · subst h1; exact ⟨_, _, _, _, bin_or _ _ _ _ _ _, rbin_or _ _ _ _ _ _ v1 v2⟩
  by_cases h2 : op = ⟨[97, 110, 100].toArray⟩
  · subst h2; exact ⟨_, _, _, _, bin_and _ _ _ _ _ _, rbin_and _ _ _ _ _ _ v1 v2⟩
  by_cases h3 : op = ⟨[61, 61].toArray⟩
  · subst h3; exact ⟨_, _, _, _, bin_eq _ _ _ _ _ _, rbin_eq _ _ _ _ _ _⟩
  by_cases h4 : op = ⟨[33, 61].toArray⟩
  · subst h4; exact ⟨_, _, _, _, bin_ne _ _ _ _ _ _, rbin_ne _ _ _ _ _ _⟩
  by_cases h5 : op = ⟨[60].toArray⟩
  · subst h5; exact both_lt _ _ _ _ _ _ v1 v2
  by_cases h6 : op = ⟨[60, 61].toArray⟩
  · subst h6; exact both_le _ _ _ _ _ _ v1 v2
  by_cases h7 : op = ⟨[62].toArray⟩
  · subst h7; exact both_gt _ _ _ _ _ _ v1 v2
  by_cases h8 : op = ⟨[62, 61].toArray⟩
  · subst h8; exact both_ge _ _ _ _ _ _ v1 v2
  by_cases h9 : op = ⟨[43].toArray⟩
  · subst h9; exact both_plus _ _ _ _ _ _ v1 v2
  by_cases h10 : op = ⟨[45].toArray⟩
  · subst h10; exact both_minus _ _ _ _ _ _ v1 v2
  by_cases h11 : op = ⟨[42].toArray⟩
  · subst h11; exact both_times _ _ _ _ _ _ v1 v2
  by_cases h12 : op = ⟨[47].toArray⟩
  · subst h12; exact both_quo _ _ _ _ _ _ v1 v2
  by_cases h13 : op = ⟨[37].toArray⟩
  · subst h13; exact both_rem _ _ _ _ _ _ v1 v2
  have g1 := op_ne h1
  have g2 := op_ne h2
  have g3 := op_ne h3
  have g4 := op_ne h4
  have g5 := op_ne h5
  have g6 := op_ne h6
  have g7 := op_ne h7
  have g8 := op_ne h8
  have g9 := op_ne h9
  have g10 := op_ne h10
  have g11 := op_ne h11
  have g12 := op_ne h12
  have g13 := op_ne h13
  refine ⟨_, _, _, _, bin_other op _ _ _ _ _ _ g1 g2 g3 g4 g5 g6 g7 g8 g9 g10 g11 g12 g13, rbin_other op _ _ _ _ _ _ ?_ ?_ g1 g2 g3 g4⟩
  · unfold inL ops4
    simp only [List.any_cons, List.any_nil, tl_data ⟨#[60]⟩, tl_data ⟨#[60, 61]⟩, tl_data ⟨#[62]⟩, tl_data ⟨#[62, 61]⟩]
    rw [g5, g6, g7, g8]; rfl
  · unfold inL ops5
    simp only [List.any_cons, List.any_nil, tl_data ⟨#[43]⟩, tl_data ⟨#[45]⟩, tl_data ⟨#[42]⟩, tl_data ⟨#[47]⟩, tl_data ⟨#[37]⟩]
    rw [g9, g10, g11, g12, g13]; rfl
end
end Go.Proofs.Ytnpgeklpkmkjeaa
