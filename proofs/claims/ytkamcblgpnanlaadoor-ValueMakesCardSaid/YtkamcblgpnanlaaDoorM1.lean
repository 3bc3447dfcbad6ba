/- The number that a numeral writes. -/
import Derived.Test.YtkamcblgpnanlaaDoorR4
import Derived.Test.YtkamcblgpnanlaaDoorN5
namespace Go.Proofs.YtkamcblgpnanlaaDoor
open Go Go.RowKit
set_option linter.unusedSimpArgs false
set_option linter.unusedVariables false
set_option maxRecDepth 100000
set_option maxHeartbeats 4000000
theorem dig_nat {k : Nat} (h : k < 10) : (UInt8.ofNat (48 + k)).toNat = 48 + k := by
  rw [UInt8.toNat_ofNat']; omega
theorem dec_first : ∀ u : Nat, ∃ d r, Lib.decDigits u = d :: r ∧ 48 ≤ d.toNat ∧ d.toNat ≤ 57 ∧ (0 < u → d ≠ 48) ∧ r.length ≤ u := by
  intro u
  induction u using Nat.strongRecOn with
  | ind u ih =>
    by_cases h : u < 10
    · rw [Lib.decDigits, dif_pos h]
      refine ⟨_, [], rfl, by rw [dig_nat h]; omega, by rw [dig_nat h]; omega, fun h0 e => ?_, by simp⟩
      have := congrArg UInt8.toNat e
      rw [dig_nat h] at this
      simp at this
      omega
    · rw [Lib.decDigits, dif_neg h]
      obtain ⟨d, r, e, h1, h2, h3, h4⟩ := ih (u / 10) (by omega)
      rw [e]
      exact ⟨d, r ++ [UInt8.ofNat (48 + u % 10)], rfl, h1, h2, fun _ => h3 (by omega), by simp; omega⟩
theorem dec_go (most : Int) : ∀ (u : Nat) (r : List UInt8), (u : Int) ≤ most → numGo most (Lib.decDigits u ++ r) 0 = numGo most r u := by
  intro u
  induction u using Nat.strongRecOn with
  | ind u ih =>
    intro r hu
    by_cases h : u < 10
    · rw [Lib.decDigits, dif_pos h]
      show numGo most (UInt8.ofNat (48 + u) :: r) 0 = _
      rw [numGo, dig_nat h, if_pos (by omega)]
      congr 1
      omega
    · rw [Lib.decDigits, dif_neg h, List.append_assoc, ih (u / 10) (by omega) _ (by omega)]
      show numGo most (UInt8.ofNat (48 + u % 10) :: r) _ = _
      rw [numGo, dig_nat (by omega), if_pos (by omega)]
      congr 1
      omega
theorem num_dec (most : Int) (u : Nat) (hu : (u : Int) ≤ most) : num (Lib.decDigits u) most = some (u : Int) := by
  unfold num
  obtain ⟨d, r, e, h1, h2, h3, h4⟩ := dec_first u
  rw [if_neg]
  · have := dec_go most u [] hu
    rw [List.append_nil] at this
    rw [this]; rfl
  · rintro (q | ⟨q1, q2⟩)
    · rw [e] at q; cases q
    · by_cases hu : u < 10
      · rw [Lib.decDigits, dif_pos hu] at q1; simp at q1
      · rw [e] at q2
        simp at q2
        exact h3 (by omega) q2
theorem dec_len (u : Nat) : (Lib.decDigits u).length ≤ u + 1 := by
  obtain ⟨d, r, e, h1, h2, h3, h4⟩ := dec_first u
  rw [e]; simp; omega
theorem cut_call (s : List UInt8) (H : Heap) : VCall Tryd.prog 188 [strV s, strV [45]] H (fun x K => x = .tp [strV (Lib.trimPrefix s [45]), booV (Lib.hasPrefix s [45])] ∧ K = H) :=
  VCall.ofBelow (vals := [.string ⟨s.toArray⟩, .string ⟨#[45]⟩]) (y := .tuple #[.string ⟨(Lib.trimPrefix s [45]).toArray⟩, .bool (Lib.hasPrefix s [45])]) fun w ht => (Tryd.strings_CutPrefix ⟨s.toArray⟩ ⟨#[45]⟩ w).mono fun e w' ⟨he, hw⟩ => ⟨he, hw ▸ Below.refl _ _⟩
theorem numO_call {H : Heap} {b n : Nat} {c : Option Nat} {vs : List VV} {l : List UInt8} (hg : H.get b = some (.cells true vs)) (hv : vs = l.map bV) (hn : n = l.length) (hl : l.length ≤ 4611686018427387904) : VCall Tryd.prog 189 [.sl b 0 n c 1, iV 2147483648] H (fun x K => x = numV (num l 2147483648) ∧ K = H) := by
  subst hv hn
  refine VCall.viewed (args' := [roB l, iV 2147483648]) (Q := fun v K => v = numV (num l 2147483648)) (.cons ?_ (.cons (View.of (nameless_sc _)) .nil)) ((num_call l 2147483648 _ (by omega) (by omega) hl).mono fun x K e => e.1) (fun v K e => by subst e; exact Frx.tp (.cons (Frx.of (exact_sc _)) (.cons (Frx.of (exact_sc _)) .nil)))
  have := View.sl (H := H) (b := b) (o := 0) (n := l.length) (z := 1) (c := c) hg (by simp) (nameless_map nameless_bV l)
  rw [List.drop_zero, Nat.mul_one, List.take_of_length_le (by simp)] at this
  unfold roB
  exact this
theorem number_call (n : Int) (H : Heap) (h0 : -2147483648 ≤ n) (h1 : n ≤ 2147483648) : VCall Tryd.prog 141 [strV (Lib.itoa n)] H (fun x K => x = .tp [vV 1 n [], iV 0] ∧ K = H) := by
  refine VCall.pure (by simp [nameless_sc, strV]) (nr _ _ _ _) ?_
  by_cases hn : n < 0
  · have e : Lib.itoa n = 45 :: Lib.decDigits n.natAbs := by rw [Lib.itoa, if_pos hn]
    have hc := cut_call (Lib.itoa n)
    have hp1 : Lib.trimPrefix (Lib.itoa n) [45] = Lib.decDigits n.natAbs := by rw [e]; rfl
    have hp2 : Lib.hasPrefix (Lib.itoa n) [45] = true := by rw [e]; rfl
    rw [hp1, hp2] at hc
    have hnum := num_dec 2147483648 n.natAbs (by omega)
    have hlen := dec_len n.natAbs
    obtain ⟨kk, hkk⟩ : ∃ kk : Int, kk = ((n.natAbs : Nat) : Int) := ⟨_, rfl⟩
    have hkn : n = 0 - kk := by omega
    rw [← hkk] at hnum
    generalize Lib.decDigits n.natAbs = ds at hc hnum hlen e
    have hsz := str_size ds
    have hno : ∀ {H : Heap} {b m : Nat} {c : Option Nat} {vs : List VV}, H.get b = some (.cells true vs) → vs = ds.map bV → m = ds.length → VCall Tryd.prog 189 [.sl b 0 m c 1, iV 2147483648] H (fun x K => x = .tp [iV kk, booV true] ∧ K = H) := fun {H b m c vs} h1 h2 h3 => by
      have := numO_call (l := ds) (c := c) h1 h2 h3 (by omega)
      rw [hnum] at this
      exact this
    have hof : ∀ H, VCall Tryd.prog 34 [iV (0 - kk)] H (fun x K => x = .tp [vV 1 n [], iV 0] ∧ K = H) := fun H => by
      have := of_in n H h0 h1
      rw [hkn] at this ⊢
      exact this
    refine VCall.go Tryd.func141 rfl ?_
    repeat' (first | (with_reducible refine And.intro ?_ ?_) | ((with_reducible intro hc); (try simp only [leZ_eq, ltZ_eq, eqZ_eq, str_size, str_list, str_nil, List.toList_toArray, decide_eq_true_eq, decide_eq_false_iff_not, beq_iff_eq, bne_iff_ne, beq_eq_false_iff_ne, bne_eq_false_iff_eq, ne_eq, Bool.not_eq_true', Bool.not_eq_false', Bool.not_true, Bool.not_false, gt_iff_lt, ge_iff_le, Int.not_lt, Int.not_le, Decidable.not_not] at hc); (first | (exact absurd rfl hc) | (exact absurd trivial hc) | (exfalso; omega) | skip)) | ((conv => whnf); first | (with_reducible refine And.intro ?_ ?_) | (refine ifB_intro (fun hc => ?_) (fun hc => ?_) <;> (try simp only [leZ_eq, ltZ_eq, eqZ_eq, str_size, str_list, str_nil, List.toList_toArray, decide_eq_true_eq, decide_eq_false_iff_not, beq_iff_eq, bne_iff_ne, beq_eq_false_iff_ne, bne_eq_false_iff_eq, ne_eq, Bool.not_eq_true', Bool.not_eq_false', Bool.not_true, Bool.not_false, gt_iff_lt, ge_iff_le, Int.not_lt, Int.not_le, Decidable.not_not] at hc) <;> (first | (exact absurd rfl hc) | (exact absurd trivial hc) | (exfalso; omega) | skip)) | (refine GAr.i64 (by omega) ?_) | ((refine GAr.i64w ?_); intro kw hk1 hk2) | (refine GAr.u8s (by omega) ?_) | (refine GAr.u8 ?_) | (refine GAr.u64s (by omega) ?_) | (refine GAr.u32s (by omega) ?_) | (refine GAr.u64 ?_) | (refine GAr.u32 ?_) | (refine GQuo.i64 (by omega) ?_) | (refine GRem.pos (by omega) ?_) | (with_reducible refine stopA ?_) | (refine Exists.intro _ (And.intro (by rfl) ?_)) | (refine GOp.via (by rfl) ?_) | (with_reducible refine stopO ?_) | (with_reducible refine stopE ?_) | (with_reducible refine stopD ?_) | (with_reducible refine stopW ?_) | (with_reducible refine stopG ?_) | (first | (refine GCall.mk ((hc _).mono ?_); rintro _ _ ⟨rfl, rfl⟩) | (refine GCall.mk ((hof _).mono ?_); rintro _ _ ⟨rfl, rfl⟩)) | (with_reducible refine stopC ?_) | (with_reducible refine stopR ?_)))
    refine GCall'.mk ((hno (b := 1) rfl rfl rfl).mono ?_)
    rintro _ _ ⟨rfl, rfl⟩
    repeat' (first | (with_reducible refine And.intro ?_ ?_) | ((with_reducible intro hc); (try simp only [leZ_eq, ltZ_eq, eqZ_eq, str_size, str_list, str_nil, List.toList_toArray, decide_eq_true_eq, decide_eq_false_iff_not, beq_iff_eq, bne_iff_ne, beq_eq_false_iff_ne, bne_eq_false_iff_eq, ne_eq, Bool.not_eq_true', Bool.not_eq_false', Bool.not_true, Bool.not_false, gt_iff_lt, ge_iff_le, Int.not_lt, Int.not_le, Decidable.not_not] at hc); (first | (exact absurd rfl hc) | (exact absurd trivial hc) | (exfalso; omega) | skip)) | ((conv => whnf); first | (with_reducible refine And.intro ?_ ?_) | (refine ifB_intro (fun hc => ?_) (fun hc => ?_) <;> (try simp only [leZ_eq, ltZ_eq, eqZ_eq, str_size, str_list, str_nil, List.toList_toArray, decide_eq_true_eq, decide_eq_false_iff_not, beq_iff_eq, bne_iff_ne, beq_eq_false_iff_ne, bne_eq_false_iff_eq, ne_eq, Bool.not_eq_true', Bool.not_eq_false', Bool.not_true, Bool.not_false, gt_iff_lt, ge_iff_le, Int.not_lt, Int.not_le, Decidable.not_not] at hc) <;> (first | (exact absurd rfl hc) | (exact absurd trivial hc) | (exfalso; omega) | skip)) | (refine GAr.i64 (by omega) ?_) | ((refine GAr.i64w ?_); intro kw hk1 hk2) | (refine GAr.u8s (by omega) ?_) | (refine GAr.u8 ?_) | (refine GAr.u64s (by omega) ?_) | (refine GAr.u32s (by omega) ?_) | (refine GAr.u64 ?_) | (refine GAr.u32 ?_) | (refine GQuo.i64 (by omega) ?_) | (refine GRem.pos (by omega) ?_) | (with_reducible refine stopA ?_) | (refine Exists.intro _ (And.intro (by rfl) ?_)) | (refine GOp.via (by rfl) ?_) | (with_reducible refine stopO ?_) | (with_reducible refine stopE ?_) | (with_reducible refine stopD ?_) | (with_reducible refine stopW ?_) | (with_reducible refine stopG ?_) | (first | (refine GCall.mk ((hc _).mono ?_); rintro _ _ ⟨rfl, rfl⟩) | (refine GCall.mk ((hof _).mono ?_); rintro _ _ ⟨rfl, rfl⟩)) | (with_reducible refine stopC ?_) | (with_reducible refine stopR ?_)))
    all_goals (first | exact Done'.mk rfl | trace_state)
  · have e : Lib.itoa n = Lib.decDigits n.toNat := by rw [Lib.itoa, if_neg hn]
    have hc := cut_call (Lib.itoa n)
    have hp1 : Lib.trimPrefix (Lib.itoa n) [45] = Lib.decDigits n.toNat := by
      obtain ⟨d, r, q, q1, _⟩ := dec_first n.toNat
      rw [e, q]
      have : d ≠ 45 := fun h => by subst h; simp at q1
      simp [Lib.trimPrefix, Lib.hasPrefix, List.isPrefixOf, Ne.symm this]
    have hp2 : Lib.hasPrefix (Lib.itoa n) [45] = false := by
      obtain ⟨d, r, q, q1, _⟩ := dec_first n.toNat
      rw [e, q]
      have : d ≠ 45 := fun h => by subst h; simp at q1
      simp [Lib.hasPrefix, List.isPrefixOf, Ne.symm this]
    rw [hp1, hp2] at hc
    have hnum := num_dec 2147483648 n.toNat (by omega)
    have hlen := dec_len n.toNat
    obtain ⟨kk, hkk⟩ : ∃ kk : Int, kk = ((n.toNat : Nat) : Int) := ⟨_, rfl⟩
    have hkn : n = kk := by omega
    rw [← hkk] at hnum
    generalize Lib.decDigits n.toNat = ds at hc hnum hlen e
    have hsz := str_size ds
    have hno : ∀ {H : Heap} {b m : Nat} {c : Option Nat} {vs : List VV}, H.get b = some (.cells true vs) → vs = ds.map bV → m = ds.length → VCall Tryd.prog 189 [.sl b 0 m c 1, iV 2147483648] H (fun x K => x = .tp [iV kk, booV true] ∧ K = H) := fun {H b m c vs} h1 h2 h3 => by
      have := numO_call (l := ds) (c := c) h1 h2 h3 (by omega)
      rw [hnum] at this
      exact this
    have hof : ∀ H, VCall Tryd.prog 34 [iV kk] H (fun x K => x = .tp [vV 1 n [], iV 0] ∧ K = H) := fun H => by
      have := of_in n H h0 h1
      rw [hkn] at this ⊢
      exact this
    refine VCall.go Tryd.func141 rfl ?_
    repeat' (first | (with_reducible refine And.intro ?_ ?_) | ((with_reducible intro hc); (try simp only [leZ_eq, ltZ_eq, eqZ_eq, str_size, str_list, str_nil, List.toList_toArray, decide_eq_true_eq, decide_eq_false_iff_not, beq_iff_eq, bne_iff_ne, beq_eq_false_iff_ne, bne_eq_false_iff_eq, ne_eq, Bool.not_eq_true', Bool.not_eq_false', Bool.not_true, Bool.not_false, gt_iff_lt, ge_iff_le, Int.not_lt, Int.not_le, Decidable.not_not] at hc); (first | (exact absurd rfl hc) | (exact absurd trivial hc) | (exfalso; omega) | skip)) | ((conv => whnf); first | (with_reducible refine And.intro ?_ ?_) | (refine ifB_intro (fun hc => ?_) (fun hc => ?_) <;> (try simp only [leZ_eq, ltZ_eq, eqZ_eq, str_size, str_list, str_nil, List.toList_toArray, decide_eq_true_eq, decide_eq_false_iff_not, beq_iff_eq, bne_iff_ne, beq_eq_false_iff_ne, bne_eq_false_iff_eq, ne_eq, Bool.not_eq_true', Bool.not_eq_false', Bool.not_true, Bool.not_false, gt_iff_lt, ge_iff_le, Int.not_lt, Int.not_le, Decidable.not_not] at hc) <;> (first | (exact absurd rfl hc) | (exact absurd trivial hc) | (exfalso; omega) | skip)) | (refine GAr.i64 (by omega) ?_) | ((refine GAr.i64w ?_); intro kw hk1 hk2) | (refine GAr.u8s (by omega) ?_) | (refine GAr.u8 ?_) | (refine GAr.u64s (by omega) ?_) | (refine GAr.u32s (by omega) ?_) | (refine GAr.u64 ?_) | (refine GAr.u32 ?_) | (refine GQuo.i64 (by omega) ?_) | (refine GRem.pos (by omega) ?_) | (with_reducible refine stopA ?_) | (refine Exists.intro _ (And.intro (by rfl) ?_)) | (refine GOp.via (by rfl) ?_) | (with_reducible refine stopO ?_) | (with_reducible refine stopE ?_) | (with_reducible refine stopD ?_) | (with_reducible refine stopW ?_) | (with_reducible refine stopG ?_) | (first | (refine GCall.mk ((hc _).mono ?_); rintro _ _ ⟨rfl, rfl⟩) | (refine GCall.mk ((hof _).mono ?_); rintro _ _ ⟨rfl, rfl⟩)) | (with_reducible refine stopC ?_) | (with_reducible refine stopR ?_)))
    refine GCall'.mk ((hno (b := 1) rfl rfl rfl).mono ?_)
    rintro _ _ ⟨rfl, rfl⟩
    repeat' (first | (with_reducible refine And.intro ?_ ?_) | ((with_reducible intro hc); (try simp only [leZ_eq, ltZ_eq, eqZ_eq, str_size, str_list, str_nil, List.toList_toArray, decide_eq_true_eq, decide_eq_false_iff_not, beq_iff_eq, bne_iff_ne, beq_eq_false_iff_ne, bne_eq_false_iff_eq, ne_eq, Bool.not_eq_true', Bool.not_eq_false', Bool.not_true, Bool.not_false, gt_iff_lt, ge_iff_le, Int.not_lt, Int.not_le, Decidable.not_not] at hc); (first | (exact absurd rfl hc) | (exact absurd trivial hc) | (exfalso; omega) | skip)) | ((conv => whnf); first | (with_reducible refine And.intro ?_ ?_) | (refine ifB_intro (fun hc => ?_) (fun hc => ?_) <;> (try simp only [leZ_eq, ltZ_eq, eqZ_eq, str_size, str_list, str_nil, List.toList_toArray, decide_eq_true_eq, decide_eq_false_iff_not, beq_iff_eq, bne_iff_ne, beq_eq_false_iff_ne, bne_eq_false_iff_eq, ne_eq, Bool.not_eq_true', Bool.not_eq_false', Bool.not_true, Bool.not_false, gt_iff_lt, ge_iff_le, Int.not_lt, Int.not_le, Decidable.not_not] at hc) <;> (first | (exact absurd rfl hc) | (exact absurd trivial hc) | (exfalso; omega) | skip)) | (refine GAr.i64 (by omega) ?_) | ((refine GAr.i64w ?_); intro kw hk1 hk2) | (refine GAr.u8s (by omega) ?_) | (refine GAr.u8 ?_) | (refine GAr.u64s (by omega) ?_) | (refine GAr.u32s (by omega) ?_) | (refine GAr.u64 ?_) | (refine GAr.u32 ?_) | (refine GQuo.i64 (by omega) ?_) | (refine GRem.pos (by omega) ?_) | (with_reducible refine stopA ?_) | (refine Exists.intro _ (And.intro (by rfl) ?_)) | (refine GOp.via (by rfl) ?_) | (with_reducible refine stopO ?_) | (with_reducible refine stopE ?_) | (with_reducible refine stopD ?_) | (with_reducible refine stopW ?_) | (with_reducible refine stopG ?_) | (first | (refine GCall.mk ((hc _).mono ?_); rintro _ _ ⟨rfl, rfl⟩) | (refine GCall.mk ((hof _).mono ?_); rintro _ _ ⟨rfl, rfl⟩)) | (with_reducible refine stopC ?_) | (with_reducible refine stopR ?_)))
    all_goals (first | exact Done'.mk rfl | trace_state)
end Go.Proofs.YtkamcblgpnanlaaDoor
