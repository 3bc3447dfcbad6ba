/- Going up, of the document; the statements HostUps and HostBack, walked. -/
import Derived.Test.YtnfmoclmfddajaaHa
namespace Go.Proofs.Ytnfmoclmfddajaa
open Go Go.RowKit
set_option linter.unusedSimpArgs false
set_option linter.unusedVariables false
set_option maxRecDepth 100000
set_option maxHeartbeats 4000000
theorem cat_sub (b : UInt8) (ss : List (List UInt8)) (i k : Nat) : (catB b ((ss.drop i).take k)).length ≤ (catB b ss).length := by
  have h1 := cat_len b (ss.drop i) k
  have h2 : catB b ss = catB b (ss.take i) ++ catB b (ss.drop i) := by
    unfold catB
    rw [← List.flatten_append, ← List.map_append, List.take_append_drop]
  rw [h2, List.length_append]
  omega
theorem join_sub (l : List UInt8) (i k : Nat) : (joinD (((splitB l 46).drop i).take k)).length ≤ l.length := by
  have h := cat_sub 46 (splitB l 46) i k
  rw [cat_split] at h
  unfold joinD
  simp only [List.length_drop, List.length_cons] at h ⊢
  omega
theorem join_snoc {xs : List (List UInt8)} (h : 0 < xs.length) (q : List UInt8) : joinD (xs ++ [q]) = joinD xs ++ [46] ++ q := by
  cases xs with
  | nil => simp at h
  | cons a r => simp [joinD, catB]
theorem tails_at : ∀ {ss : List (List UInt8)} {i : Nat}, i < ss.length → (tailsJ ss)[i]? = some (joinD (ss.drop i))
  | [], i, h => by simp at h
  | p :: r, 0, h => rfl
  | p :: r, i + 1, h => by
    simp only [tailsJ, List.getElem?_cons_succ, List.drop_succ_cons]
    exact tails_at (by simpa using h)
theorem tails_next {ss : List (List UInt8)} {i : Nat} (h : i < ss.length) : (tailsJ ss).take (i + 1) = (tailsJ ss).take i ++ [joinD (ss.drop i)] := by
  have := tails_at h
  obtain ⟨hi, e⟩ := List.getElem?_eq_some_iff.1 this
  rw [List.take_succ_eq_append_getElem hi, e]
theorem roS_slice {l : List (List UInt8)} {i j : Nat} (hij : i ≤ j) (hj : j ≤ l.length) : VV.ro (j - i) (((l.map strV).drop (i * 1)).take ((j - i) * 1)) = roS ((l.drop i).take (j - i)) := by
  unfold roS
  simp only [Nat.mul_one, List.map_take, List.map_drop, List.length_take, List.length_drop]
  rw [Nat.min_eq_left (by omega)]
theorem rup_call (l : List UInt8) (H : Heap) (hl : l.length ≤ 100000) : VCall Try.prog 40 [strV l] H (fun x K => x = roS (upsB l) ∧ K = H) := by
  refine VCall.frozen (Q := fun v K => Frz K v (roS (upsB l))) (by simp [nameless_strV]) ?_ (fun v K h => h)
  refine VCall.go Try.func40 rfl ?_
  repeat' (first | (with_reducible refine And.intro ?_ ?_) | ((with_reducible intro hc); (try simp only [str_size, str_list, str_nil, decide_eq_true_eq, decide_eq_false_iff_not, beq_iff_eq, bne_iff_ne, beq_eq_false_iff_ne, bne_eq_false_iff_eq, ne_eq, Bool.not_eq_true', Bool.not_eq_false', Bool.not_true, Bool.not_false, gt_iff_lt, ge_iff_le, Int.not_lt, Int.not_le, Decidable.not_not] at hc); (first | (exact absurd rfl hc) | (exact absurd trivial hc) | (exfalso; omega) | skip)) | ((conv => whnf); first | (with_reducible refine And.intro ?_ ?_) | (refine ifB_intro (fun hc => ?_) (fun hc => ?_) <;> (try simp only [str_size, str_list, str_nil, decide_eq_true_eq, decide_eq_false_iff_not, beq_iff_eq, bne_iff_ne, beq_eq_false_iff_ne, bne_eq_false_iff_eq, ne_eq, Bool.not_eq_true', Bool.not_eq_false', Bool.not_true, Bool.not_false, gt_iff_lt, ge_iff_le, Int.not_lt, Int.not_le, Decidable.not_not] at hc) <;> (first | (exact absurd rfl hc) | (exact absurd trivial hc) | (exfalso; omega) | skip)) | (refine GAr.i64 (by omega) ?_) | ((refine GAr.i64w ?_); intro kw hk1 hk2) | (refine GAr.u8s (by omega) ?_) | (refine GAr.u8 ?_) | (refine GAr.u64s (by omega) ?_) | (refine GAr.u32s (by omega) ?_) | (refine GAr.u64 ?_) | (refine GAr.u32 ?_) | (refine GQuo.i64 (by omega) ?_) | (refine GRem.pos (by omega) ?_) | (with_reducible refine stopA ?_) | (refine Exists.intro _ (And.intro (by rfl) ?_)) | (refine GOp.via (by rfl) ?_) | (with_reducible refine stopO ?_) | (with_reducible refine stopE ?_) | (with_reducible refine stopD ?_) | (with_reducible refine stopW ?_) | (first | (refine GCall.mk ((rparse_call l _ hl).mono ?_); rintro _ _ ⟨rfl, rfl⟩) | (refine GCall.mk ((raddr_call l _ hl).mono ?_); rintro _ _ ⟨rfl, rfl⟩) | (refine GCall.mk ((rsplit_call l 46 _ hl).mono ?_); rintro _ _ ⟨rfl, rfl⟩)) | (with_reducible refine stopC ?_) | (with_reducible refine stopR ?_)))
  · refine Done'.mk ?_
    unfold upsB hCanon
    rw [decide_eq_false hc]
    exact Frz.nil0
  · refine Done'.mk ?_
    have : (hTxt l == l) = false := by simpa using hc
    unfold upsB hCanon
    rw [this, Bool.and_false]
    exact Frz.nil0
  · have hcan : hCanon l = true := by
      unfold hCanon
      rename_i q1 q2
      rw [decide_eq_true q1, q2]
      simp
    refine Done'.mk ?_
    unfold upsB
    rw [if_pos hcan, if_pos hc]
    have := Frz.sl (K := ⟨[(0, .cells true [strV l])], 1⟩) (b := 0) (o := 0) (n := 1) (z := 1) (c := some 1) (vs := [strV l]) rfl (by simp) (by simp [nameless_strV])
    exact this
  have hu : upsB l = tailsJ (splitB l 46) := by
    rename_i q1 q2
    have hcan : hCanon l = true := by
      unfold hCanon
      rw [decide_eq_true q1, q2]
      simp
    unfold upsB
    rw [if_pos hcan, hc]
    rfl
  have hsl := splitB_len l 46
  have hjs := join_sub l
  rw [hu]
  generalize splitB l 46 = ss at *
  refine GWP'.mk (GWP.loopA (α := List (List UInt8) × Nat) [5, 7, 8, 10, 32, 33, 34, 35, 36, 37, 38, 39, 40, 41, 42, 43, 44, 45, 46, 47, 48, 49, 50, 51, 52, 53, 54, 55, 56, 57] []
    (fun a => a.2 ≤ ss.length ∧ a.1 = (tailsJ ss).take a.2 ∧ a.1.length = a.2) (fun a => [(5, outE a.1), (32, iV a.2)]) (fun a => outO 1 a.1) 2 (fun a => ss.length - a.2) ([], 0) ⟨Nat.zero_le _, rfl, rfl⟩
    ⟨rfl, rfl, (by repeat' (first | exact trivial | refine And.intro rfl ?_)), [], _, rfl, ⟨⟨_, rfl, .slL (by decide)⟩, ⟨_, rfl, .sc⟩, trivial⟩, .nil⟩ ?_)
  rintro ⟨done, i⟩ ⟨h1, h2, h3⟩
  simp only at h1 h2 h3 ⊢
  by_cases hil : i < ss.length
  · obtain ⟨q, hq⟩ := list_at hil
    have hq0 : joinD ((ss.drop i).take 1) = q := by
      obtain ⟨hi, e⟩ := List.getElem?_eq_some_iff.1 hq
      rw [List.drop_eq_getElem_cons hi, e, List.take_succ_cons, List.take_zero, join_one]
    have hsl2 : VV.ro (ss.length - ((i : Int) + 1).toNat) (((ss.map strV).drop (((i : Int) + 1).toNat * 1)).take ((ss.length - ((i : Int) + 1).toNat) * 1)) = roS (ss.drop (i + 1)) := by
      have : ((i : Int) + 1).toNat = i + 1 := by omega
      rw [roS_slice (by omega) (by omega), this, List.take_of_length_le (by simp)]
    have hvs := (VV.ro.inj hsl2).2
    have hrow : ∀ (j : Nat) (q : List UInt8), (ss.drop (i + 1))[j]? = some q → (((ss.map strV).drop (((i : Int) + 1).toNat * 1)).take ((ss.length - ((i : Int) + 1).toNat) * 1))[j]? = some (strV q) := fun j q h => by
      rw [hvs, List.getElem?_map, h]; rfl
    have hnx : ∀ (j : Nat) (q : List UInt8), (ss.drop (i + 1))[j]? = some q → joinD ((ss.drop i).take (j + 1 + 1)) = joinD ((ss.drop i).take (j + 1)) ++ [46] ++ q := fun j q h => by
      have h' : (ss.drop i)[j + 1]? = some q := by
        rw [List.getElem?_drop] at h ⊢
        rw [show i + (j + 1) = i + 1 + j by omega]
        exact h
      obtain ⟨hi, e⟩ := List.getElem?_eq_some_iff.1 h'
      rw [List.take_succ_eq_append_getElem hi, e]
      exact join_snoc (by simp; omega) q
    have hend : joinD ((ss.drop i).take (ss.length - (i + 1) + 1)) = joinD (ss.drop i) := by rw [List.take_of_length_le (by simp; omega)]
    have htn := tails_next hil
    rw [← h2] at htn
    cases done with
    | nil =>
      repeat' (first | (with_reducible refine And.intro ?_ ?_) | ((with_reducible intro hc); (try simp only [str_size, str_list, str_nil, decide_eq_true_eq, decide_eq_false_iff_not, beq_iff_eq, bne_iff_ne, beq_eq_false_iff_ne, bne_eq_false_iff_eq, ne_eq, Bool.not_eq_true', Bool.not_eq_false', Bool.not_true, Bool.not_false, gt_iff_lt, ge_iff_le, Int.not_lt, Int.not_le, Decidable.not_not] at hc); (first | (exact absurd rfl hc) | (exact absurd trivial hc) | (exfalso; omega) | skip)) | ((conv => whnf); first | (with_reducible refine And.intro ?_ ?_) | (refine ifB_intro (fun hc => ?_) (fun hc => ?_) <;> (try simp only [str_size, str_list, str_nil, decide_eq_true_eq, decide_eq_false_iff_not, beq_iff_eq, bne_iff_ne, beq_eq_false_iff_ne, bne_eq_false_iff_eq, ne_eq, Bool.not_eq_true', Bool.not_eq_false', Bool.not_true, Bool.not_false, gt_iff_lt, ge_iff_le, Int.not_lt, Int.not_le, Decidable.not_not] at hc) <;> (first | (exact absurd rfl hc) | (exact absurd trivial hc) | (exfalso; omega) | skip)) | (refine GAr.i64 (by omega) ?_) | ((refine GAr.i64w ?_); intro kw hk1 hk2) | (refine GAr.u8s (by omega) ?_) | (refine GAr.u8 ?_) | (refine GAr.u64s (by omega) ?_) | (refine GAr.u32s (by omega) ?_) | (refine GAr.u64 ?_) | (refine GAr.u32 ?_) | (refine GQuo.i64 (by omega) ?_) | (refine GRem.pos (by omega) ?_) | (with_reducible refine stopA ?_) | (refine Exists.intro _ (And.intro (by (first | exact vat_of vagg_str (maps_at hq) (mul1 rfl rfl) | rfl)) ?_)) | (refine GOp.via (by rfl) ?_) | (with_reducible refine stopO ?_) | (with_reducible refine stopE ?_) | (with_reducible refine stopD ?_) | (with_reducible refine stopW ?_) | (with_reducible refine stopC ?_) | (with_reducible refine stopR ?_)))
      all_goals (first | omega | skip)
      refine GWP'.mk (GWP.loopA (α := Nat) [8, 10, 44, 45, 46, 47, 48, 49, 50, 51, 52] [] (fun j => j ≤ ss.length - (i + 1)) (fun j => [(8, strV (joinD ((ss.drop i).take (j + 1)))), (44, iV j)]) (fun _ => []) 2 (fun j => ss.length - (i + 1) - j) 0 (Nat.zero_le _) ⟨rfl, rfl, (by repeat' (first | exact trivial | refine And.intro rfl ?_)), [], _, rfl, ⟨⟨_, rfl, RenV.eq (congrArg strV hq0.symm) (nameless_strV _)⟩, ⟨_, rfl, .sc⟩, trivial⟩, .nil⟩ ?_)
      rintro j hj
      by_cases hjl : j < ss.length - (i + 1)
      · obtain ⟨q2, hq2⟩ := list_at (l := ss.drop (i + 1)) (i := j) (by rw [List.length_drop]; exact hjl)
        (have hn2 := hnx j q2 hq2); (have hln2 := hjs i (j + 1 + 1)); rw [hn2] at hln2; (have hz1 : (joinD ((ss.drop i).take (j + 1))).length + ([46] : List UInt8).length ≤ 4611686018427387904 := by { simp only [List.length_append, List.length_cons, List.length_nil] at hln2 ⊢; omega }); (have hz2 : (joinD ((ss.drop i).take (j + 1)) ++ [46]).length + q2.length ≤ 4611686018427387904 := by { simp only [List.length_append, List.length_cons, List.length_nil] at hln2 ⊢; omega }); (have hstr : VV.sc (.string (((⟨(joinD ((ss.drop i).take (j + 1))).toArray⟩ : ByteArray) ++ ⟨([46] : List UInt8).toArray⟩) ++ ⟨q2.toArray⟩)) = strV (joinD ((ss.drop i).take (j + 1 + 1))) := by { rw [hn2, app_str, app_str]; rfl }); (repeat' (first | (with_reducible refine And.intro ?_ ?_) | ((with_reducible intro hc); (try simp only [str_size, str_list, str_nil, decide_eq_true_eq, decide_eq_false_iff_not, beq_iff_eq, bne_iff_ne, beq_eq_false_iff_ne, bne_eq_false_iff_eq, ne_eq, Bool.not_eq_true', Bool.not_eq_false', Bool.not_true, Bool.not_false, gt_iff_lt, ge_iff_le, Int.not_lt, Int.not_le, Decidable.not_not] at hc); (first | (exact absurd rfl hc) | (exact absurd trivial hc) | (exfalso; omega) | skip)) | ((conv => whnf); first | (with_reducible refine And.intro ?_ ?_) | (refine ifB_intro (fun hc => ?_) (fun hc => ?_) <;> (try simp only [str_size, str_list, str_nil, decide_eq_true_eq, decide_eq_false_iff_not, beq_iff_eq, bne_iff_ne, beq_eq_false_iff_ne, bne_eq_false_iff_eq, ne_eq, Bool.not_eq_true', Bool.not_eq_false', Bool.not_true, Bool.not_false, gt_iff_lt, ge_iff_le, Int.not_lt, Int.not_le, Decidable.not_not] at hc) <;> (first | (exact absurd rfl hc) | (exact absurd trivial hc) | (exfalso; omega) | skip)) | (refine GAr.i64 (by omega) ?_) | ((refine GAr.i64w ?_); intro kw hk1 hk2) | (refine GAr.u8s (by omega) ?_) | (refine GAr.u8 ?_) | (refine GAr.u64s (by omega) ?_) | (refine GAr.u32s (by omega) ?_) | (refine GAr.u64 ?_) | (refine GAr.u32 ?_) | (refine GQuo.i64 (by omega) ?_) | (refine GRem.pos (by omega) ?_) | (with_reducible refine stopA ?_) | (refine Exists.intro _ (And.intro (by (first | exact vat_of vagg_str (hrow j q2 hq2) (mul1 rfl rfl) | rfl)) ?_)) | (refine GOp.via (by rfl) ?_) | (with_reducible refine stopO ?_) | (with_reducible refine stopE ?_) | (with_reducible refine stopD ?_) | (with_reducible refine stopW ?_) | (with_reducible refine stopC ?_) | (with_reducible refine stopR ?_)))); (all_goals (first | omega | exact szk hz1 | exact szk hz2 | (rw [app_str]; exact szk hz2) | skip))
        refine Done'.mk ⟨j + 1, by omega, by omega, rfl, rfl, (by repeat' (first | exact trivial | refine And.intro rfl ?_)), [], _, rfl, ⟨⟨_, rfl, RenV.eq hstr (nameless_strV _)⟩, ⟨_, rfl, RenV.eq rfl (nameless_sc _)⟩, trivial⟩, .nil⟩
      · have hje : j = ss.length - (i + 1) := by omega
        subst hje
        rw [hend]
        repeat' (first | (with_reducible refine And.intro ?_ ?_) | ((with_reducible intro hc); (try simp only [str_size, str_list, str_nil, decide_eq_true_eq, decide_eq_false_iff_not, beq_iff_eq, bne_iff_ne, beq_eq_false_iff_ne, bne_eq_false_iff_eq, ne_eq, Bool.not_eq_true', Bool.not_eq_false', Bool.not_true, Bool.not_false, gt_iff_lt, ge_iff_le, Int.not_lt, Int.not_le, Decidable.not_not] at hc); (first | (exact absurd rfl hc) | (exact absurd trivial hc) | (exfalso; omega) | skip)) | ((conv => whnf); first | (with_reducible refine And.intro ?_ ?_) | (refine ifB_intro (fun hc => ?_) (fun hc => ?_) <;> (try simp only [str_size, str_list, str_nil, decide_eq_true_eq, decide_eq_false_iff_not, beq_iff_eq, bne_iff_ne, beq_eq_false_iff_ne, bne_eq_false_iff_eq, ne_eq, Bool.not_eq_true', Bool.not_eq_false', Bool.not_true, Bool.not_false, gt_iff_lt, ge_iff_le, Int.not_lt, Int.not_le, Decidable.not_not] at hc) <;> (first | (exact absurd rfl hc) | (exact absurd trivial hc) | (exfalso; omega) | skip)) | (refine GAr.i64 (by omega) ?_) | ((refine GAr.i64w ?_); intro kw hk1 hk2) | (refine GAr.u8s (by omega) ?_) | (refine GAr.u8 ?_) | (refine GAr.u64s (by omega) ?_) | (refine GAr.u32s (by omega) ?_) | (refine GAr.u64 ?_) | (refine GAr.u32 ?_) | (refine GQuo.i64 (by omega) ?_) | (refine GRem.pos (by omega) ?_) | (with_reducible refine stopA ?_) | (refine Exists.intro _ (And.intro (by rfl) ?_)) | (refine GOp.via (by rfl) ?_) | (with_reducible refine stopO ?_) | (with_reducible refine stopE ?_) | (with_reducible refine stopD ?_) | (with_reducible refine stopW ?_) | (with_reducible refine stopC ?_) | (with_reducible refine stopR ?_)))
        all_goals (first | omega | skip)
        refine Done'.mk ⟨([joinD (ss.drop i)], i + 1), ⟨by simp only; omega, htn.symm, by simp only [List.length_cons, List.length_nil] at h3 ⊢; omega⟩, by simp only; omega, rfl, rfl, (by repeat' (first | exact trivial | refine And.intro rfl ?_)), [(3, 1)], _, rfl, ⟨⟨_, rfl, .sl (List.Mem.head _)⟩, ⟨_, rfl, RenV.eq rfl (nameless_sc _)⟩, trivial⟩, .cons rfl rfl (.cells (.cons .sc .nil)) .nil⟩
    | cons d0 dr =>
      simp only [List.length_cons] at h3
      repeat' (first | (with_reducible refine And.intro ?_ ?_) | ((with_reducible intro hc); (try simp only [str_size, str_list, str_nil, decide_eq_true_eq, decide_eq_false_iff_not, beq_iff_eq, bne_iff_ne, beq_eq_false_iff_ne, bne_eq_false_iff_eq, ne_eq, Bool.not_eq_true', Bool.not_eq_false', Bool.not_true, Bool.not_false, gt_iff_lt, ge_iff_le, Int.not_lt, Int.not_le, Decidable.not_not] at hc); (first | (exact absurd rfl hc) | (exact absurd trivial hc) | (exfalso; omega) | skip)) | ((conv => whnf); first | (with_reducible refine And.intro ?_ ?_) | (refine ifB_intro (fun hc => ?_) (fun hc => ?_) <;> (try simp only [str_size, str_list, str_nil, decide_eq_true_eq, decide_eq_false_iff_not, beq_iff_eq, bne_iff_ne, beq_eq_false_iff_ne, bne_eq_false_iff_eq, ne_eq, Bool.not_eq_true', Bool.not_eq_false', Bool.not_true, Bool.not_false, gt_iff_lt, ge_iff_le, Int.not_lt, Int.not_le, Decidable.not_not] at hc) <;> (first | (exact absurd rfl hc) | (exact absurd trivial hc) | (exfalso; omega) | skip)) | (refine GAr.i64 (by omega) ?_) | ((refine GAr.i64w ?_); intro kw hk1 hk2) | (refine GAr.u8s (by omega) ?_) | (refine GAr.u8 ?_) | (refine GAr.u64s (by omega) ?_) | (refine GAr.u32s (by omega) ?_) | (refine GAr.u64 ?_) | (refine GAr.u32 ?_) | (refine GQuo.i64 (by omega) ?_) | (refine GRem.pos (by omega) ?_) | (with_reducible refine stopA ?_) | (refine Exists.intro _ (And.intro (by (first | exact vat_of vagg_str (maps_at hq) (mul1 rfl rfl) | rfl)) ?_)) | (refine GOp.via (by rfl) ?_) | (with_reducible refine stopO ?_) | (with_reducible refine stopE ?_) | (with_reducible refine stopD ?_) | (with_reducible refine stopW ?_) | (with_reducible refine stopC ?_) | (with_reducible refine stopR ?_)))
      all_goals (first | omega | skip)
      refine GWP'.mk (GWP.loopA (α := Nat) [8, 10, 44, 45, 46, 47, 48, 49, 50, 51, 52] [] (fun j => j ≤ ss.length - (i + 1)) (fun j => [(8, strV (joinD ((ss.drop i).take (j + 1)))), (44, iV j)]) (fun _ => []) 2 (fun j => ss.length - (i + 1) - j) 0 (Nat.zero_le _) ⟨rfl, rfl, (by repeat' (first | exact trivial | refine And.intro rfl ?_)), [], _, rfl, ⟨⟨_, rfl, RenV.eq (congrArg strV hq0.symm) (nameless_strV _)⟩, ⟨_, rfl, .sc⟩, trivial⟩, .nil⟩ ?_)
      rintro j hj
      by_cases hjl : j < ss.length - (i + 1)
      · obtain ⟨q2, hq2⟩ := list_at (l := ss.drop (i + 1)) (i := j) (by rw [List.length_drop]; exact hjl)
        (have hn2 := hnx j q2 hq2); (have hln2 := hjs i (j + 1 + 1)); rw [hn2] at hln2; (have hz1 : (joinD ((ss.drop i).take (j + 1))).length + ([46] : List UInt8).length ≤ 4611686018427387904 := by { simp only [List.length_append, List.length_cons, List.length_nil] at hln2 ⊢; omega }); (have hz2 : (joinD ((ss.drop i).take (j + 1)) ++ [46]).length + q2.length ≤ 4611686018427387904 := by { simp only [List.length_append, List.length_cons, List.length_nil] at hln2 ⊢; omega }); (have hstr : VV.sc (.string (((⟨(joinD ((ss.drop i).take (j + 1))).toArray⟩ : ByteArray) ++ ⟨([46] : List UInt8).toArray⟩) ++ ⟨q2.toArray⟩)) = strV (joinD ((ss.drop i).take (j + 1 + 1))) := by { rw [hn2, app_str, app_str]; rfl }); (repeat' (first | (with_reducible refine And.intro ?_ ?_) | ((with_reducible intro hc); (try simp only [str_size, str_list, str_nil, decide_eq_true_eq, decide_eq_false_iff_not, beq_iff_eq, bne_iff_ne, beq_eq_false_iff_ne, bne_eq_false_iff_eq, ne_eq, Bool.not_eq_true', Bool.not_eq_false', Bool.not_true, Bool.not_false, gt_iff_lt, ge_iff_le, Int.not_lt, Int.not_le, Decidable.not_not] at hc); (first | (exact absurd rfl hc) | (exact absurd trivial hc) | (exfalso; omega) | skip)) | ((conv => whnf); first | (with_reducible refine And.intro ?_ ?_) | (refine ifB_intro (fun hc => ?_) (fun hc => ?_) <;> (try simp only [str_size, str_list, str_nil, decide_eq_true_eq, decide_eq_false_iff_not, beq_iff_eq, bne_iff_ne, beq_eq_false_iff_ne, bne_eq_false_iff_eq, ne_eq, Bool.not_eq_true', Bool.not_eq_false', Bool.not_true, Bool.not_false, gt_iff_lt, ge_iff_le, Int.not_lt, Int.not_le, Decidable.not_not] at hc) <;> (first | (exact absurd rfl hc) | (exact absurd trivial hc) | (exfalso; omega) | skip)) | (refine GAr.i64 (by omega) ?_) | ((refine GAr.i64w ?_); intro kw hk1 hk2) | (refine GAr.u8s (by omega) ?_) | (refine GAr.u8 ?_) | (refine GAr.u64s (by omega) ?_) | (refine GAr.u32s (by omega) ?_) | (refine GAr.u64 ?_) | (refine GAr.u32 ?_) | (refine GQuo.i64 (by omega) ?_) | (refine GRem.pos (by omega) ?_) | (with_reducible refine stopA ?_) | (refine Exists.intro _ (And.intro (by (first | exact vat_of vagg_str (hrow j q2 hq2) (mul1 rfl rfl) | rfl)) ?_)) | (refine GOp.via (by rfl) ?_) | (with_reducible refine stopO ?_) | (with_reducible refine stopE ?_) | (with_reducible refine stopD ?_) | (with_reducible refine stopW ?_) | (with_reducible refine stopC ?_) | (with_reducible refine stopR ?_)))); (all_goals (first | omega | exact szk hz1 | exact szk hz2 | (rw [app_str]; exact szk hz2) | skip))
        refine Done'.mk ⟨j + 1, by omega, by omega, rfl, rfl, (by repeat' (first | exact trivial | refine And.intro rfl ?_)), [], _, rfl, ⟨⟨_, rfl, RenV.eq hstr (nameless_strV _)⟩, ⟨_, rfl, RenV.eq rfl (nameless_sc _)⟩, trivial⟩, .nil⟩
      · have hje : j = ss.length - (i + 1) := by omega
        subst hje
        rw [hend]
        generalize joinD (ss.drop i) = x at *
        repeat' (first | (with_reducible refine And.intro ?_ ?_) | ((with_reducible intro hc); (try simp only [str_size, str_list, str_nil, decide_eq_true_eq, decide_eq_false_iff_not, beq_iff_eq, bne_iff_ne, beq_eq_false_iff_ne, bne_eq_false_iff_eq, ne_eq, Bool.not_eq_true', Bool.not_eq_false', Bool.not_true, Bool.not_false, gt_iff_lt, ge_iff_le, Int.not_lt, Int.not_le, Decidable.not_not] at hc); (first | (exact absurd rfl hc) | (exact absurd trivial hc) | (exfalso; omega) | skip)) | ((conv => whnf); first | (with_reducible refine And.intro ?_ ?_) | (refine ifB_intro (fun hc => ?_) (fun hc => ?_) <;> (try simp only [str_size, str_list, str_nil, decide_eq_true_eq, decide_eq_false_iff_not, beq_iff_eq, bne_iff_ne, beq_eq_false_iff_ne, bne_eq_false_iff_eq, ne_eq, Bool.not_eq_true', Bool.not_eq_false', Bool.not_true, Bool.not_false, gt_iff_lt, ge_iff_le, Int.not_lt, Int.not_le, Decidable.not_not] at hc) <;> (first | (exact absurd rfl hc) | (exact absurd trivial hc) | (exfalso; omega) | skip)) | (refine GAr.i64 (by omega) ?_) | ((refine GAr.i64w ?_); intro kw hk1 hk2) | (refine GAr.u8s (by omega) ?_) | (refine GAr.u8 ?_) | (refine GAr.u64s (by omega) ?_) | (refine GAr.u32s (by omega) ?_) | (refine GAr.u64 ?_) | (refine GAr.u32 ?_) | (refine GQuo.i64 (by omega) ?_) | (refine GRem.pos (by omega) ?_) | (with_reducible refine stopA ?_) | (refine Exists.intro _ (And.intro (by rfl) ?_)) | (refine GOp.via (by rfl) ?_) | (with_reducible refine stopO ?_) | (with_reducible refine stopE ?_) | (with_reducible refine stopD ?_) | (with_reducible refine stopW ?_) | (with_reducible refine stopC ?_) | (with_reducible refine stopR ?_)))
        all_goals (first | omega | skip)
        apply GOp'.via
        case h => refine vop_append rfl (vapp_grow sty_s (d := .slice 9) Try.underlying37 (by intro k h; cases h) (b := 1) (n := dr.length + 1) (m := 1) (l := [strV x]) (vs := strV d0 :: dr.map strV) (by rfl) (by rfl) (by omega) (by rfl) (by simp) (by omega) (by omega))
        repeat' (first | (with_reducible refine And.intro ?_ ?_) | ((with_reducible intro hc); (try simp only [str_size, str_list, str_nil, decide_eq_true_eq, decide_eq_false_iff_not, beq_iff_eq, bne_iff_ne, beq_eq_false_iff_ne, bne_eq_false_iff_eq, ne_eq, Bool.not_eq_true', Bool.not_eq_false', Bool.not_true, Bool.not_false, gt_iff_lt, ge_iff_le, Int.not_lt, Int.not_le, Decidable.not_not] at hc); (first | (exact absurd rfl hc) | (exact absurd trivial hc) | (exfalso; omega) | skip)) | ((conv => whnf); first | (with_reducible refine And.intro ?_ ?_) | (refine ifB_intro (fun hc => ?_) (fun hc => ?_) <;> (try simp only [str_size, str_list, str_nil, decide_eq_true_eq, decide_eq_false_iff_not, beq_iff_eq, bne_iff_ne, beq_eq_false_iff_ne, bne_eq_false_iff_eq, ne_eq, Bool.not_eq_true', Bool.not_eq_false', Bool.not_true, Bool.not_false, gt_iff_lt, ge_iff_le, Int.not_lt, Int.not_le, Decidable.not_not] at hc) <;> (first | (exact absurd rfl hc) | (exact absurd trivial hc) | (exfalso; omega) | skip)) | (refine GAr.i64 (by omega) ?_) | ((refine GAr.i64w ?_); intro kw hk1 hk2) | (refine GAr.u8s (by omega) ?_) | (refine GAr.u8 ?_) | (refine GAr.u64s (by omega) ?_) | (refine GAr.u32s (by omega) ?_) | (refine GAr.u64 ?_) | (refine GAr.u32 ?_) | (refine GQuo.i64 (by omega) ?_) | (refine GRem.pos (by omega) ?_) | (with_reducible refine stopA ?_) | (refine Exists.intro _ (And.intro (by rfl) ?_)) | (refine GOp.via (by rfl) ?_) | (with_reducible refine stopO ?_) | (with_reducible refine stopE ?_) | (with_reducible refine stopD ?_) | (with_reducible refine stopW ?_) | (with_reducible refine stopC ?_) | (with_reducible refine stopR ?_)))
        all_goals (first | omega | skip)
        refine Done'.mk ⟨(d0 :: (dr ++ [x]), i + 1), ⟨by simp only; omega, htn.symm, by simp; omega⟩, by simp only; omega, rfl, rfl, (by repeat' (first | exact trivial | refine And.intro rfl ?_)), [(3, 1)], _, rfl, ⟨⟨_, rfl, .slE (List.Mem.head _) (by simp)⟩, ⟨_, rfl, RenV.eq rfl (nameless_sc _)⟩, trivial⟩, .cons rfl rfl (.cells (RenL.eq (grow_eq d0 dr x) (strs_nameless _ _))) .nil⟩
  · have hie : i = ss.length := by omega
    subst hie
    have h2 : done = tailsJ ss := by rw [h2, List.take_of_length_le (by rw [tails_len]; exact Nat.le_refl _)]
    rw [← h2]
    cases done with
    | nil =>
      repeat' (first | (with_reducible refine And.intro ?_ ?_) | ((with_reducible intro hc); (try simp only [str_size, str_list, str_nil, decide_eq_true_eq, decide_eq_false_iff_not, beq_iff_eq, bne_iff_ne, beq_eq_false_iff_ne, bne_eq_false_iff_eq, ne_eq, Bool.not_eq_true', Bool.not_eq_false', Bool.not_true, Bool.not_false, gt_iff_lt, ge_iff_le, Int.not_lt, Int.not_le, Decidable.not_not] at hc); (first | (exact absurd rfl hc) | (exact absurd trivial hc) | (exfalso; omega) | skip)) | ((conv => whnf); first | (with_reducible refine And.intro ?_ ?_) | (refine ifB_intro (fun hc => ?_) (fun hc => ?_) <;> (try simp only [str_size, str_list, str_nil, decide_eq_true_eq, decide_eq_false_iff_not, beq_iff_eq, bne_iff_ne, beq_eq_false_iff_ne, bne_eq_false_iff_eq, ne_eq, Bool.not_eq_true', Bool.not_eq_false', Bool.not_true, Bool.not_false, gt_iff_lt, ge_iff_le, Int.not_lt, Int.not_le, Decidable.not_not] at hc) <;> (first | (exact absurd rfl hc) | (exact absurd trivial hc) | (exfalso; omega) | skip)) | (refine GAr.i64 (by omega) ?_) | ((refine GAr.i64w ?_); intro kw hk1 hk2) | (refine GAr.u8s (by omega) ?_) | (refine GAr.u8 ?_) | (refine GAr.u64s (by omega) ?_) | (refine GAr.u32s (by omega) ?_) | (refine GAr.u64 ?_) | (refine GAr.u32 ?_) | (refine GQuo.i64 (by omega) ?_) | (refine GRem.pos (by omega) ?_) | (with_reducible refine stopA ?_) | (refine Exists.intro _ (And.intro (by rfl) ?_)) | (refine GOp.via (by rfl) ?_) | (with_reducible refine stopO ?_) | (with_reducible refine stopE ?_) | (with_reducible refine stopD ?_) | (with_reducible refine stopW ?_) | (with_reducible refine stopC ?_) | (with_reducible refine stopR ?_)))
      all_goals (first | omega | skip)
      have := Frz.sl (K := ⟨[(0, .cells true [])], 2⟩) (b := 0) (o := 0) (n := 0) (z := 1) (c := some 0) (vs := []) rfl (by simp) (by simp)
      exact Done'.mk this
    | cons d0 dr =>
      repeat' (first | (with_reducible refine And.intro ?_ ?_) | ((with_reducible intro hc); (try simp only [str_size, str_list, str_nil, decide_eq_true_eq, decide_eq_false_iff_not, beq_iff_eq, bne_iff_ne, beq_eq_false_iff_ne, bne_eq_false_iff_eq, ne_eq, Bool.not_eq_true', Bool.not_eq_false', Bool.not_true, Bool.not_false, gt_iff_lt, ge_iff_le, Int.not_lt, Int.not_le, Decidable.not_not] at hc); (first | (exact absurd rfl hc) | (exact absurd trivial hc) | (exfalso; omega) | skip)) | ((conv => whnf); first | (with_reducible refine And.intro ?_ ?_) | (refine ifB_intro (fun hc => ?_) (fun hc => ?_) <;> (try simp only [str_size, str_list, str_nil, decide_eq_true_eq, decide_eq_false_iff_not, beq_iff_eq, bne_iff_ne, beq_eq_false_iff_ne, bne_eq_false_iff_eq, ne_eq, Bool.not_eq_true', Bool.not_eq_false', Bool.not_true, Bool.not_false, gt_iff_lt, ge_iff_le, Int.not_lt, Int.not_le, Decidable.not_not] at hc) <;> (first | (exact absurd rfl hc) | (exact absurd trivial hc) | (exfalso; omega) | skip)) | (refine GAr.i64 (by omega) ?_) | ((refine GAr.i64w ?_); intro kw hk1 hk2) | (refine GAr.u8s (by omega) ?_) | (refine GAr.u8 ?_) | (refine GAr.u64s (by omega) ?_) | (refine GAr.u32s (by omega) ?_) | (refine GAr.u64 ?_) | (refine GAr.u32 ?_) | (refine GQuo.i64 (by omega) ?_) | (refine GRem.pos (by omega) ?_) | (with_reducible refine stopA ?_) | (refine Exists.intro _ (And.intro (by rfl) ?_)) | (refine GOp.via (by rfl) ?_) | (with_reducible refine stopO ?_) | (with_reducible refine stopE ?_) | (with_reducible refine stopD ?_) | (with_reducible refine stopW ?_) | (with_reducible refine stopC ?_) | (with_reducible refine stopR ?_)))
      all_goals (first | omega | skip)
      exact Done'.mk (frz_out (ss := d0 :: dr) rfl rfl rfl)
end Go.Proofs.Ytnfmoclmfddajaa
