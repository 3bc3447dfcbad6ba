/- Number, of the program and of the document. -/
import Derived.Test.YtkamcblgpnanlaaDoorVd
namespace Go.Proofs.YtkamcblgpnanlaaDoor
open Go Go.RowKit
set_option linter.unusedSimpArgs false
set_option linter.unusedVariables false
set_option maxRecDepth 100000
set_option maxHeartbeats 4000000

/-- The number that digits write. -/
def numGo (most : Int) : List UInt8 → Int → Option Int
  | [], n => some n
  | b :: r, n => if (48 ≤ b.toNat ∧ b.toNat ≤ 57) ∧ n * 10 + ((b.toNat : Int) - 48) ≤ most then numGo most r (n * 10 + ((b.toNat : Int) - 48)) else none
def num (l : List UInt8) (most : Int) : Option Int := if l = [] ∨ (1 < l.length ∧ l[0]? = some 48) then none else numGo most l 0
def numV (x : Option Int) : VV := .tp [iV (x.getD 0), booV x.isSome]
theorem numGo_at {most : Int} {l : List UInt8} {i : Nat} {b : UInt8} (hb : l[i]? = some b) (n : Int) : numGo most (l.drop i) n = if (48 ≤ b.toNat ∧ b.toNat ≤ 57) ∧ n * 10 + ((b.toNat : Int) - 48) ≤ most then numGo most (l.drop (i + 1)) (n * 10 + ((b.toNat : Int) - 48)) else none := by
  obtain ⟨h, e⟩ := List.getElem?_eq_some_iff.1 hb
  rw [List.drop_eq_getElem_cons h, e]
  rfl
theorem num_call (l : List UInt8) (most : Int) (H : Heap) (h0 : 0 ≤ most) (h1 : most < 9223372036854775808) (hl : l.length ≤ 4611686018427387904) : VCall Tryd.prog 189 [roB l, iV most] H (fun x K => x = numV (num l most) ∧ K = H) := by
  have hd : most.tdiv 10 = most / 10 := Int.tdiv_eq_ediv_of_nonneg h0
  have hd2 : IntKind.i64.wrap (most.tdiv 10) = most / 10 := by rw [hd]; exact wrap_i64_id (by omega) (by omega)
  refine VCall.go Tryd.func189 rfl ?_
  refine joins (P := Tryd.prog) (r := none) (c := ?c) (Q := ?Q) (fun s => num l most = numGo most l 0 ∧ Kept [(0, roB l), (1, iV most), (6, iV 0), (23, roB l), (24, iV l.length), (25, iV 0)] 56 H [] s) ?loop ?main
  case main =>
    intro LOOP
    conv => whnf
    refine ifB_intro (fun hc => ?_) (fun hc => ?_)
    · conv => whnf
      refine ⟨?_, rfl⟩
      simp [eqZ_eq, leZ_eq, ltZ_eq] at hc
      subst hc
      rfl
    · conv => whnf
      simp [eqZ_eq, leZ_eq, ltZ_eq] at hc
      refine ifB_intro (fun hc => ?_) (fun hc => ?_)
      · conv => whnf
        simp [eqZ_eq, leZ_eq, ltZ_eq] at hc
        refine ⟨⟨by omega, by omega⟩, ?_⟩
        conv => whnf
        have hl0 : ∃ b, l[0]? = some b := ⟨l[0], by simp⟩
        obtain ⟨b, hb⟩ := hl0
        refine ⟨_, vat_of vagg_u8 (map_at hb) rfl, ?_⟩
        conv => whnf
        refine ifB_intro (fun hc => ?_) (fun hc => ?_)
        · conv => whnf
          refine ⟨?_, rfl⟩
          simp [eqZ_eq, leZ_eq, ltZ_eq] at hc
          have : b = 48 := UInt8.toNat_inj.1 (by simp; omega)
          subst this
          rename_i h1 _
          have : num l most = none := by unfold num; rw [if_pos (.inr ⟨by omega, hb⟩)]
          rw [this]
          rfl
        · conv => whnf
          (refine LOOP _ ?_); refine ⟨?_, rfl, ⟨rfl, rfl, rfl, rfl, rfl, rfl, trivial⟩, rfl, rfl⟩
          unfold num
          rw [if_neg]
          rintro (e | ⟨_, e⟩)
          · subst e; simp at hb
          · rw [hb] at e; injection e with e; subst e; simp [eqZ_eq, leZ_eq, ltZ_eq] at hc
      · conv => whnf
        (refine LOOP _ ?_); refine ⟨?_, rfl, ⟨rfl, rfl, rfl, rfl, rfl, rfl, trivial⟩, rfl, rfl⟩
        unfold num
        rw [if_neg]
        simp [eqZ_eq, leZ_eq, ltZ_eq] at hc
        rintro (e | ⟨e, _⟩)
        · subst e; simp at *
        · omega
  case loop =>
    rintro s ⟨hnum, hs⟩
    rw [hnum]
    clear hnum
    refine GWP.loopK (α := Nat × Int) (fun a => a.1 ≤ l.length ∧ 0 ≤ a.2 ∧ a.2 ≤ most ∧ numGo most (l.drop a.1) a.2 = numGo most l 0)
      (fun a => [(0, roB l), (1, iV most), (6, iV a.2), (23, roB l), (24, iV l.length), (25, iV a.1)]) (fun _ => H) [] 56 (fun a => l.length - a.1) (0, 0) ⟨Nat.zero_le _, by omega, h0, rfl⟩ hs ?_
    rintro ⟨i, n⟩ ⟨hi, hn0, hn1, hgo⟩
    simp only at hi hn0 hn1 hgo ⊢
    by_cases hil : i < l.length
    · have hb : ∃ b, l[i]? = some b := ⟨l[i], by simp⟩
      obtain ⟨b, hb⟩ := hb
      have hlt := u8_lt b
      rw [numGo_at hb] at hgo
      repeat' (first | (with_reducible refine And.intro ?_ ?_) | ((with_reducible intro hc); (try simp only [leZ_eq, ltZ_eq, eqZ_eq, str_size, str_list, str_nil, List.toList_toArray, decide_eq_true_eq, decide_eq_false_iff_not, beq_iff_eq, bne_iff_ne, beq_eq_false_iff_ne, bne_eq_false_iff_eq, ne_eq, Bool.not_eq_true', Bool.not_eq_false', Bool.not_true, Bool.not_false, gt_iff_lt, ge_iff_le, Int.not_lt, Int.not_le, Decidable.not_not] at hc); (first | (exact absurd rfl hc) | (exact absurd trivial hc) | (exfalso; omega) | skip)) | ((conv => whnf); first | (with_reducible refine And.intro ?_ ?_) | (refine ifB_intro (fun hc => ?_) (fun hc => ?_) <;> (try simp only [leZ_eq, ltZ_eq, eqZ_eq, str_size, str_list, str_nil, List.toList_toArray, decide_eq_true_eq, decide_eq_false_iff_not, beq_iff_eq, bne_iff_ne, beq_eq_false_iff_ne, bne_eq_false_iff_eq, ne_eq, Bool.not_eq_true', Bool.not_eq_false', Bool.not_true, Bool.not_false, gt_iff_lt, ge_iff_le, Int.not_lt, Int.not_le, Decidable.not_not] at hc) <;> (first | (exact absurd rfl hc) | (exact absurd trivial hc) | (exfalso; omega) | skip)) | (refine GAr.i64 (by omega) ?_) | ((refine GAr.i64w ?_); intro kw hk1 hk2) | (refine GAr.u8s (by omega) ?_) | (refine GAr.u8 ?_) | (refine GAr.u64s (by omega) ?_) | (refine GAr.u32s (by omega) ?_) | (refine GAr.u64 ?_) | (refine GAr.u32 ?_) | (refine GQuo.i64 (by omega) ?_) | (refine GRem.pos (by omega) ?_) | (with_reducible refine stopA ?_) | (refine Exists.intro _ (And.intro (by first | exact vat_of vagg_u8 (map_at hb) (mul1 rfl rfl) | rfl) ?_)) | (refine GOp.via (by rfl) ?_) | (with_reducible refine stopO ?_) | (with_reducible refine stopE ?_) | (with_reducible refine stopD ?_) | (with_reducible refine stopW ?_) | (with_reducible refine stopG ?_) | (with_reducible refine stopC ?_) | (with_reducible refine stopR ?_)))
      all_goals (first | omega | refine Done'.mk ?_)
      all_goals (first | (refine ⟨?_, rfl⟩; rw [← hgo, if_neg (by omega)]; rfl) | skip)
      rw [if_pos (by omega)] at hgo
      refine ⟨(i + 1, n * 10 + ((b.toNat : Int) - 48)), ⟨by omega, by omega, by omega, hgo⟩, by omega, rfl, ⟨rfl, rfl, ?_, rfl, rfl, ?_, trivial⟩, rfl, rfl⟩
      · refine iv_eq ?_
        omega
      · refine iv_eq ?_
        push_cast
        omega
    · repeat' (first | (with_reducible refine And.intro ?_ ?_) | ((with_reducible intro hc); (try simp only [leZ_eq, ltZ_eq, eqZ_eq, str_size, str_list, str_nil, List.toList_toArray, decide_eq_true_eq, decide_eq_false_iff_not, beq_iff_eq, bne_iff_ne, beq_eq_false_iff_ne, bne_eq_false_iff_eq, ne_eq, Bool.not_eq_true', Bool.not_eq_false', Bool.not_true, Bool.not_false, gt_iff_lt, ge_iff_le, Int.not_lt, Int.not_le, Decidable.not_not] at hc); (first | (exact absurd rfl hc) | (exact absurd trivial hc) | (exfalso; omega) | skip)) | ((conv => whnf); first | (with_reducible refine And.intro ?_ ?_) | (refine ifB_intro (fun hc => ?_) (fun hc => ?_) <;> (try simp only [leZ_eq, ltZ_eq, eqZ_eq, str_size, str_list, str_nil, List.toList_toArray, decide_eq_true_eq, decide_eq_false_iff_not, beq_iff_eq, bne_iff_ne, beq_eq_false_iff_ne, bne_eq_false_iff_eq, ne_eq, Bool.not_eq_true', Bool.not_eq_false', Bool.not_true, Bool.not_false, gt_iff_lt, ge_iff_le, Int.not_lt, Int.not_le, Decidable.not_not] at hc) <;> (first | (exact absurd rfl hc) | (exact absurd trivial hc) | (exfalso; omega) | skip)) | (refine GAr.i64 (by omega) ?_) | ((refine GAr.i64w ?_); intro kw hk1 hk2) | (refine GAr.u8s (by omega) ?_) | (refine GAr.u8 ?_) | (refine GAr.u64s (by omega) ?_) | (refine GAr.u32s (by omega) ?_) | (refine GAr.u64 ?_) | (refine GAr.u32 ?_) | (refine GQuo.i64 (by omega) ?_) | (refine GRem.pos (by omega) ?_) | (with_reducible refine stopA ?_) | (refine Exists.intro _ (And.intro (by rfl) ?_)) | (refine GOp.via (by rfl) ?_) | (with_reducible refine stopO ?_) | (with_reducible refine stopE ?_) | (with_reducible refine stopD ?_) | (with_reducible refine stopW ?_) | (with_reducible refine stopG ?_) | (with_reducible refine stopC ?_) | (with_reducible refine stopR ?_)))
      refine Done'.mk ⟨?_, rfl⟩
      have : i = l.length := by omega
      subst this
      rw [List.drop_length] at hgo
      rw [← hgo]
      rfl
end Go.Proofs.YtkamcblgpnanlaaDoor
