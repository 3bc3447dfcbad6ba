/- The statement CutBack, walked. -/
import Derived.Test.YtnfmoclmfddajaaD4
namespace Go.Proofs.Ytnfmoclmfddajaa
open Go Go.RowKit
set_option linter.unusedSimpArgs false
set_option linter.unusedVariables false
set_option maxRecDepth 100000
set_option maxHeartbeats 4000000
/-- Pieces, each with b ahead of it. -/
def catB (b : UInt8) (ss : List (List UInt8)) : List UInt8 := (ss.map fun p => b :: p).flatten
theorem catGo (b : UInt8) : ∀ (l cur : List UInt8), catB b (splitGo b l cur) = b :: (cur ++ l)
  | [], cur => by simp [splitGo, catB]
  | c :: r, cur => by
    unfold splitGo
    split
    · rename_i e
      have ih := catGo b r []
      unfold catB at ih ⊢
      rw [List.map_cons, List.flatten_cons, ih, e]
      simp
    · rw [catGo b r (cur ++ [c])]
      simp
theorem cat_split (l : List UInt8) (b : UInt8) : catB b (splitB l b) = b :: l := by
  have := catGo b l []
  simpa [splitB] using this
theorem cat_next {b : UInt8} {ss : List (List UInt8)} {i : Nat} {p : List UInt8} (h : ss[i]? = some p) : catB b (ss.take (i + 1)) = catB b (ss.take i) ++ b :: p := by
  obtain ⟨hi, e⟩ := List.getElem?_eq_some_iff.1 h
  rw [List.take_succ_eq_append_getElem hi, e]
  simp [catB]
theorem cat_len (b : UInt8) (ss : List (List UInt8)) (i : Nat) : (catB b (ss.take i)).length ≤ (catB b ss).length := by
  have : catB b ss = catB b (ss.take i) ++ catB b (ss.drop i) := by
    unfold catB
    rw [← List.flatten_append, ← List.map_append, List.take_append_drop]
  rw [this]
  simp
theorem lowB_low (b : UInt8) : lowB (lowB b) = lowB b := by
  have h1 := lowB_nat b
  have h2 := lowB_nat (lowB b)
  have hb := u8_lt b
  apply UInt8.toNat_inj.1
  split at h1
  · rw [if_neg (by omega)] at h2; omega
  · rw [if_neg (by omega)] at h2; omega
theorem low_low (l : List UInt8) : (l.map lowB).map lowB = l.map lowB := by
  rw [List.map_map]
  congr 1
  funext b
  exact lowB_low b
theorem szk {a c : List UInt8} (h : a.length + c.length ≤ 4611686018427387904) : ¬ (((⟨a.toArray⟩ : ByteArray).size + (⟨c.toArray⟩ : ByteArray).size : Nat) : Int) > IntKind.i64.max := by
  have h2 : (IntKind.i64.max : Int) = 9223372036854775807 := by decide
  rw [h2, str_size, str_size]
  omega
theorem cutBack_walk (l : List UInt8) (b : UInt8) : VCall Try.prog 7 [roB l, bV b] ⟨[], 0⟩ (fun x _ => x = .sc (.bool true)) := by
  refine VCall.go Try.func7 rfl ?_
  repeat' (first | (with_reducible refine And.intro ?_ ?_) | ((with_reducible intro hc); (try simp only [str_size, str_list, str_nil, decide_eq_true_eq, decide_eq_false_iff_not, beq_iff_eq, bne_iff_ne, beq_eq_false_iff_ne, bne_eq_false_iff_eq, ne_eq, Bool.not_eq_true', Bool.not_eq_false', Bool.not_true, Bool.not_false, gt_iff_lt, ge_iff_le, Int.not_lt, Int.not_le, Decidable.not_not] at hc); (first | (exact absurd rfl hc) | (exact absurd trivial hc) | (exfalso; omega) | skip)) | ((conv => whnf); first | (with_reducible refine And.intro ?_ ?_) | (refine ifB_intro (fun hc => ?_) (fun hc => ?_) <;> (try simp only [str_size, str_list, str_nil, decide_eq_true_eq, decide_eq_false_iff_not, beq_iff_eq, bne_iff_ne, beq_eq_false_iff_ne, bne_eq_false_iff_eq, ne_eq, Bool.not_eq_true', Bool.not_eq_false', Bool.not_true, Bool.not_false, gt_iff_lt, ge_iff_le, Int.not_lt, Int.not_le, Decidable.not_not] at hc) <;> (first | (exact absurd rfl hc) | (exact absurd trivial hc) | (exfalso; omega) | skip)) | (refine GAr.i64 (by omega) ?_) | ((refine GAr.i64w ?_); intro kw hk1 hk2) | (refine GAr.u8s (by omega) ?_) | (refine GAr.u8 ?_) | (refine GAr.u64s (by omega) ?_) | (refine GAr.u32s (by omega) ?_) | (refine GAr.u64 ?_) | (refine GAr.u32 ?_) | (refine GQuo.i64 (by omega) ?_) | (refine GRem.pos (by omega) ?_) | (with_reducible refine stopA ?_) | (refine Exists.intro _ (And.intro (by rfl) ?_)) | (refine GOp.via (by rfl) ?_) | (with_reducible refine stopO ?_) | (with_reducible refine stopE ?_) | (with_reducible refine stopD ?_) | (with_reducible refine stopW ?_) | (first | (refine GCall.mk ((lives01_call _).mono ?_); rintro _ _ ⟨rfl, rfl⟩) | (refine GCall.mk ((split_call l b _ (by omega)).mono ?_); rintro _ _ ⟨rfl, rfl⟩) | (refine GCall.mk ((counted_call l b _ (by omega)).mono ?_); rintro _ _ ⟨rfl, rfl⟩)) | (with_reducible refine stopC ?_) | (with_reducible refine stopR ?_)))
  all_goals (first | exact Done'.mk rfl | skip)
  have hcat := cat_split l b
  have hsl := splitB_len l b
  generalize splitB l b = ss at *
  refine GWP'.mk (GWP.loopA (α := List UInt8 × Nat) [7, 8, 9, 28, 29, 30, 31, 32, 33, 34, 35, 36, 37, 38, 39, 40, 41, 42, 43] [] (fun a => a.2 ≤ ss.length ∧ (a.2 = 0 → a.1 = []) ∧ (0 < a.2 → b :: a.1 = catB b (ss.take a.2))) (fun a => [(7, strV a.1), (28, iV a.2)]) (fun _ => []) 0 (fun a => ss.length - a.2) ([], 0) ⟨Nat.zero_le _, fun _ => rfl, fun h => absurd h (Nat.lt_irrefl _)⟩ ⟨rfl, rfl, (by repeat' (first | exact trivial | refine And.intro rfl ?_)), [], _, rfl, ⟨⟨_, rfl, .sc⟩, ⟨_, rfl, .sc⟩, trivial⟩, .nil⟩ ?_)
  rintro ⟨out, i⟩ ⟨h1, h2, h3⟩
  simp only at h1 h2 h3 ⊢
  have hcl := cat_len b ss
  rw [hcat] at hcl
  simp only [List.length_cons] at hcl
  by_cases hil : i < ss.length
  · obtain ⟨p, hp⟩ := list_at hil
    have hn := cat_next (b := b) hp
    have hln := hcl (i + 1)
    rw [hn] at hln
    by_cases h0 : i = 0
    · subst h0
      have := h2 rfl
      subst this
      have hz : ([] : List UInt8).length + p.length ≤ 4611686018427387904 := by
        simp only [List.length_append, List.length_cons, List.length_nil] at hln ⊢
        omega
      repeat' (first | (with_reducible refine And.intro ?_ ?_) | ((with_reducible intro hc); (try simp only [str_size, str_list, str_nil, decide_eq_true_eq, decide_eq_false_iff_not, beq_iff_eq, bne_iff_ne, beq_eq_false_iff_ne, bne_eq_false_iff_eq, ne_eq, Bool.not_eq_true', Bool.not_eq_false', Bool.not_true, Bool.not_false, gt_iff_lt, ge_iff_le, Int.not_lt, Int.not_le, Decidable.not_not] at hc); (first | (exact absurd rfl hc) | (exact absurd trivial hc) | (exfalso; omega) | skip)) | ((conv => whnf); first | (with_reducible refine And.intro ?_ ?_) | (refine ifB_intro (fun hc => ?_) (fun hc => ?_) <;> (try simp only [str_size, str_list, str_nil, decide_eq_true_eq, decide_eq_false_iff_not, beq_iff_eq, bne_iff_ne, beq_eq_false_iff_ne, bne_eq_false_iff_eq, ne_eq, Bool.not_eq_true', Bool.not_eq_false', Bool.not_true, Bool.not_false, gt_iff_lt, ge_iff_le, Int.not_lt, Int.not_le, Decidable.not_not] at hc) <;> (first | (exact absurd rfl hc) | (exact absurd trivial hc) | (exfalso; omega) | skip)) | (refine GAr.i64 (by omega) ?_) | ((refine GAr.i64w ?_); intro kw hk1 hk2) | (refine GAr.u8s (by omega) ?_) | (refine GAr.u8 ?_) | (refine GAr.u64s (by omega) ?_) | (refine GAr.u32s (by omega) ?_) | (refine GAr.u64 ?_) | (refine GAr.u32 ?_) | (refine GQuo.i64 (by omega) ?_) | (refine GRem.pos (by omega) ?_) | (with_reducible refine stopA ?_) | (refine Exists.intro _ (And.intro (by first | exact vat_of vagg_str (maps_at hp) (mul1 rfl rfl) | rfl) ?_)) | (refine GOp.via (by rfl) ?_) | (with_reducible refine stopO ?_) | (with_reducible refine stopE ?_) | (with_reducible refine stopD ?_) | (with_reducible refine stopW ?_) | (with_reducible refine stopC ?_) | (with_reducible refine stopR ?_)))
      all_goals (first | omega | exact szk hz | skip)
      refine Done'.mk ⟨(p, 1), ⟨by simp only; omega, by simp, fun _ => ?_⟩, by simp only; omega, rfl, rfl, (by repeat' (first | exact trivial | refine And.intro rfl ?_)), [], _, rfl, ⟨⟨_, rfl, RenV.eq ?_ (nameless_sc _)⟩, ⟨_, rfl, RenV.eq rfl (nameless_sc _)⟩, trivial⟩, .nil⟩
      · simp only
        rw [Nat.zero_add] at hn
        rw [hn]
        rfl
      · exact congrArg (fun x => VV.sc (.string x)) (app_str [] p)
    · have h3 := h3 (by omega)
      rw [← h3] at hn hln
      have hz : out.length + ([b] : List UInt8).length ≤ 4611686018427387904 := by
        simp only [List.length_append, List.length_cons, List.length_nil] at hln ⊢
        omega
      have hz2 : (out ++ [b]).length + p.length ≤ 4611686018427387904 := by
        simp only [List.length_append, List.length_cons, List.length_nil] at hln ⊢
        omega
      repeat' (first | (with_reducible refine And.intro ?_ ?_) | ((with_reducible intro hc); (try simp only [str_size, str_list, str_nil, decide_eq_true_eq, decide_eq_false_iff_not, beq_iff_eq, bne_iff_ne, beq_eq_false_iff_ne, bne_eq_false_iff_eq, ne_eq, Bool.not_eq_true', Bool.not_eq_false', Bool.not_true, Bool.not_false, gt_iff_lt, ge_iff_le, Int.not_lt, Int.not_le, Decidable.not_not] at hc); (first | (exact absurd rfl hc) | (exact absurd trivial hc) | (exfalso; omega) | skip)) | ((conv => whnf); first | (with_reducible refine And.intro ?_ ?_) | (refine ifB_intro (fun hc => ?_) (fun hc => ?_) <;> (try simp only [str_size, str_list, str_nil, decide_eq_true_eq, decide_eq_false_iff_not, beq_iff_eq, bne_iff_ne, beq_eq_false_iff_ne, bne_eq_false_iff_eq, ne_eq, Bool.not_eq_true', Bool.not_eq_false', Bool.not_true, Bool.not_false, gt_iff_lt, ge_iff_le, Int.not_lt, Int.not_le, Decidable.not_not] at hc) <;> (first | (exact absurd rfl hc) | (exact absurd trivial hc) | (exfalso; omega) | skip)) | (refine GAr.i64 (by omega) ?_) | ((refine GAr.i64w ?_); intro kw hk1 hk2) | (refine GAr.u8s (by omega) ?_) | (refine GAr.u8 ?_) | (refine GAr.u64s (by omega) ?_) | (refine GAr.u32s (by omega) ?_) | (refine GAr.u64 ?_) | (refine GAr.u32 ?_) | (refine GQuo.i64 (by omega) ?_) | (refine GRem.pos (by omega) ?_) | (with_reducible refine stopA ?_) | (refine Exists.intro _ (And.intro (by first | exact vat_of vagg_str (maps_at hp) (mul1 rfl rfl) | exact vbytes_map [b] | rfl) ?_)) | (refine GOp.via (by rfl) ?_) | (with_reducible refine stopO ?_) | (with_reducible refine stopE ?_) | (with_reducible refine stopD ?_) | (with_reducible refine stopW ?_) | (with_reducible refine stopC ?_) | (with_reducible refine stopR ?_)))
      all_goals (first | omega | exact szk hz | exact szk hz2 | (rw [app_str]; exact szk hz2) | skip)
      all_goals (first | exact Nat.le_refl 1 | skip)
      refine Done'.mk ⟨(out ++ [b] ++ p, i + 1), ⟨by simp only; omega, fun h => by simp at h, fun _ => ?_⟩, by simp only; omega, rfl, rfl, (by repeat' (first | exact trivial | refine And.intro rfl ?_)), [], _, rfl, ⟨⟨_, rfl, RenV.eq ?_ (nameless_sc _)⟩, ⟨_, rfl, RenV.eq rfl (nameless_sc _)⟩, trivial⟩, .nil⟩
      · simp only
        rw [hn]
        simp
      · exact congrArg (fun x => VV.sc (.string x)) ((congrArg (· ++ (⟨p.toArray⟩ : ByteArray)) (app_str out [b])).trans (app_str (out ++ [b]) p))
  · have hie : i = ss.length := by omega
    subst hie
    have hpos : 0 < ss.length := by
      cases ss with
      | nil => simp [catB] at hcat
      | cons a r => simp
    have hout : out = l := by
      have := h3 hpos
      rw [List.take_length, hcat] at this
      injection this
    subst hout
    have hml : ((out.map lowB).length : Int) = out.length := by simp
    repeat' (first | (with_reducible refine And.intro ?_ ?_) | ((with_reducible intro hc); (try simp only [str_size, str_list, str_nil, decide_eq_true_eq, decide_eq_false_iff_not, beq_iff_eq, bne_iff_ne, beq_eq_false_iff_ne, bne_eq_false_iff_eq, ne_eq, Bool.not_eq_true', Bool.not_eq_false', Bool.not_true, Bool.not_false, gt_iff_lt, ge_iff_le, Int.not_lt, Int.not_le, Decidable.not_not] at hc); (first | (exact absurd rfl hc) | (exact absurd trivial hc) | (exfalso; omega) | skip)) | (exact Is.mk rfl rfl) | ((conv => whnf); first | (with_reducible refine And.intro ?_ ?_) | (exact Is.mk rfl rfl) | (with_reducible apply Val.via) | (refine ifB_intro (fun hc => ?_) (fun hc => ?_) <;> (try simp only [str_size, str_list, str_nil, decide_eq_true_eq, decide_eq_false_iff_not, beq_iff_eq, bne_iff_ne, beq_eq_false_iff_ne, bne_eq_false_iff_eq, ne_eq, Bool.not_eq_true', Bool.not_eq_false', Bool.not_true, Bool.not_false, gt_iff_lt, ge_iff_le, Int.not_lt, Int.not_le, Decidable.not_not] at hc) <;> (first | (exact absurd rfl hc) | (exact absurd trivial hc) | (exfalso; omega) | skip)) | (refine GAr.i64 (by omega) ?_) | ((refine GAr.i64w ?_); intro kw hk1 hk2) | (refine GAr.u8s (by omega) ?_) | (refine GAr.u8 ?_) | (refine GAr.u64s (by omega) ?_) | (refine GAr.u32s (by omega) ?_) | (refine GAr.u64 ?_) | (refine GAr.u32 ?_) | (refine GQuo.i64 (by omega) ?_) | (refine GRem.pos (by omega) ?_) | (with_reducible refine stopA ?_) | (refine Exists.intro _ (And.intro (by (first | exact vbytes_map out | exact vbytes_map (out.map lowB) | exact vbytes_map ((out.map lowB).map lowB) | rfl)) ?_)) | (refine GOp.via (by rfl) ?_) | (refine GWP.draw mixed _ (by kernel_rfl) (by rfl) ?_) | (with_reducible refine stopO ?_) | (with_reducible refine stopE ?_) | (with_reducible refine stopD ?_) | (with_reducible refine stopW ?_) | (first | (refine GCall.mk ((lower_slice out _ (by omega)).mono ?_); rintro _ _ ⟨rfl, rfl⟩) | (refine GCall.mk ((lower_slice (out.map lowB) _ (by omega)).mono ?_); rintro _ _ ⟨rfl, rfl⟩) | (refine GCall.mk ((same_call out (out.map lowB) _ (by omega) (by omega)).mono ?_); rintro _ _ ⟨rfl, rfl⟩)) | (with_reducible refine stopC ?_) | (with_reducible refine stopR ?_)))
    all_goals (first | omega | rw [List.length_map] | skip)
    all_goals (first | exact Done'.mk (congrArg (fun b => VV.sc (.bool b)) (beq_self_eq_true _)) | exact absurd (low_low out) hc | exact absurd (low_low out).symm hc)
end Go.Proofs.Ytnfmoclmfddajaa
