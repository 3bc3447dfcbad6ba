/- Going up: what is told; Cut with what it is cut by in block NM. -/
import Derived.Test.YtnfmoclmfddajaaH7
import Derived.Test.YtnfmoclmfddajaaD5
namespace Go.Proofs.Ytnfmoclmfddajaa
open Go Go.RowKit
set_option linter.unusedSimpArgs false
set_option linter.unusedVariables false
set_option maxRecDepth 100000
set_option maxHeartbeats 4000000
theorem index_at4 (l : List UInt8) (b : UInt8) (objs : List (Nat × VObj)) (nx : Nat) : VCall Try.prog 129 [roB l, .sl 4 0 1 (some 1) 1] ⟨(4, .cells true [bV b]) :: objs, nx⟩ (fun x K => x = iV (idxB l b) ∧ K = ⟨(4, .cells true [bV b]) :: objs, nx⟩) := by { refine VCall.go Try.func129 rfl ?_; (repeat' (first | (with_reducible refine And.intro ?_ ?_) | ((with_reducible intro hc); (try simp only [str_size, str_list, str_nil, decide_eq_true_eq, decide_eq_false_iff_not, beq_iff_eq, bne_iff_ne, beq_eq_false_iff_ne, bne_eq_false_iff_eq, ne_eq, Bool.not_eq_true', Bool.not_eq_false', Bool.not_true, Bool.not_false, gt_iff_lt, ge_iff_le, Int.not_lt, Int.not_le, Decidable.not_not] at hc); (first | (exact absurd rfl hc) | (exact absurd trivial hc) | (exfalso; omega) | skip)) | ((conv => whnf); first | (with_reducible refine And.intro ?_ ?_) | (refine ifB_intro (fun hc => ?_) (fun hc => ?_) <;> (try simp only [str_size, str_list, str_nil, decide_eq_true_eq, decide_eq_false_iff_not, beq_iff_eq, bne_iff_ne, beq_eq_false_iff_ne, bne_eq_false_iff_eq, ne_eq, Bool.not_eq_true', Bool.not_eq_false', Bool.not_true, Bool.not_false, gt_iff_lt, ge_iff_le, Int.not_lt, Int.not_le, Decidable.not_not] at hc) <;> (first | (exact absurd rfl hc) | (exact absurd trivial hc) | (exfalso; omega) | skip)) | (refine GAr.i64 (by omega) ?_) | ((refine GAr.i64w ?_); intro kw hk1 hk2) | (refine GAr.u8s (by omega) ?_) | (refine GAr.u8 ?_) | (refine GAr.u64s (by omega) ?_) | (refine GAr.u32s (by omega) ?_) | (refine GAr.u64 ?_) | (refine GAr.u32 ?_) | (refine GQuo.i64 (by omega) ?_) | (refine GRem.pos (by omega) ?_) | (with_reducible refine stopA ?_) | (refine Exists.intro _ (And.intro (by rfl) ?_)) | (refine GOp.via (by rfl) ?_) | (with_reducible refine stopO ?_) | (with_reducible refine stopE ?_) | (with_reducible refine stopD ?_) | (with_reducible refine stopW ?_) | (refine GCall.mk ((indexByte_call l b _).mono ?_); rintro _ _ ⟨rfl, rfl⟩) | (with_reducible refine stopC ?_) | (with_reducible refine stopR ?_)))); all_goals (first | omega | exact Done'.mk ⟨rfl, rfl⟩) }
theorem index_at8 (l : List UInt8) (b : UInt8) (objs : List (Nat × VObj)) (nx : Nat) : VCall Try.prog 129 [roB l, .sl 8 0 1 (some 1) 1] ⟨(8, .cells true [bV b]) :: objs, nx⟩ (fun x K => x = iV (idxB l b) ∧ K = ⟨(8, .cells true [bV b]) :: objs, nx⟩) := by { refine VCall.go Try.func129 rfl ?_; (repeat' (first | (with_reducible refine And.intro ?_ ?_) | ((with_reducible intro hc); (try simp only [str_size, str_list, str_nil, decide_eq_true_eq, decide_eq_false_iff_not, beq_iff_eq, bne_iff_ne, beq_eq_false_iff_ne, bne_eq_false_iff_eq, ne_eq, Bool.not_eq_true', Bool.not_eq_false', Bool.not_true, Bool.not_false, gt_iff_lt, ge_iff_le, Int.not_lt, Int.not_le, Decidable.not_not] at hc); (first | (exact absurd rfl hc) | (exact absurd trivial hc) | (exfalso; omega) | skip)) | ((conv => whnf); first | (with_reducible refine And.intro ?_ ?_) | (refine ifB_intro (fun hc => ?_) (fun hc => ?_) <;> (try simp only [str_size, str_list, str_nil, decide_eq_true_eq, decide_eq_false_iff_not, beq_iff_eq, bne_iff_ne, beq_eq_false_iff_ne, bne_eq_false_iff_eq, ne_eq, Bool.not_eq_true', Bool.not_eq_false', Bool.not_true, Bool.not_false, gt_iff_lt, ge_iff_le, Int.not_lt, Int.not_le, Decidable.not_not] at hc) <;> (first | (exact absurd rfl hc) | (exact absurd trivial hc) | (exfalso; omega) | skip)) | (refine GAr.i64 (by omega) ?_) | ((refine GAr.i64w ?_); intro kw hk1 hk2) | (refine GAr.u8s (by omega) ?_) | (refine GAr.u8 ?_) | (refine GAr.u64s (by omega) ?_) | (refine GAr.u32s (by omega) ?_) | (refine GAr.u64 ?_) | (refine GAr.u32 ?_) | (refine GQuo.i64 (by omega) ?_) | (refine GRem.pos (by omega) ?_) | (with_reducible refine stopA ?_) | (refine Exists.intro _ (And.intro (by rfl) ?_)) | (refine GOp.via (by rfl) ?_) | (with_reducible refine stopO ?_) | (with_reducible refine stopE ?_) | (with_reducible refine stopD ?_) | (with_reducible refine stopW ?_) | (refine GCall.mk ((indexByte_call l b _).mono ?_); rintro _ _ ⟨rfl, rfl⟩) | (with_reducible refine stopC ?_) | (with_reducible refine stopR ?_)))); all_goals (first | omega | exact Done'.mk ⟨rfl, rfl⟩) }
theorem cut_gen (l : List UInt8) (b : UInt8) (hl : l.length ≤ 140737488355328) (nm : Nat) (H : Heap) (hi : VCall Try.prog 129 [roB l, .sl nm 0 1 (some 1) 1] H (fun x K => x = iV (idxB l b) ∧ K = H)) : VCall Try.prog 86 [roB l, .sl nm 0 1 (some 1) 1] H (fun x K => x = .tp [roB (cutB l b).1, roB (cutB l b).2.1, booV (cutB l b).2.2] ∧ K = H) := by
  have hr := idxB_range l b
  have hk : ∀ h : 0 ≤ idxB l b, l.contains b = true ∧ (idxB l b).toNat = l.idxOf b ∧ l.idxOf b < l.length := by
    intro h
    by_cases hb : l.contains b = true
    · have := List.idxOf_lt_length_of_mem (a := b) (l := l) (by simpa using hb)
      refine ⟨hb, ?_, this⟩
      unfold idxB
      rw [if_pos hb]
      rfl
    · unfold idxB at h
      rw [if_neg hb] at h
      omega
  have hn : idxB l b < 0 → l.contains b = false := by
    intro h
    by_cases hb : l.contains b = true
    · unfold idxB at h
      rw [if_pos hb] at h
      omega
    · simpa using hb
  refine VCall.post (Q := fun x K => (x = .tp [roB (cutB l b).1, roB (cutB l b).2.1, booV (cutB l b).2.2] ∨ (cutB l b).2.1 = [] ∧ x = .tp [roB (cutB l b).1, .sc (.slice none 0 0), booV (cutB l b).2.2]) ∧ K = H) ?_ ?_
  · refine VCall.go Try.func86 rfl ?_
    repeat' (first | (with_reducible refine And.intro ?_ ?_) | ((with_reducible intro hc); (try simp only [str_size, str_list, str_nil, decide_eq_true_eq, decide_eq_false_iff_not, beq_iff_eq, bne_iff_ne, beq_eq_false_iff_ne, bne_eq_false_iff_eq, ne_eq, Bool.not_eq_true', Bool.not_eq_false', Bool.not_true, Bool.not_false, gt_iff_lt, ge_iff_le, Int.not_lt, Int.not_le, Decidable.not_not] at hc); (first | (exact absurd rfl hc) | (exact absurd trivial hc) | (exfalso; omega) | skip)) | (exact Is.mk rfl rfl) | ((conv => whnf); first | (with_reducible refine And.intro ?_ ?_) | (exact Is.mk rfl rfl) | (with_reducible apply Val.via) | (refine ifB_intro (fun hc => ?_) (fun hc => ?_) <;> (try simp only [str_size, str_list, str_nil, decide_eq_true_eq, decide_eq_false_iff_not, beq_iff_eq, bne_iff_ne, beq_eq_false_iff_ne, bne_eq_false_iff_eq, ne_eq, Bool.not_eq_true', Bool.not_eq_false', Bool.not_true, Bool.not_false, gt_iff_lt, ge_iff_le, Int.not_lt, Int.not_le, Decidable.not_not] at hc) <;> (first | (exact absurd rfl hc) | (exact absurd trivial hc) | (exfalso; omega) | skip)) | (refine GAr.i64 (by omega) ?_) | ((refine GAr.i64w ?_); intro kw hk1 hk2) | (refine GAr.u8s (by omega) ?_) | (refine GAr.u8 ?_) | (refine GAr.u64s (by omega) ?_) | (refine GAr.u32s (by omega) ?_) | (refine GAr.u64 ?_) | (refine GAr.u32 ?_) | (refine GQuo.i64 (by omega) ?_) | (refine GRem.pos (by omega) ?_) | (with_reducible refine stopA ?_) | (refine Exists.intro _ (And.intro (by rfl) ?_)) | (refine GOp.via (by rfl) ?_) | (refine GWP.draw mixed _ (by kernel_rfl) (by rfl) ?_) | (with_reducible refine stopO ?_) | (with_reducible refine stopE ?_) | (with_reducible refine stopD ?_) | (with_reducible refine stopW ?_) | (refine GCall.mk ((hi).mono ?_); rintro _ _ ⟨rfl, rfl⟩) | (with_reducible refine stopC ?_) | (with_reducible refine stopR ?_)))
    all_goals (first | omega | refine Done'.mk ⟨?_, rfl⟩)
    · obtain ⟨h1, h2, h3⟩ := hk hc
      refine .inl (tp3 ?_ ?_ ?_)
      · refine (roB_slice (l := l) rfl ?_ ?_).trans ?_
        · omega
        · omega
        · unfold cutB
          rw [if_pos h1, h2]
          simp
      · refine (roB_slice (l := l) rfl ?_ ?_).trans ?_
        · omega
        · omega
        · unfold cutB
          rw [if_pos h1]
          have : (idxB l b + ((1 : Nat) : Int)).toNat = l.idxOf b + 1 := by omega
          rw [this, List.take_of_length_le (by simp)]
      · unfold cutB
        rw [if_pos h1]
        rfl
    · have h1 := hn hc
      refine .inr ⟨?_, tp3 ?_ rfl ?_⟩
      · unfold cutB; rw [if_neg (by rw [h1]; simp)]
      · unfold cutB; rw [if_neg (by rw [h1]; simp)]; rfl
      · unfold cutB; rw [if_neg (by rw [h1]; simp)]; rfl
  · rintro v K ⟨rfl | ⟨e, rfl⟩, rfl⟩
    · exact ⟨_, _, ⟨rfl, rfl⟩, fun _ _ _ _ h => h, Nat.le_refl _, fun _ _ h => h⟩
    · refine ⟨_, _, ⟨rfl, rfl⟩, fun w Z ρ y h => ?_, Nat.le_refl _, fun _ _ h => h⟩
      rw [e]
      cases h with
      | @tp _ cs h1 r1 =>
        refine .tp h1 fun i u c hu hc => ?_
        match i, hu with
        | 0, hu => exact r1 0 u c hu hc
        | 1, hu => injection hu with hu; subst hu; exact weak_nil (r1 1 _ c rfl hc)
        | 2, hu => exact r1 2 u c hu hc
/-! What is told. -/
def joinD (ss : List (List UInt8)) : List UInt8 := (catB 46 ss).drop 1
def tailsJ : List (List UInt8) → List (List UInt8)
  | [] => []
  | p :: r => joinD (p :: r) :: tailsJ r
def hCanon (l : List UInt8) : Bool := decide (hCode l = 0) && (hTxt l == l)
def upsB (l : List UInt8) : List (List UInt8) := if hCanon l then (if hAddr l then [l] else tailsJ (splitB l 46)) else []
theorem join_split (l : List UInt8) : joinD (splitB l 46) = l := by
  unfold joinD
  rw [cat_split]
  rfl
theorem join_one (p : List UInt8) : joinD [p] = p := by simp [joinD, catB]
theorem join_cons (p q : List UInt8) (r : List (List UInt8)) : joinD (p :: q :: r) = p ++ 46 :: joinD (q :: r) := by simp [joinD, catB]
theorem cut_none {p : List UInt8} (h : ¬ 46 ∈ p) : cutB p 46 = (p, [], false) := by
  unfold cutB
  rw [if_neg (by simpa using h)]
theorem cut_some {p r : List UInt8} (h : ¬ 46 ∈ p) : cutB (p ++ 46 :: r) 46 = (p, r, true) := by
  unfold cutB
  have e : (p ++ 46 :: r).idxOf 46 = p.length := by
    rw [List.idxOf_append, if_neg h]
    simp
  rw [if_pos (by simp), e]
  simp
theorem split_no46 : ∀ (l cur : List UInt8), ¬ 46 ∈ cur → ∀ p ∈ splitGo 46 l cur, ¬ 46 ∈ p
  | [], cur, hc, p, hp => by simp [splitGo] at hp; subst hp; exact hc
  | c :: r, cur, hc, p, hp => by
    unfold splitGo at hp
    split at hp
    · rcases List.mem_cons.1 hp with rfl | hp
      · exact hc
      · exact split_no46 r [] (by simp) p hp
    · rename_i hne
      exact split_no46 r (cur ++ [c]) (by simp [hc]; exact fun e => hne e.symm) p hp
theorem canon_call (l : List UInt8) (H : Heap) (hl : l.length ≤ 100000) : VCall Try.prog 90 [roB l] H (fun x K => x = booV (hCanon l) ∧ K = H) := by
  refine VCall.pure (by simp [nameless_roB]) (nameless_sc _) ?_
  refine VCall.go Try.func90 rfl ?_
  repeat' (first | (with_reducible refine And.intro ?_ ?_) | ((with_reducible intro hc); (try simp only [str_size, str_list, str_nil, decide_eq_true_eq, decide_eq_false_iff_not, beq_iff_eq, bne_iff_ne, beq_eq_false_iff_ne, bne_eq_false_iff_eq, ne_eq, Bool.not_eq_true', Bool.not_eq_false', Bool.not_true, Bool.not_false, gt_iff_lt, ge_iff_le, Int.not_lt, Int.not_le, Decidable.not_not] at hc); (first | (exact absurd rfl hc) | (exact absurd trivial hc) | (exfalso; omega) | skip)) | ((conv => whnf); first | (with_reducible refine And.intro ?_ ?_) | (refine ifB_intro (fun hc => ?_) (fun hc => ?_) <;> (try simp only [str_size, str_list, str_nil, decide_eq_true_eq, decide_eq_false_iff_not, beq_iff_eq, bne_iff_ne, beq_eq_false_iff_ne, bne_eq_false_iff_eq, ne_eq, Bool.not_eq_true', Bool.not_eq_false', Bool.not_true, Bool.not_false, gt_iff_lt, ge_iff_le, Int.not_lt, Int.not_le, Decidable.not_not] at hc) <;> (first | (exact absurd rfl hc) | (exact absurd trivial hc) | (exfalso; omega) | skip)) | (refine GAr.i64 (by omega) ?_) | ((refine GAr.i64w ?_); intro kw hk1 hk2) | (refine GAr.u8s (by omega) ?_) | (refine GAr.u8 ?_) | (refine GAr.u64s (by omega) ?_) | (refine GAr.u32s (by omega) ?_) | (refine GAr.u64 ?_) | (refine GAr.u32 ?_) | (refine GQuo.i64 (by omega) ?_) | (refine GRem.pos (by omega) ?_) | (with_reducible refine stopA ?_) | (refine Exists.intro _ (And.intro (by rfl) ?_)) | (refine GOp.via (by rfl) ?_) | (with_reducible refine stopO ?_) | (with_reducible refine stopE ?_) | (with_reducible refine stopD ?_) | (with_reducible refine stopW ?_) | (first | (refine GCall.mk ((parse_call l _ hl).mono ?_); rintro _ _ ⟨rfl, rfl⟩) | (refine GCall.mk ((equal_call (hTxt l) l _).mono ?_); rintro _ _ ⟨rfl, rfl⟩)) | (with_reducible refine stopC ?_) | (with_reducible refine stopR ?_)))
  · refine Done'.mk ?_
    unfold hCanon
    rw [decide_eq_true hc, Bool.true_and]
    rfl
  · refine Done'.mk ?_
    unfold hCanon
    rw [decide_eq_false hc]
    rfl
def upV (l : List UInt8) : VV := .fn (.func 89) [] [.rp [roB l] 0]
theorem nameless_upV (l : List UInt8) : Nameless (upV l) := nameless_fn (by simp) (by simp only [List.mem_singleton, forall_eq]; exact nameless_rp (by simp [nameless_roB]))
theorem up_call (l : List UInt8) (H : Heap) (hl : l.length ≤ 100000) : VCall Try.prog 39 [roB l] H (fun x K => x = upV l ∧ K = H) := by
  refine VCall.frozen (Q := fun v K => Frz K v (upV l)) (by simp [nameless_roB]) ?_ (fun v K h => h)
  refine VCall.go Try.func39 rfl ?_
  repeat' (first | (with_reducible refine And.intro ?_ ?_) | ((with_reducible intro hc); (try simp only [str_size, str_list, str_nil, decide_eq_true_eq, decide_eq_false_iff_not, beq_iff_eq, bne_iff_ne, beq_eq_false_iff_ne, bne_eq_false_iff_eq, ne_eq, Bool.not_eq_true', Bool.not_eq_false', Bool.not_true, Bool.not_false, gt_iff_lt, ge_iff_le, Int.not_lt, Int.not_le, Decidable.not_not] at hc); (first | (exact absurd rfl hc) | (exact absurd trivial hc) | (exfalso; omega) | skip)) | ((conv => whnf); first | (with_reducible refine And.intro ?_ ?_) | (refine ifB_intro (fun hc => ?_) (fun hc => ?_) <;> (try simp only [str_size, str_list, str_nil, decide_eq_true_eq, decide_eq_false_iff_not, beq_iff_eq, bne_iff_ne, beq_eq_false_iff_ne, bne_eq_false_iff_eq, ne_eq, Bool.not_eq_true', Bool.not_eq_false', Bool.not_true, Bool.not_false, gt_iff_lt, ge_iff_le, Int.not_lt, Int.not_le, Decidable.not_not] at hc) <;> (first | (exact absurd rfl hc) | (exact absurd trivial hc) | (exfalso; omega) | skip)) | (refine GAr.i64 (by omega) ?_) | ((refine GAr.i64w ?_); intro kw hk1 hk2) | (refine GAr.u8s (by omega) ?_) | (refine GAr.u8 ?_) | (refine GAr.u64s (by omega) ?_) | (refine GAr.u32s (by omega) ?_) | (refine GAr.u64 ?_) | (refine GAr.u32 ?_) | (refine GQuo.i64 (by omega) ?_) | (refine GRem.pos (by omega) ?_) | (with_reducible refine stopA ?_) | (refine Exists.intro _ (And.intro (by (first | rfl | exact vat_of rfl rfl rfl)) ?_)) | (refine GOp.via (by rfl) ?_) | (with_reducible refine stopO ?_) | (with_reducible refine stopE ?_) | (with_reducible refine stopD ?_) | (with_reducible refine stopW ?_) | (refine GCall.mk ((clone_call l _ (by omega)).mono ?_); rintro _ _ ⟨rfl, rfl⟩) | (with_reducible refine stopC ?_) | (with_reducible refine stopR ?_)))
  exact Done'.mk (Frz.fn .nil (.cons (Frz.ptr (vs := [roB l]) rfl (FrzL.of (by simp [nameless_roB]))) .nil))
end Go.Proofs.Ytnfmoclmfddajaa
