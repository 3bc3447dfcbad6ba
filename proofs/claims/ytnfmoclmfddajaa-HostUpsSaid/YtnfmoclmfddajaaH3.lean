/- Parse, Address. -/
import Derived.Test.YtnfmoclmfddajaaH2
namespace Go.Proofs.Ytnfmoclmfddajaa
open Go Go.RowKit
set_option linter.unusedSimpArgs false
set_option linter.unusedVariables false
set_option maxRecDepth 100000
set_option maxHeartbeats 4000000
theorem allS_at {α : Type} {l : List α} {i : Nat} {c : α} (p : α → Bool) (h : l[i]? = some c) : (l.drop i).all p = (p c && (l.drop (i + 1)).all p) := by
  obtain ⟨hi, e⟩ := List.getElem?_eq_some_iff.1 h
  rw [List.drop_eq_getElem_cons hi, e, List.all_cons]
theorem vagg_bs : vagg Try.prog 22 = some false := by kernel_rfl
theorem mapb_at {l : List (List UInt8)} {i : Nat} {b : List UInt8} (h : l[i]? = some b) : (l.map roB)[i]? = some (roB b) := by
  rw [List.getElem?_map, h]; rfl
/-- Four numbers up to 255. -/
def addr (ss : List (List UInt8)) : Bool := ss.all (fun p => (num p 255).isSome) && (ss.length == 4)
theorem address_call (ss : List (List UInt8)) (H : Heap) (hl : ss.length ≤ 1000000) (hp : ∀ p ∈ ss, p.length ≤ 100000) : VCall Try.prog 73 [roBS ss] H (fun x K => x = booV (addr ss) ∧ K = H) := by
  refine VCall.pure (by simp [nameless_roBS]) (nameless_sc _) ?_
  refine VCall.go Try.func73 rfl ?_
  repeat' (first | (with_reducible refine And.intro ?_ ?_) | ((with_reducible intro hc); (try simp only [str_size, str_list, str_nil, decide_eq_true_eq, decide_eq_false_iff_not, beq_iff_eq, bne_iff_ne, beq_eq_false_iff_ne, bne_eq_false_iff_eq, ne_eq, Bool.not_eq_true', Bool.not_eq_false', Bool.not_true, Bool.not_false, gt_iff_lt, ge_iff_le, Int.not_lt, Int.not_le, Decidable.not_not] at hc); (first | (exact absurd rfl hc) | (exact absurd trivial hc) | (exfalso; omega) | skip)) | ((conv => whnf); first | (with_reducible refine And.intro ?_ ?_) | (refine ifB_intro (fun hc => ?_) (fun hc => ?_) <;> (try simp only [str_size, str_list, str_nil, decide_eq_true_eq, decide_eq_false_iff_not, beq_iff_eq, bne_iff_ne, beq_eq_false_iff_ne, bne_eq_false_iff_eq, ne_eq, Bool.not_eq_true', Bool.not_eq_false', Bool.not_true, Bool.not_false, gt_iff_lt, ge_iff_le, Int.not_lt, Int.not_le, Decidable.not_not] at hc) <;> (first | (exact absurd rfl hc) | (exact absurd trivial hc) | (exfalso; omega) | skip)) | (refine GAr.i64 (by omega) ?_) | ((refine GAr.i64w ?_); intro kw hk1 hk2) | (refine GAr.u8s (by omega) ?_) | (refine GAr.u8 ?_) | (refine GAr.u64s (by omega) ?_) | (refine GAr.u32s (by omega) ?_) | (refine GAr.u64 ?_) | (refine GAr.u32 ?_) | (refine GQuo.i64 (by omega) ?_) | (refine GRem.pos (by omega) ?_) | (with_reducible refine stopA ?_) | (refine Exists.intro _ (And.intro (by rfl) ?_)) | (refine GOp.via (by rfl) ?_) | (with_reducible refine stopO ?_) | (with_reducible refine stopE ?_) | (with_reducible refine stopD ?_) | (with_reducible refine stopW ?_) | (with_reducible refine stopC ?_) | (with_reducible refine stopR ?_)))
  refine GWP'.mk (GWP.loopA (α := Nat) [2, 4, 5, 6, 9, 10, 11, 12, 13, 14, 15, 16, 17, 18, 19, 20] [] (fun i => i ≤ ss.length ∧ ss.all (fun p => (num p 255).isSome) = (ss.drop i).all (fun p => (num p 255).isSome)) (fun i => [(9, iV i)]) (fun _ => []) 0 (fun i => ss.length - i) 0 ⟨Nat.zero_le _, rfl⟩ ⟨rfl, rfl, (by repeat' (first | exact trivial | refine And.intro rfl ?_)), [], _, rfl, ⟨⟨_, rfl, .sc⟩, trivial⟩, .nil⟩ ?_)
  rintro i ⟨h1, h2⟩
  by_cases hil : i < ss.length
  · obtain ⟨q, hb⟩ := list_at hil
    rw [allS_at (fun p => (num p 255).isSome) hb] at h2
    have hq := hp q (List.mem_of_getElem? hb)
    repeat' (first | (with_reducible refine And.intro ?_ ?_) | ((with_reducible intro hc); (try simp only [str_size, str_list, str_nil, decide_eq_true_eq, decide_eq_false_iff_not, beq_iff_eq, bne_iff_ne, beq_eq_false_iff_ne, bne_eq_false_iff_eq, ne_eq, Bool.not_eq_true', Bool.not_eq_false', Bool.not_true, Bool.not_false, gt_iff_lt, ge_iff_le, Int.not_lt, Int.not_le, Decidable.not_not] at hc); (first | (exact absurd rfl hc) | (exact absurd trivial hc) | (exfalso; omega) | skip)) | ((conv => whnf); first | (with_reducible refine And.intro ?_ ?_) | (refine ifB_intro (fun hc => ?_) (fun hc => ?_) <;> (try simp only [str_size, str_list, str_nil, decide_eq_true_eq, decide_eq_false_iff_not, beq_iff_eq, bne_iff_ne, beq_eq_false_iff_ne, bne_eq_false_iff_eq, ne_eq, Bool.not_eq_true', Bool.not_eq_false', Bool.not_true, Bool.not_false, gt_iff_lt, ge_iff_le, Int.not_lt, Int.not_le, Decidable.not_not] at hc) <;> (first | (exact absurd rfl hc) | (exact absurd trivial hc) | (exfalso; omega) | skip)) | (refine GAr.i64 (by omega) ?_) | ((refine GAr.i64w ?_); intro kw hk1 hk2) | (refine GAr.u8s (by omega) ?_) | (refine GAr.u8 ?_) | (refine GAr.u64s (by omega) ?_) | (refine GAr.u32s (by omega) ?_) | (refine GAr.u64 ?_) | (refine GAr.u32 ?_) | (refine GQuo.i64 (by omega) ?_) | (refine GRem.pos (by omega) ?_) | (with_reducible refine stopA ?_) | (refine Exists.intro _ (And.intro (by (first | exact vat_of vagg_bs (mapb_at hb) (mul1 rfl rfl) | rfl)) ?_)) | (refine GOp.via (by rfl) ?_) | (with_reducible refine stopO ?_) | (with_reducible refine stopE ?_) | (with_reducible refine stopD ?_) | (with_reducible refine stopW ?_) | (refine GCall.mk ((num_call q 255 _ (by omega) (by omega) (by omega)).mono ?_); rintro _ _ ⟨rfl, rfl⟩) | (with_reducible refine stopC ?_) | (with_reducible refine stopR ?_)))
    all_goals (first | omega | skip)
    · refine Done'.mk ?_
      unfold addr
      rw [h2, hc]
      rfl
    · rw [hc, Bool.true_and] at h2
      exact Done'.mk ⟨i + 1, ⟨by omega, h2⟩, by omega, rfl, rfl, (by repeat' (first | exact trivial | refine And.intro rfl ?_)), [], _, rfl, ⟨⟨_, rfl, RenV.eq rfl (nameless_sc _)⟩, trivial⟩, .nil⟩
  · repeat' (first | (with_reducible refine And.intro ?_ ?_) | ((with_reducible intro hc); (try simp only [str_size, str_list, str_nil, decide_eq_true_eq, decide_eq_false_iff_not, beq_iff_eq, bne_iff_ne, beq_eq_false_iff_ne, bne_eq_false_iff_eq, ne_eq, Bool.not_eq_true', Bool.not_eq_false', Bool.not_true, Bool.not_false, gt_iff_lt, ge_iff_le, Int.not_lt, Int.not_le, Decidable.not_not] at hc); (first | (exact absurd rfl hc) | (exact absurd trivial hc) | (exfalso; omega) | skip)) | ((conv => whnf); first | (with_reducible refine And.intro ?_ ?_) | (refine ifB_intro (fun hc => ?_) (fun hc => ?_) <;> (try simp only [str_size, str_list, str_nil, decide_eq_true_eq, decide_eq_false_iff_not, beq_iff_eq, bne_iff_ne, beq_eq_false_iff_ne, bne_eq_false_iff_eq, ne_eq, Bool.not_eq_true', Bool.not_eq_false', Bool.not_true, Bool.not_false, gt_iff_lt, ge_iff_le, Int.not_lt, Int.not_le, Decidable.not_not] at hc) <;> (first | (exact absurd rfl hc) | (exact absurd trivial hc) | (exfalso; omega) | skip)) | (refine GAr.i64 (by omega) ?_) | ((refine GAr.i64w ?_); intro kw hk1 hk2) | (refine GAr.u8s (by omega) ?_) | (refine GAr.u8 ?_) | (refine GAr.u64s (by omega) ?_) | (refine GAr.u32s (by omega) ?_) | (refine GAr.u64 ?_) | (refine GAr.u32 ?_) | (refine GQuo.i64 (by omega) ?_) | (refine GRem.pos (by omega) ?_) | (with_reducible refine stopA ?_) | (refine Exists.intro _ (And.intro (by rfl) ?_)) | (refine GOp.via (by rfl) ?_) | (with_reducible refine stopO ?_) | (with_reducible refine stopE ?_) | (with_reducible refine stopD ?_) | (with_reducible refine stopW ?_) | (with_reducible refine stopC ?_) | (with_reducible refine stopR ?_)))
    all_goals (first | omega | skip)
    rw [List.drop_eq_nil_of_le (by omega)] at h2
    refine Done'.mk ?_
    unfold addr
    rw [h2]
    refine congrArg (fun b => VV.sc (.bool b)) ?_
    rw [Bool.eq_iff_iff]
    simp
    omega
def lastDig (ss : List (List UInt8)) : Bool := match ss[ss.length - 1]? with
  | some q => match q[0]? with
    | some c => dgB c
    | none => false
  | none => false
def hBad (ss : List (List UInt8)) : Bool := Nat.blt 8 ss.length || !(ss.all hOK) || (lastDig ss && !(addr ss))
def hCode (l : List UInt8) : Int := if 253 < l.length then 3 else if hBad (splitB (l.map lowB) 46) then 2 else 0
def hTxt (l : List UInt8) : List UInt8 := if hCode l = 0 then l.map lowB else []
theorem splitGo_ne (b : UInt8) : ∀ (l cur : List UInt8), 0 < (splitGo b l cur).length
  | [], cur => by simp [splitGo]
  | c :: r, cur => by
    unfold splitGo
    split
    · simp
    · exact splitGo_ne b r _
theorem splitGo_part (b : UInt8) : ∀ (l cur : List UInt8), ∀ p ∈ splitGo b l cur, p.length ≤ cur.length + l.length
  | [], cur, p, hp => by simp [splitGo] at hp; subst hp; simp
  | c :: r, cur, p, hp => by
    unfold splitGo at hp
    split at hp
    · rcases List.mem_cons.1 hp with rfl | hp
      · simp
      · have := splitGo_part b r [] p hp
        simp only [List.length_nil, List.length_cons] at this ⊢
        omega
    · have := splitGo_part b r (cur ++ [c]) p hp
      simp only [List.length_append, List.length_cons, List.length_nil] at this ⊢
      omega
theorem splitB_part {l : List UInt8} {b : UInt8} {p : List UInt8} (h : p ∈ splitB l b) : p.length ≤ l.length := by
  have := splitGo_part b l [] p h
  simpa using this
def errV (n : Int) : VV := .sc (.int .i64 n)
theorem hOK_pos {p : List UInt8} (h : hOK p = true) : 0 < p.length := by
  rcases Nat.eq_zero_or_pos p.length with h0 | h0
  · have : p = [] := List.eq_nil_of_length_eq_zero h0
    subst this
    cases h
  · exact h0
theorem parse_call (l : List UInt8) (H : Heap) (hl : l.length ≤ 100000) : VCall Try.prog 19 [roB l] H (fun x K => x = .tp [roB (hTxt l), errV (hCode l)] ∧ K = H) := by
  refine VCall.frozen (Q := fun v K => Frz K v (.tp [roB (hTxt l), errV (hCode l)])) (by simp [nameless_roB]) ?_ (fun v K h => h)
  have bad : ∀ (K : Heap) (n : Int), hCode l = n → n ≠ 0 → Frz K (.tp [.sc (.slice none 0 0), errV n]) (.tp [roB (hTxt l), errV (hCode l)]) := fun K n e h => by
    have : hTxt l = [] := by unfold hTxt; rw [if_neg (by rw [e]; exact h)]
    rw [this, e]
    exact Frz.tp (.cons Frz.nil0 (.cons (Frz.of (nameless_sc _)) .nil))
  refine VCall.go Try.func19 rfl ?_
  repeat' (first | (with_reducible refine And.intro ?_ ?_) | ((with_reducible intro hc); (try simp only [str_size, str_list, str_nil, decide_eq_true_eq, decide_eq_false_iff_not, beq_iff_eq, bne_iff_ne, beq_eq_false_iff_ne, bne_eq_false_iff_eq, ne_eq, Bool.not_eq_true', Bool.not_eq_false', Bool.not_true, Bool.not_false, gt_iff_lt, ge_iff_le, Int.not_lt, Int.not_le, Decidable.not_not] at hc); (first | (exact absurd rfl hc) | (exact absurd trivial hc) | (exfalso; omega) | skip)) | ((conv => whnf); first | (with_reducible refine And.intro ?_ ?_) | (refine ifB_intro (fun hc => ?_) (fun hc => ?_) <;> (try simp only [str_size, str_list, str_nil, decide_eq_true_eq, decide_eq_false_iff_not, beq_iff_eq, bne_iff_ne, beq_eq_false_iff_ne, bne_eq_false_iff_eq, ne_eq, Bool.not_eq_true', Bool.not_eq_false', Bool.not_true, Bool.not_false, gt_iff_lt, ge_iff_le, Int.not_lt, Int.not_le, Decidable.not_not] at hc) <;> (first | (exact absurd rfl hc) | (exact absurd trivial hc) | (exfalso; omega) | skip)) | (refine GAr.i64 (by omega) ?_) | ((refine GAr.i64w ?_); intro kw hk1 hk2) | (refine GAr.u8s (by omega) ?_) | (refine GAr.u8 ?_) | (refine GAr.u64s (by omega) ?_) | (refine GAr.u32s (by omega) ?_) | (refine GAr.u64 ?_) | (refine GAr.u32 ?_) | (refine GQuo.i64 (by omega) ?_) | (refine GRem.pos (by omega) ?_) | (with_reducible refine stopA ?_) | (refine Exists.intro _ (And.intro (by rfl) ?_)) | (refine GOp.via (by rfl) ?_) | (with_reducible refine stopO ?_) | (with_reducible refine stopE ?_) | (with_reducible refine stopD ?_) | (with_reducible refine stopW ?_) | (first | (refine GCall.mk ((lower_slice l _ (by omega)).mono ?_); rintro _ _ ⟨rfl, rfl⟩) | (refine GCall.mk ((parts_call (l.map lowB) _ (by rw [List.length_map]; omega)).mono ?_); rintro _ _ ⟨rfl, rfl⟩)) | (with_reducible refine stopC ?_) | (with_reducible refine stopR ?_)))
  · exact Done'.mk (bad _ 3 (by unfold hCode; rw [if_pos (by omega)]) (by decide))
  · have h253 : ¬ 253 < l.length := by omega
    refine Done'.mk (bad _ 2 ?_ (by decide))
    unfold hCode hBad
    rw [if_neg h253, if_pos]
    simp only [Bool.or_eq_true, blt_iff]
    exact .inl (.inl (by omega))
  have h253 : ¬ 253 < l.length := by omega
  have hcode : hCode l = if hBad (splitB (l.map lowB) 46) then 2 else 0 := by unfold hCode; rw [if_neg h253]
  have hpart : ∀ p ∈ splitB (l.map lowB) 46, p.length ≤ 100000 := fun p hp => by
    have := splitB_part hp
    rw [List.length_map] at this
    omega
  have hne : 0 < (splitB (l.map lowB) 46).length := splitGo_ne 46 _ _
  generalize splitB (l.map lowB) 46 = ss at *
  have h8 : Nat.blt 8 ss.length = false := by
    cases hh : Nat.blt 8 ss.length
    · rfl
    · have := blt_iff.1 hh; omega
  refine GWP'.mk (GWP.loopA (α := Nat) [2, 3, 7, 21, 22, 23, 24, 25, 26, 27, 28] [] (fun i => i ≤ ss.length ∧ ss.all hOK = (ss.drop i).all hOK) (fun i => [(21, iV i), (2, .sc (.slice none 0 0)), (3, iV 0)]) (fun _ => []) 0 (fun i => ss.length - i) 0 ⟨Nat.zero_le _, rfl⟩ ⟨rfl, rfl, (by repeat' (first | exact trivial | refine And.intro rfl ?_)), [], _, rfl, ⟨⟨_, rfl, .sc⟩, ⟨_, rfl, .sc⟩, ⟨_, rfl, .sc⟩, trivial⟩, .nil⟩ ?_)
  rintro i ⟨h1, h2⟩
  by_cases hil : i < ss.length
  · obtain ⟨q, hb⟩ := list_at hil
    rw [allS_at hOK hb] at h2
    have hq := hpart q (List.mem_of_getElem? hb)
    repeat' (first | (with_reducible refine And.intro ?_ ?_) | ((with_reducible intro hc); (try simp only [str_size, str_list, str_nil, decide_eq_true_eq, decide_eq_false_iff_not, beq_iff_eq, bne_iff_ne, beq_eq_false_iff_ne, bne_eq_false_iff_eq, ne_eq, Bool.not_eq_true', Bool.not_eq_false', Bool.not_true, Bool.not_false, gt_iff_lt, ge_iff_le, Int.not_lt, Int.not_le, Decidable.not_not] at hc); (first | (exact absurd rfl hc) | (exact absurd trivial hc) | (exfalso; omega) | skip)) | ((conv => whnf); first | (with_reducible refine And.intro ?_ ?_) | (refine ifB_intro (fun hc => ?_) (fun hc => ?_) <;> (try simp only [str_size, str_list, str_nil, decide_eq_true_eq, decide_eq_false_iff_not, beq_iff_eq, bne_iff_ne, beq_eq_false_iff_ne, bne_eq_false_iff_eq, ne_eq, Bool.not_eq_true', Bool.not_eq_false', Bool.not_true, Bool.not_false, gt_iff_lt, ge_iff_le, Int.not_lt, Int.not_le, Decidable.not_not] at hc) <;> (first | (exact absurd rfl hc) | (exact absurd trivial hc) | (exfalso; omega) | skip)) | (refine GAr.i64 (by omega) ?_) | ((refine GAr.i64w ?_); intro kw hk1 hk2) | (refine GAr.u8s (by omega) ?_) | (refine GAr.u8 ?_) | (refine GAr.u64s (by omega) ?_) | (refine GAr.u32s (by omega) ?_) | (refine GAr.u64 ?_) | (refine GAr.u32 ?_) | (refine GQuo.i64 (by omega) ?_) | (refine GRem.pos (by omega) ?_) | (with_reducible refine stopA ?_) | (refine Exists.intro _ (And.intro (by (first | exact vat_of vagg_bs (mapb_at hb) (mul1 rfl rfl) | rfl)) ?_)) | (refine GOp.via (by rfl) ?_) | (with_reducible refine stopO ?_) | (with_reducible refine stopE ?_) | (with_reducible refine stopD ?_) | (with_reducible refine stopW ?_) | (refine GCall.mk ((part_call q _ (by omega)).mono ?_); rintro _ _ ⟨rfl, rfl⟩) | (with_reducible refine stopC ?_) | (with_reducible refine stopR ?_)))
    all_goals (first | omega | skip)
    · rw [hc, Bool.false_and] at h2
      refine Done'.mk (bad _ 2 ?_ (by decide))
      rw [hcode, if_pos]
      unfold hBad
      rw [h2]
      simp
    · rw [hc, Bool.true_and] at h2
      exact Done'.mk ⟨i + 1, ⟨by omega, h2⟩, by omega, rfl, rfl, (by repeat' (first | exact trivial | refine And.intro rfl ?_)), [], _, rfl, ⟨⟨_, rfl, RenV.eq rfl (nameless_sc _)⟩, ⟨_, rfl, .sc⟩, ⟨_, rfl, .sc⟩, trivial⟩, .nil⟩
  · rw [List.drop_eq_nil_of_le (by omega)] at h2
    have h2 : ss.all hOK = true := h2
    obtain ⟨q, hb⟩ := list_at (l := ss) (i := ss.length - 1) (by omega)
    have hqok : hOK q = true := List.all_eq_true.1 h2 q (List.mem_of_getElem? hb)
    have hqp := hOK_pos hqok
    obtain ⟨c, hc0⟩ := list_at (l := q) (i := 0) hqp
    have hlast : lastDig ss = dgB c := by unfold lastDig; rw [hb]; simp only [hc0]
    have hq1 : ((ss.length : Int) - 1).toNat = ss.length - 1 := by omega
    have hbad : hBad ss = (dgB c && !(addr ss)) := by
      unfold hBad
      rw [h8, h2, hlast]
      rfl
    rw [hbad, ← dgB_eq] at hcode
    have good : ∀ (K : Heap), hCode l = 0 → Frz K (.tp [roB (l.map lowB), errV 0]) (.tp [roB (hTxt l), errV (hCode l)]) := fun K e => by
      have : hTxt l = l.map lowB := by unfold hTxt; rw [if_pos e]
      rw [this, e]
      exact Frz.of (nameless_tp (by simp [nameless_roB, errV, nameless_sc]))
    repeat' (first | (with_reducible refine And.intro ?_ ?_) | ((with_reducible intro hc); (try simp only [str_size, str_list, str_nil, decide_eq_true_eq, decide_eq_false_iff_not, beq_iff_eq, bne_iff_ne, beq_eq_false_iff_ne, bne_eq_false_iff_eq, ne_eq, Bool.not_eq_true', Bool.not_eq_false', Bool.not_true, Bool.not_false, gt_iff_lt, ge_iff_le, Int.not_lt, Int.not_le, Decidable.not_not] at hc); (first | (exact absurd rfl hc) | (exact absurd trivial hc) | (exfalso; omega) | skip)) | ((conv => whnf); first | (with_reducible refine And.intro ?_ ?_) | (refine ifB_intro (fun hc => ?_) (fun hc => ?_) <;> (try simp only [str_size, str_list, str_nil, decide_eq_true_eq, decide_eq_false_iff_not, beq_iff_eq, bne_iff_ne, beq_eq_false_iff_ne, bne_eq_false_iff_eq, ne_eq, Bool.not_eq_true', Bool.not_eq_false', Bool.not_true, Bool.not_false, gt_iff_lt, ge_iff_le, Int.not_lt, Int.not_le, Decidable.not_not] at hc) <;> (first | (exact absurd rfl hc) | (exact absurd trivial hc) | (exfalso; omega) | skip)) | (refine GAr.i64 (by omega) ?_) | ((refine GAr.i64w ?_); intro kw hk1 hk2) | (refine GAr.u8s (by omega) ?_) | (refine GAr.u8 ?_) | (refine GAr.u64s (by omega) ?_) | (refine GAr.u32s (by omega) ?_) | (refine GAr.u64 ?_) | (refine GAr.u32 ?_) | (refine GQuo.i64 (by omega) ?_) | (refine GRem.pos (by omega) ?_) | (with_reducible refine stopA ?_) | (refine Exists.intro _ (And.intro (by (first | exact vat_of vagg_bs (mapb_at hb) (mul1 rfl hq1) | exact vat_of vagg_u8 (map_at hc0) (mul1 rfl rfl) | rfl)) ?_)) | (refine GOp.via (by rfl) ?_) | (with_reducible refine stopO ?_) | (with_reducible refine stopE ?_) | (with_reducible refine stopD ?_) | (with_reducible refine stopW ?_) | (refine GCall.mk ((address_call ss _ (by omega) hpart).mono ?_); rintro _ _ ⟨rfl, rfl⟩) | (with_reducible refine stopC ?_) | (with_reducible refine stopR ?_)))
    all_goals (first | omega | skip)
    · exact Done'.mk (bad _ 2 (by rw [hcode, hc, decide_eq_true (show 48 ≤ c.toNat ∧ c.toNat ≤ 57 by omega)]; rfl) (by decide))
    · exact Done'.mk (good _ (by rw [hcode, hc, Bool.not_true, Bool.and_false]; rfl))
    · exact Done'.mk (good _ (by rw [hcode, decide_eq_false (show ¬ (48 ≤ c.toNat ∧ c.toNat ≤ 57) by omega), Bool.false_and]; rfl))
    · exact Done'.mk (good _ (by rw [hcode, decide_eq_false (show ¬ (48 ≤ c.toNat ∧ c.toNat ≤ 57) by omega), Bool.false_and]; rfl))
def hAddr (l : List UInt8) : Bool := decide (hCode l = 0) && addr (splitB (l.map lowB) 46)
theorem hAddr_call (l : List UInt8) (H : Heap) (hl : l.length ≤ 100000) : VCall Try.prog 21 [roB l] H (fun x K => x = booV (hAddr l) ∧ K = H) := by
  refine VCall.pure (by simp [nameless_roB]) (nameless_sc _) ?_
  refine VCall.go Try.func21 rfl ?_
  have ht : (hTxt l).length ≤ 100000 := by
    unfold hTxt
    split
    · rw [List.length_map]; exact hl
    · simp
  repeat' (first | (with_reducible refine And.intro ?_ ?_) | ((with_reducible intro hc); (try simp only [str_size, str_list, str_nil, decide_eq_true_eq, decide_eq_false_iff_not, beq_iff_eq, bne_iff_ne, beq_eq_false_iff_ne, bne_eq_false_iff_eq, ne_eq, Bool.not_eq_true', Bool.not_eq_false', Bool.not_true, Bool.not_false, gt_iff_lt, ge_iff_le, Int.not_lt, Int.not_le, Decidable.not_not] at hc); (first | (exact absurd rfl hc) | (exact absurd trivial hc) | (exfalso; omega) | skip)) | ((conv => whnf); first | (with_reducible refine And.intro ?_ ?_) | (refine ifB_intro (fun hc => ?_) (fun hc => ?_) <;> (try simp only [str_size, str_list, str_nil, decide_eq_true_eq, decide_eq_false_iff_not, beq_iff_eq, bne_iff_ne, beq_eq_false_iff_ne, bne_eq_false_iff_eq, ne_eq, Bool.not_eq_true', Bool.not_eq_false', Bool.not_true, Bool.not_false, gt_iff_lt, ge_iff_le, Int.not_lt, Int.not_le, Decidable.not_not] at hc) <;> (first | (exact absurd rfl hc) | (exact absurd trivial hc) | (exfalso; omega) | skip)) | (refine GAr.i64 (by omega) ?_) | ((refine GAr.i64w ?_); intro kw hk1 hk2) | (refine GAr.u8s (by omega) ?_) | (refine GAr.u8 ?_) | (refine GAr.u64s (by omega) ?_) | (refine GAr.u32s (by omega) ?_) | (refine GAr.u64 ?_) | (refine GAr.u32 ?_) | (refine GQuo.i64 (by omega) ?_) | (refine GRem.pos (by omega) ?_) | (with_reducible refine stopA ?_) | (refine Exists.intro _ (And.intro (by rfl) ?_)) | (refine GOp.via (by rfl) ?_) | (with_reducible refine stopO ?_) | (with_reducible refine stopE ?_) | (with_reducible refine stopD ?_) | (with_reducible refine stopW ?_) | (first | (refine GCall.mk ((parse_call l _ hl).mono ?_); rintro _ _ ⟨rfl, rfl⟩) | (refine GCall.mk ((parts_call (hTxt l) _ ht).mono ?_); rintro _ _ ⟨rfl, rfl⟩) | (refine GCall.mk ((address_call (splitB (hTxt l) 46) _ (by have := splitB_len (hTxt l) 46; omega) (fun p hp => by have := splitB_part hp; omega)).mono ?_); rintro _ _ ⟨rfl, rfl⟩)) | (with_reducible refine stopC ?_) | (with_reducible refine stopR ?_)))
  · refine Done'.mk ?_
    unfold hAddr
    rw [decide_eq_true hc, Bool.true_and]
    unfold hTxt
    rw [if_pos hc]
    rfl
  · refine Done'.mk ?_
    unfold hAddr
    rw [decide_eq_false hc]
    rfl
end Go.Proofs.Ytnfmoclmfddajaa
