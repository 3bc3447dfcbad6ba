/- The program's quad, walked. -/
import Derived.Test.YtdgohabgjgdfeaaDoorB4
import Derived.Test.YtdgohabgjgdfeaaDoorB6
import Derived.Test.YtdgohabgjgdfeaaDoorC2
namespace Go.Proofs.YtdgohabgjgdfeaaDoor
open Go Go.RowKit
set_option linter.unusedSimpArgs false
set_option linter.unusedVariables false
set_option maxRecDepth 100000
set_option maxHeartbeats 4000000
/-- The first so many bytes. -/
def roT (l : List UInt8) (n : Nat) : VV := .ro n ((l.take n).map bV)
theorem nameless_roT (l : List UInt8) (n : Nat) : Nameless (roT l n) := nameless_ro (nameless_map nameless_bV _)
theorem roB_roT (l : List UInt8) : roB l = roT l l.length := by unfold roT roB; rw [List.take_of_length_le (Nat.le_refl _)]
theorem ro_take {l : List UInt8} {n m m' z : Nat} (hz : z = 1) (hm : m' = m) (h : m ≤ n) : VV.ro (m' - 0) ((((l.take n).map bV).drop (0 * z)).take ((m' - 0) * z)) = roT l m := by
  subst hz hm
  unfold roT
  simp [← List.map_take, List.take_take, Nat.min_eq_left h]
theorem taken_at {l : List UInt8} {n i : Nat} {b : UInt8} (h : l[i]? = some b) (hi : i < n) : ((l.take n).map bV)[i]? = some (bV b) := by
  rw [List.getElem?_map, List.getElem?_take_of_lt hi, h]; rfl
theorem keepN_61 {l : List UInt8} {n : Nat} (h : l[n]? = some 61) : keepN l (n + 1) = keepN l n := by rw [keepN, if_pos h]
theorem keepN_no {l : List UInt8} {n : Nat} {b : UInt8} (h : l[n]? = some b) (hb : b ≠ 61) : keepN l (n + 1) = n + 1 := by rw [keepN, if_neg (by rw [h]; simpa using hb)]
theorem bne_u8 {b c : UInt8} (h : ¬ (b.toNat : Int) = (c.toNat : Int)) : b ≠ c := fun e => h (by rw [e])
theorem beq_u8 {b c : UInt8} (h : (b.toNat : Int) = (c.toNat : Int)) : b = c := UInt8.toNat_inj.1 (by omega)
theorem trimByte_call (l : List UInt8) (H : Heap) (hl : l.length ≤ 1000) : VCall Tryd.prog 153 [roB l, bV 61] H (fun x K => x = roT l (keepN l l.length) ∧ K = H) := by
  refine VCall.pure (by simp [nameless_roB, nameless_bV]) (nameless_roT _ _) ?_
  rw [roB_roT]
  refine VCall.go Tryd.func153 rfl ?_
  repeat' (first | (with_reducible refine And.intro ?_ ?_) | ((with_reducible intro hc); (try simp only [leZ_eq, ltZ_eq, eqZ_eq, str_size, str_list, str_nil, List.toList_toArray, decide_eq_true_eq, decide_eq_false_iff_not, beq_iff_eq, bne_iff_ne, beq_eq_false_iff_ne, bne_eq_false_iff_eq, ne_eq, Bool.not_eq_true', Bool.not_eq_false', Bool.not_true, Bool.not_false, gt_iff_lt, ge_iff_le, Int.not_lt, Int.not_le, Decidable.not_not] at hc); (first | (exact absurd rfl hc) | (exact absurd trivial hc) | (exfalso; omega) | skip)) | ((conv => whnf); first | (with_reducible refine And.intro ?_ ?_) | (refine ifB_intro (fun hc => ?_) (fun hc => ?_) <;> (try simp only [leZ_eq, ltZ_eq, eqZ_eq, str_size, str_list, str_nil, List.toList_toArray, decide_eq_true_eq, decide_eq_false_iff_not, beq_iff_eq, bne_iff_ne, beq_eq_false_iff_ne, bne_eq_false_iff_eq, ne_eq, Bool.not_eq_true', Bool.not_eq_false', Bool.not_true, Bool.not_false, gt_iff_lt, ge_iff_le, Int.not_lt, Int.not_le, Decidable.not_not] at hc) <;> (first | (exact absurd rfl hc) | (exact absurd trivial hc) | (exfalso; omega) | skip)) | (refine GAr.i64 (by omega) ?_) | ((refine GAr.i64w ?_); intro kw hk1 hk2) | (refine GAr.u8s (by omega) ?_) | (refine GAr.u8 ?_) | (refine GAr.u64s (by omega) ?_) | (refine GAr.u32s (by omega) ?_) | (refine GAr.u64 ?_) | (refine GAr.u32 ?_) | (refine GQuo.i64 (by omega) ?_) | (refine GRem.pos (by omega) ?_) | (with_reducible refine stopA ?_) | (refine Exists.intro _ (And.intro (by rfl) ?_)) | (refine GOp.via (by rfl) ?_) | (with_reducible refine stopO ?_) | (with_reducible refine stopE ?_) | (with_reducible refine stopD ?_) | (with_reducible refine stopW ?_) | (with_reducible refine stopG ?_) | (with_reducible refine stopC ?_) | (with_reducible refine stopR ?_)))
  refine GWP'.mk (GWP.loopB (α := Nat) [] (fun n => n ≤ l.length ∧ keepN l n = keepN l l.length) (fun n => [(0, roT l n)]) (fun _ => []) 0 (fun n => n) l.length ⟨Nat.le_refl _, rfl⟩ ?_)
  conv => whnf
  refine And.intro ⟨rfl, rfl, (by repeat' (first | exact trivial | refine And.intro rfl ?_)), [], _, rfl, ⟨⟨_, rfl, .of (nameless_roT _ _)⟩, trivial⟩, .nil⟩ ?_
  rintro n ⟨hn, hk⟩
  cases n with
  | zero =>
    have hr : roT l (keepN l l.length) = .ro 0 [] := by rw [← hk]; rfl
    rw [hr]
    repeat' (first | (with_reducible refine And.intro ?_ ?_) | ((with_reducible intro hc); (try simp only [leZ_eq, ltZ_eq, eqZ_eq, str_size, str_list, str_nil, List.toList_toArray, decide_eq_true_eq, decide_eq_false_iff_not, beq_iff_eq, bne_iff_ne, beq_eq_false_iff_ne, bne_eq_false_iff_eq, ne_eq, Bool.not_eq_true', Bool.not_eq_false', Bool.not_true, Bool.not_false, gt_iff_lt, ge_iff_le, Int.not_lt, Int.not_le, Decidable.not_not] at hc); (first | (exact absurd rfl hc) | (exact absurd trivial hc) | (exfalso; omega) | skip)) | ((conv => whnf); first | (with_reducible refine And.intro ?_ ?_) | (refine ifB_intro (fun hc => ?_) (fun hc => ?_) <;> (try simp only [leZ_eq, ltZ_eq, eqZ_eq, str_size, str_list, str_nil, List.toList_toArray, decide_eq_true_eq, decide_eq_false_iff_not, beq_iff_eq, bne_iff_ne, beq_eq_false_iff_ne, bne_eq_false_iff_eq, ne_eq, Bool.not_eq_true', Bool.not_eq_false', Bool.not_true, Bool.not_false, gt_iff_lt, ge_iff_le, Int.not_lt, Int.not_le, Decidable.not_not] at hc) <;> (first | (exact absurd rfl hc) | (exact absurd trivial hc) | (exfalso; omega) | skip)) | (refine GAr.i64 (by omega) ?_) | ((refine GAr.i64w ?_); intro kw hk1 hk2) | (refine GAr.u8s (by omega) ?_) | (refine GAr.u8 ?_) | (refine GAr.u64s (by omega) ?_) | (refine GAr.u32s (by omega) ?_) | (refine GAr.u64 ?_) | (refine GAr.u32 ?_) | (refine GQuo.i64 (by omega) ?_) | (refine GRem.pos (by omega) ?_) | (with_reducible refine stopA ?_) | (refine Exists.intro _ (And.intro (by rfl) ?_)) | (refine GOp.via (by rfl) ?_) | (with_reducible refine stopO ?_) | (with_reducible refine stopE ?_) | (with_reducible refine stopD ?_) | (with_reducible refine stopW ?_) | (with_reducible refine stopG ?_) | (with_reducible refine stopC ?_) | (with_reducible refine stopR ?_)))
    all_goals (first | omega | exact Done'.mk rfl)
  | succ n =>
    obtain ⟨b, hb⟩ : ∃ b, l[n]? = some b := ⟨l[n], List.getElem?_eq_getElem (by omega)⟩
    repeat' (first | (with_reducible refine And.intro ?_ ?_) | ((with_reducible intro hc); (try simp only [leZ_eq, ltZ_eq, eqZ_eq, str_size, str_list, str_nil, List.toList_toArray, decide_eq_true_eq, decide_eq_false_iff_not, beq_iff_eq, bne_iff_ne, beq_eq_false_iff_ne, bne_eq_false_iff_eq, ne_eq, Bool.not_eq_true', Bool.not_eq_false', Bool.not_true, Bool.not_false, gt_iff_lt, ge_iff_le, Int.not_lt, Int.not_le, Decidable.not_not] at hc); (first | (exact absurd rfl hc) | (exact absurd trivial hc) | (exfalso; omega) | skip)) | ((conv => whnf); first | (with_reducible refine And.intro ?_ ?_) | (refine ifB_intro (fun hc => ?_) (fun hc => ?_) <;> (try simp only [leZ_eq, ltZ_eq, eqZ_eq, str_size, str_list, str_nil, List.toList_toArray, decide_eq_true_eq, decide_eq_false_iff_not, beq_iff_eq, bne_iff_ne, beq_eq_false_iff_ne, bne_eq_false_iff_eq, ne_eq, Bool.not_eq_true', Bool.not_eq_false', Bool.not_true, Bool.not_false, gt_iff_lt, ge_iff_le, Int.not_lt, Int.not_le, Decidable.not_not] at hc) <;> (first | (exact absurd rfl hc) | (exact absurd trivial hc) | (exfalso; omega) | skip)) | (refine GAr.i64 (by omega) ?_) | ((refine GAr.i64w ?_); intro kw hk1 hk2) | (refine GAr.u8s (by omega) ?_) | (refine GAr.u8 ?_) | (refine GAr.u64s (by omega) ?_) | (refine GAr.u32s (by omega) ?_) | (refine GAr.u64 ?_) | (refine GAr.u32 ?_) | (refine GQuo.i64 (by omega) ?_) | (refine GRem.pos (by omega) ?_) | (with_reducible refine stopA ?_) | (refine Exists.intro _ (And.intro (by (first | exact vat_of vagg_u8 (taken_at (n := n + 1) hb (by omega)) (mul1 rfl (by omega)) | rfl)) ?_)) | (refine GOp.via (by rfl) ?_) | (with_reducible refine stopO ?_) | (with_reducible refine stopE ?_) | (with_reducible refine stopD ?_) | (with_reducible refine stopW ?_) | (with_reducible refine stopG ?_) | (with_reducible refine stopC ?_) | (with_reducible refine stopR ?_)))
    all_goals (first | omega | skip)
    · have hb61 : b = 61 := beq_u8 hc
      subst hb61
      exact Done'.mk ⟨n, ⟨by omega, by rw [← hk, keepN_61 hb]⟩, by omega, rfl, rfl, (by repeat' (first | exact trivial | refine And.intro rfl ?_)), [], _, rfl, ⟨⟨_, rfl, RenV.eq (ro_take rfl (by omega) (by omega)) (nameless_roT _ _)⟩, trivial⟩, .nil⟩
    · rw [← hk, keepN_no hb (bne_u8 hc)]
      exact Done'.mk rfl
theorem trim_call (l : List UInt8) (H : Heap) (hl : l.length ≤ 1000) : VCall Tryd.prog 120 [roB l, strV [61]] H (fun x K => x = roT l (keepN l l.length) ∧ K = H) := by
  refine VCall.pure (by simp [nameless_roB, nameless_strV]) (nameless_roT _ _) ?_
  refine VCall.go Tryd.func120 rfl ?_
  repeat' (first | (with_reducible refine And.intro ?_ ?_) | ((with_reducible intro hc); (try simp only [leZ_eq, ltZ_eq, eqZ_eq, str_size, str_list, str_nil, List.toList_toArray, decide_eq_true_eq, decide_eq_false_iff_not, beq_iff_eq, bne_iff_ne, beq_eq_false_iff_ne, bne_eq_false_iff_eq, ne_eq, Bool.not_eq_true', Bool.not_eq_false', Bool.not_true, Bool.not_false, gt_iff_lt, ge_iff_le, Int.not_lt, Int.not_le, Decidable.not_not] at hc); (first | (exact absurd rfl hc) | (exact absurd trivial hc) | (exfalso; omega) | skip)) | ((conv => whnf); first | (with_reducible refine And.intro ?_ ?_) | (refine ifB_intro (fun hc => ?_) (fun hc => ?_) <;> (try simp only [leZ_eq, ltZ_eq, eqZ_eq, str_size, str_list, str_nil, List.toList_toArray, decide_eq_true_eq, decide_eq_false_iff_not, beq_iff_eq, bne_iff_ne, beq_eq_false_iff_ne, bne_eq_false_iff_eq, ne_eq, Bool.not_eq_true', Bool.not_eq_false', Bool.not_true, Bool.not_false, gt_iff_lt, ge_iff_le, Int.not_lt, Int.not_le, Decidable.not_not] at hc) <;> (first | (exact absurd rfl hc) | (exact absurd trivial hc) | (exfalso; omega) | skip)) | (refine GAr.i64 (by omega) ?_) | ((refine GAr.i64w ?_); intro kw hk1 hk2) | (refine GAr.u8s (by omega) ?_) | (refine GAr.u8 ?_) | (refine GAr.u64s (by omega) ?_) | (refine GAr.u32s (by omega) ?_) | (refine GAr.u64 ?_) | (refine GAr.u32 ?_) | (refine GQuo.i64 (by omega) ?_) | (refine GRem.pos (by omega) ?_) | (with_reducible refine stopA ?_) | (refine Exists.intro _ (And.intro (by rfl) ?_)) | (refine GOp.via (by rfl) ?_) | (with_reducible refine stopO ?_) | (with_reducible refine stopE ?_) | (with_reducible refine stopD ?_) | (with_reducible refine stopW ?_) | (with_reducible refine stopG ?_) | (refine GCall.mk ((trimByte_call l _ hl).mono ?_); rintro _ _ ⟨rfl, rfl⟩) | (with_reducible refine stopC ?_) | (with_reducible refine stopR ?_)))
  all_goals (first | omega | skip)
  · have : l = [] := List.eq_nil_of_length_eq_zero (by omega)
    subst this
    exact Done'.mk rfl
  · exact Done'.mk rfl
theorem idx_atZ : ∀ k : Fin 256, idxB sgnT (UInt8.ofNat k.val) = atZ (UInt8.ofNat k.val) 64 := by decide +kernel
theorem idx_sgn (c : UInt8) : idxB sgnT c = atZ c 64 := by
  have := idx_atZ ⟨c.toNat, c.toNat_lt⟩
  simpa using this
theorem xindex_call (l : List UInt8) (b : UInt8) (H : Heap) : VCall Tryd.prog 121 [roB l, bV b] H (fun x K => x = iV (idxB l b) ∧ K = H) := by
  refine VCall.go Tryd.func121 rfl ?_
  repeat' (first | (with_reducible refine And.intro ?_ ?_) | ((with_reducible intro hc); (try simp only [leZ_eq, ltZ_eq, eqZ_eq, str_size, str_list, str_nil, List.toList_toArray, decide_eq_true_eq, decide_eq_false_iff_not, beq_iff_eq, bne_iff_ne, beq_eq_false_iff_ne, bne_eq_false_iff_eq, ne_eq, Bool.not_eq_true', Bool.not_eq_false', Bool.not_true, Bool.not_false, gt_iff_lt, ge_iff_le, Int.not_lt, Int.not_le, Decidable.not_not] at hc); (first | (exact absurd rfl hc) | (exact absurd trivial hc) | (exfalso; omega) | skip)) | ((conv => whnf); first | (with_reducible refine And.intro ?_ ?_) | (refine ifB_intro (fun hc => ?_) (fun hc => ?_) <;> (try simp only [leZ_eq, ltZ_eq, eqZ_eq, str_size, str_list, str_nil, List.toList_toArray, decide_eq_true_eq, decide_eq_false_iff_not, beq_iff_eq, bne_iff_ne, beq_eq_false_iff_ne, bne_eq_false_iff_eq, ne_eq, Bool.not_eq_true', Bool.not_eq_false', Bool.not_true, Bool.not_false, gt_iff_lt, ge_iff_le, Int.not_lt, Int.not_le, Decidable.not_not] at hc) <;> (first | (exact absurd rfl hc) | (exact absurd trivial hc) | (exfalso; omega) | skip)) | (refine GAr.i64 (by omega) ?_) | ((refine GAr.i64w ?_); intro kw hk1 hk2) | (refine GAr.u8s (by omega) ?_) | (refine GAr.u8 ?_) | (refine GAr.u64s (by omega) ?_) | (refine GAr.u32s (by omega) ?_) | (refine GAr.u64 ?_) | (refine GAr.u32 ?_) | (refine GQuo.i64 (by omega) ?_) | (refine GRem.pos (by omega) ?_) | (with_reducible refine stopA ?_) | (refine Exists.intro _ (And.intro (by rfl) ?_)) | (refine GOp.via (by rfl) ?_) | (with_reducible refine stopO ?_) | (with_reducible refine stopE ?_) | (with_reducible refine stopD ?_) | (with_reducible refine stopW ?_) | (with_reducible refine stopG ?_) | (with_reducible refine stopC ?_) | (with_reducible refine stopR ?_)))
  refine GExt'.via (ext_index l b H) ?_
  repeat' (first | (with_reducible refine And.intro ?_ ?_) | ((with_reducible intro hc); (try simp only [leZ_eq, ltZ_eq, eqZ_eq, str_size, str_list, str_nil, List.toList_toArray, decide_eq_true_eq, decide_eq_false_iff_not, beq_iff_eq, bne_iff_ne, beq_eq_false_iff_ne, bne_eq_false_iff_eq, ne_eq, Bool.not_eq_true', Bool.not_eq_false', Bool.not_true, Bool.not_false, gt_iff_lt, ge_iff_le, Int.not_lt, Int.not_le, Decidable.not_not] at hc); (first | (exact absurd rfl hc) | (exact absurd trivial hc) | (exfalso; omega) | skip)) | ((conv => whnf); first | (with_reducible refine And.intro ?_ ?_) | (refine ifB_intro (fun hc => ?_) (fun hc => ?_) <;> (try simp only [leZ_eq, ltZ_eq, eqZ_eq, str_size, str_list, str_nil, List.toList_toArray, decide_eq_true_eq, decide_eq_false_iff_not, beq_iff_eq, bne_iff_ne, beq_eq_false_iff_ne, bne_eq_false_iff_eq, ne_eq, Bool.not_eq_true', Bool.not_eq_false', Bool.not_true, Bool.not_false, gt_iff_lt, ge_iff_le, Int.not_lt, Int.not_le, Decidable.not_not] at hc) <;> (first | (exact absurd rfl hc) | (exact absurd trivial hc) | (exfalso; omega) | skip)) | (refine GAr.i64 (by omega) ?_) | ((refine GAr.i64w ?_); intro kw hk1 hk2) | (refine GAr.u8s (by omega) ?_) | (refine GAr.u8 ?_) | (refine GAr.u64s (by omega) ?_) | (refine GAr.u32s (by omega) ?_) | (refine GAr.u64 ?_) | (refine GAr.u32 ?_) | (refine GQuo.i64 (by omega) ?_) | (refine GRem.pos (by omega) ?_) | (with_reducible refine stopA ?_) | (refine Exists.intro _ (And.intro (by rfl) ?_)) | (refine GOp.via (by rfl) ?_) | (with_reducible refine stopO ?_) | (with_reducible refine stopE ?_) | (with_reducible refine stopD ?_) | (with_reducible refine stopW ?_) | (with_reducible refine stopG ?_) | (with_reducible refine stopC ?_) | (with_reducible refine stopR ?_)))
  exact Done'.mk ⟨rfl, rfl⟩
def sgnI : List Int := [65, 66, 67, 68, 69, 70, 71, 72, 73, 74, 75, 76, 77, 78, 79, 80, 81, 82, 83, 84, 85, 86, 87, 88, 89, 90, 97, 98, 99, 100, 101, 102, 103, 104, 105, 106, 107, 108, 109, 110, 111, 112, 113, 114, 115, 116, 117, 118, 119, 120, 121, 122, 48, 49, 50, 51, 52, 53, 54, 55, 56, 57, 43, 47]
def sgnV : List VV := sgnI.map fun n => .sc (.int .u8 n)
theorem sgnV_eq : sgnV = sgnT.map bV := by kernel_rfl
theorem xindex_sgn {H : Heap} {b : Nat} {c : UInt8} {z : Int} (hz : atZ c 64 = z) (hg : H.get b = some (.cells true sgnV)) : VCall Tryd.prog 121 [.sl b 0 64 (some 64) 1, bV c] H (fun x K => x = iV z ∧ K = H) := by
  rw [← hz, ← idx_sgn]
  refine VCall.viewed (args' := [roB sgnT, bV c]) (Q := fun v K => v = iV (idxB sgnT c)) (.cons (view_by (d := sgnT) hg sgnV_eq rfl) (.cons (View.of (nameless_bV c)) .nil)) ((xindex_call sgnT c _).mono fun x K e => e.1) (fun v K e => by subst e; exact Frx.of (exact_sc _))
theorem qall_bad {h : Nat} {p : List UInt8} {i : Nat} {c : UInt8} (hc : p[i]? = some c) (hq : qok h i c = false) : ∀ n, i < n → qall h p n = false
  | 0, hn => by omega
  | n + 1, hn => by
    unfold qall
    by_cases e : i = n
    · subst e
      rw [hc]
      simp [hq]
    · rw [qall_bad hc hq n (by omega)]
      rfl
theorem qall_next {h : Nat} {p : List UInt8} {i : Nat} {c : UInt8} (hc : p[i]? = some c) (ha : qall h p i = true) (hq : qok h i c = true) : qall h p (i + 1) = true := by
  unfold qall
  rw [ha, hc]
  simp [hq]
theorem qn_next {p : List UInt8} {i : Nat} {c : UInt8} (hc : p[i]? = some c) : qn (p.take (i + 1)) = qn (p.take i) * 64 + sixN c := by
  rw [take_next hc]
  unfold qn
  rw [List.foldl_append]
  rfl
theorem or_shl6 {N s : Nat} (hN : N * 64 < 2 ^ 64) (hs : s < 64) {z : Int} (hz : z = (s : Int)) : bitZ .or .u64 (shlZ .u64 (N : Int) 6) z = ((N * 64 + s : Nat) : Int) := by
  subst hz
  have h1 := shl_u64 (a := N) (k := 6) (by omega) (by omega)
  have e1 : ((6 : Nat) : Int) = 6 := rfl
  rw [e1] at h1
  rw [h1, or_u64 (by omega) (by omega)]
  have h5 := Nat.shiftLeft_add_eq_or_of_lt (i := 6) (b := s) (by omega) N
  rw [Nat.shiftLeft_eq] at h5
  rw [← h5]
theorem max_six (c : UInt8) : maxZ (atZ c 64) 0 = (sixN c : Int) := by
  unfold maxZ sixN
  have := atZ_lt c 64
  split <;> omega
theorem qn_lt : ∀ (p : List UInt8), qn p < 64 ^ p.length := by
  have key : ∀ (p : List UInt8) (n m : Nat), n < m → p.foldl (fun n c => n * 64 + sixN c) n < m * 64 ^ p.length := by
    intro p
    induction p with
    | nil => intro n m h; simpa using h
    | cons c r ih =>
      intro n m h
      have := ih (n * 64 + sixN c) (m * 64) (by have := sixN_lt c; omega)
      simp only [List.foldl_cons, List.length_cons]
      rw [Nat.pow_succ, Nat.mul_comm (64 ^ r.length), ← Nat.mul_assoc]
      exact this
  intro p
  have := key p 0 1 (by omega)
  simpa [qn] using this
/-- What quad hands back. -/
def quadR (p : List UInt8) : VV := match quadP p with
  | some bs => .tp [roB bs, booV true]
  | none => .tp [.ro 0 [], booV false]
theorem quadR_none {p : List UInt8} (h : quadP p = none) : quadR p = .tp [.ro 0 [], booV false] := by unfold quadR; rw [h]
theorem quadR_some {p bs : List UInt8} (h : quadP p = some bs) : quadR p = .tp [roB bs, booV true] := by unfold quadR; rw [h]
theorem low_and {N k : Nat} (hk : k ≤ 32) (hN : N < 16777216) : bitZ .and .u64 (shlZ .u64 (N : Int) (k : Int)) 4294967295 = ((N * 2 ^ k % 4294967296 : Nat) : Int) := by
  have hp : 2 ^ k ≤ 2 ^ 32 := Nat.pow_le_pow_right (by omega) hk
  have hlt : N * 2 ^ k < 2 ^ 64 := Nat.lt_of_le_of_lt (Nat.mul_le_mul_left N hp) (by omega)
  rw [shl_u64 (by omega) hlt]
  have := and_u64 (a := N * 2 ^ k) (b := 4294967295) hlt (by omega)
  refine Eq.trans this ?_
  rw [show (4294967295 : Nat) = 2 ^ 32 - 1 by rfl, Nat.and_two_pow_sub_one_eq_mod]
theorem shr_byte {N : Nat} (k : Nat) (hk : k ≤ 64) : (shrZ .u64 (N : Int) (k : Int)) % 256 = ((UInt8.ofNat (N / 2 ^ k)).toNat : Int) := by
  rw [shr_u64 hk, ofNat_mod]
  omega
theorem quad_call (p : List UInt8) (H : Heap) (hp : p.length = 4) : VCall Tryd.prog 72 [roB p] H (fun x K => x = quadR p ∧ K = H) := by
  refine VCall.frozen (Q := fun v K => Frz K v (quadR p)) (by simp [nameless_roB]) ?_ (fun v K h => h)
  obtain ⟨h, hh⟩ : ∃ h, keepN p p.length = h := ⟨_, rfl⟩
  have hle : h ≤ 4 := by have := keepN_le p p.length; omega
  have hR : quadP p = quadH h p := by unfold quadP; rw [hh]
  refine VCall.go Tryd.func72 rfl ?_
  have ht := trim_call p (⟨[], 0⟩ : Heap) (by omega)
  rw [hh] at ht
  repeat' (first | (with_reducible refine And.intro ?_ ?_) | ((with_reducible intro hc); (try simp only [leZ_eq, ltZ_eq, eqZ_eq, str_size, str_list, str_nil, List.toList_toArray, decide_eq_true_eq, decide_eq_false_iff_not, beq_iff_eq, bne_iff_ne, beq_eq_false_iff_ne, bne_eq_false_iff_eq, ne_eq, Bool.not_eq_true', Bool.not_eq_false', Bool.not_true, Bool.not_false, gt_iff_lt, ge_iff_le, Int.not_lt, Int.not_le, Decidable.not_not] at hc); (first | (exact absurd rfl hc) | (exact absurd trivial hc) | (exfalso; omega) | skip)) | ((conv => whnf); first | (with_reducible refine And.intro ?_ ?_) | (refine ifB_intro (fun hc => ?_) (fun hc => ?_) <;> (try simp only [leZ_eq, ltZ_eq, eqZ_eq, str_size, str_list, str_nil, List.toList_toArray, decide_eq_true_eq, decide_eq_false_iff_not, beq_iff_eq, bne_iff_ne, beq_eq_false_iff_ne, bne_eq_false_iff_eq, ne_eq, Bool.not_eq_true', Bool.not_eq_false', Bool.not_true, Bool.not_false, gt_iff_lt, ge_iff_le, Int.not_lt, Int.not_le, Decidable.not_not] at hc) <;> (first | (exact absurd rfl hc) | (exact absurd trivial hc) | (exfalso; omega) | skip)) | (refine GAr.i64 (by omega) ?_) | ((refine GAr.i64w ?_); intro kw hk1 hk2) | (refine GAr.u8s (by omega) ?_) | (refine GAr.u8 ?_) | (refine GAr.u64s (by omega) ?_) | (refine GAr.u32s (by omega) ?_) | (refine GAr.u64 ?_) | (refine GAr.u32 ?_) | (refine GQuo.i64 (by omega) ?_) | (refine GRem.pos (by omega) ?_) | (with_reducible refine stopA ?_) | (refine Exists.intro _ (And.intro (by rfl) ?_)) | (refine GOp.via (by rfl) ?_) | (with_reducible refine stopO ?_) | (with_reducible refine stopE ?_) | (with_reducible refine stopD ?_) | (with_reducible refine stopW ?_) | (with_reducible refine stopG ?_) | (refine GCall.mk ((ht).mono ?_); rintro _ _ ⟨rfl, rfl⟩) | (with_reducible refine stopC ?_) | (with_reducible refine stopR ?_)))
  all_goals (first | omega | skip)
  (refine GWP'.mk (GWP.loopB [] (fun i => i ≤ 4 ∧ qall h p i = true) (fun i => [(5, .sc (.int .u64 (qn (p.take i) : Nat))), (15, iV i)]) (fun _ => []) 0 (fun i => 4 - i) 0 ⟨by omega, rfl⟩ ?_); (conv => whnf); refine And.intro ?_ ?_)
  · (refine KeptA.of [] rfl rfl (by repeat' (first | exact trivial | refine And.intro rfl ?_)) rfl ?fit ?ren; (case ren => (repeat' (first | exact trivial | (refine And.intro ?_ ?_) | (refine Exists.intro _ (And.intro rfl ?_)) | (refine RenO.opt ?_) | (refine RenO.toOpt ?_) | (refine RenO.cells ?_) | exact RenO.defs | exact RenL.nil | (refine RenL.cons ?_ ?_) | (first | exact RenV.eq rfl (nameless_sc _) | (with_reducible exact RenV.sc) | exact RenV.gsN | exact RenV.gsZ | (refine RenV.gsE (by (first | exact List.Mem.head _ | exact List.Mem.tail _ (List.Mem.head _) | exact List.Mem.tail _ (List.Mem.tail _ (List.Mem.head _)) | (simp; done))) ?_; (first | rfl | omega | (simp only [List.length_append, List.length_cons, List.length_nil, List.length_map, List.length_take, List.length_drop] <;> omega) | (simp only <;> omega) | (simp <;> omega))) | exact RenV.gsL (by decide) | exact RenV.slL (by decide) | (refine RenV.eq (scI_eq ?_) (nameless_sc _); (first | rfl | omega | (simp only [List.length_append, List.length_cons, List.length_nil, List.length_map, List.length_take, List.length_drop] <;> omega) | (simp only <;> omega) | (simp <;> omega))) | exact RenV.undef) | (with_unfolding_all exact (rfl : (_ : VObj) = _))))); (case fit => (repeat' (first | exact trivial | (refine And.intro ?_ ?_) | (refine Exists.intro _ (And.intro rfl ?_)) | (first | exact RenV.eq rfl (nameless_sc _) | (with_reducible exact RenV.sc) | exact RenV.gsN | exact RenV.gsZ | (refine RenV.gsE (by (first | exact List.Mem.head _ | exact List.Mem.tail _ (List.Mem.head _) | exact List.Mem.tail _ (List.Mem.tail _ (List.Mem.head _)) | (simp; done))) ?_; (first | rfl | omega | (simp only [List.length_append, List.length_cons, List.length_nil, List.length_map, List.length_take, List.length_drop] <;> omega) | (simp only <;> omega) | (simp <;> omega))) | exact RenV.gsL (by decide) | exact RenV.slL (by decide) | (refine RenV.eq (scI_eq ?_) (nameless_sc _); (first | rfl | omega | (simp only [List.length_append, List.length_cons, List.length_nil, List.length_map, List.length_take, List.length_drop] <;> omega) | (simp only <;> omega) | (simp <;> omega))) | exact RenV.undef)))))
  rintro i ⟨hi, hq⟩
  by_cases hi4 : i < 4
  · obtain ⟨c, hpc⟩ : ∃ c, p[i]? = some c := ⟨p[i], List.getElem?_eq_getElem (by omega)⟩
    have hm := max_six c
    have h6 := sixN_lt c
    have hqn := qn_next hpc
    have hql := qn_lt (p.take i)
    have hqp : 64 ^ (p.take i).length ≤ 64 ^ 3 := Nat.pow_le_pow_right (by omega) (by simp; omega)
    have hor := or_shl6 (N := qn (p.take i)) (s := sixN c) (by omega) h6 hm
    have hb : ∀ n, i < n → qok h i c = false → qall h p n = false := fun n h1 h2 => qall_bad hpc h2 n h1
    have hg : qok h i c = true → qall h p (i + 1) = true := qall_next hpc hq
    have hbad : qok h i c = false → quadR p = .tp [.ro 0 [], booV false] := fun e => quadR_none (by rw [hR]; unfold quadH; rw [if_pos (hb _ (by omega) e)])
    have hk1 : i < h → (qok h i c = decide (0 ≤ atZ c 64)) := fun e => by unfold qok; rw [if_pos e]
    have hk2 : ¬ i < h → (qok h i c = (c == 61)) := fun e => by unfold qok; rw [if_neg e]
    generalize qn (p.take i) = N at *
    generalize hz : atZ c 64 = z at *
    repeat' (first | (with_reducible refine And.intro ?_ ?_) | ((with_reducible intro hc); (try simp only [leZ_eq, ltZ_eq, eqZ_eq, str_size, str_list, str_nil, List.toList_toArray, decide_eq_true_eq, decide_eq_false_iff_not, beq_iff_eq, bne_iff_ne, beq_eq_false_iff_ne, bne_eq_false_iff_eq, ne_eq, Bool.not_eq_true', Bool.not_eq_false', Bool.not_true, Bool.not_false, gt_iff_lt, ge_iff_le, Int.not_lt, Int.not_le, Decidable.not_not] at hc); (first | (exact absurd rfl hc) | (exact absurd trivial hc) | (exfalso; omega) | skip)) | ((conv => whnf); first | (with_reducible refine And.intro ?_ ?_) | (refine ifB_intro (fun hc => ?_) (fun hc => ?_) <;> (try simp only [leZ_eq, ltZ_eq, eqZ_eq, str_size, str_list, str_nil, List.toList_toArray, decide_eq_true_eq, decide_eq_false_iff_not, beq_iff_eq, bne_iff_ne, beq_eq_false_iff_ne, bne_eq_false_iff_eq, ne_eq, Bool.not_eq_true', Bool.not_eq_false', Bool.not_true, Bool.not_false, gt_iff_lt, ge_iff_le, Int.not_lt, Int.not_le, Decidable.not_not] at hc) <;> (first | (exact absurd rfl hc) | (exact absurd trivial hc) | (exfalso; omega) | skip)) | (refine GAr.i64 (by omega) ?_) | ((refine GAr.i64w ?_); intro kw hk1 hk2) | (refine GAr.u8s (by omega) ?_) | (refine GAr.u8 ?_) | (refine GAr.u64s (by omega) ?_) | (refine GAr.u32s (by omega) ?_) | (refine GAr.u64 ?_) | (refine GAr.u32 ?_) | (refine GQuo.i64 (by omega) ?_) | (refine GRem.pos (by omega) ?_) | (with_reducible refine stopA ?_) | (refine Exists.intro _ (And.intro (by (first | exact vat_of vagg_u8 (map_at hpc) (mul1 rfl (by omega)) | rfl)) ?_)) | (refine GOp.via (v := .sl 0 0 64 (some 64) 1) (H' := ⟨[(0, .cells true sgnV)], 1⟩) (by kernel_rfl) ?_) | (refine GOp.via (by rfl) ?_) | (with_reducible refine stopO ?_) | (with_reducible refine stopE ?_) | (with_reducible refine stopD ?_) | (with_reducible refine stopW ?_) | (with_reducible refine stopG ?_) | (refine GCall.mk ((xindex_sgn (c := c) hz rfl).mono ?_); rintro _ _ ⟨rfl, rfl⟩) | (with_reducible refine stopC ?_) | (with_reducible refine stopR ?_)))
    all_goals (first | omega | skip)
    · refine Done'.mk ?_
      rw [hbad (by rw [hk1 (by omega)]; exact decide_eq_false (by omega))]
      exact Frz.tp (.cons Frz.nil0 (.cons (Frz.of (nameless_sc _)) .nil))
    · have hk : qok h i c = true := by rw [hk1 (by omega)]; exact decide_eq_true (by omega)
      (refine Done'.mk ⟨(i + 1), ⟨by omega, hg hk⟩, ?mu, KeptA.of [] rfl rfl (by repeat' (first | exact trivial | refine And.intro rfl ?_)) rfl ?fit ?ren⟩; (case mu => (first | omega | (simp only; omega))); (case ren => (repeat' (first | exact trivial | (refine And.intro ?_ ?_) | (refine Exists.intro _ (And.intro rfl ?_)) | (refine RenO.opt ?_) | (refine RenO.toOpt ?_) | (refine RenO.cells ?_) | exact RenO.defs | exact RenL.nil | (refine RenL.cons ?_ ?_) | (first | (refine RenV.eq (scI_eq ?_) (nameless_sc _); rw [hqn]; exact hor) | (with_reducible exact RenV.sc) | exact RenV.gsN | exact RenV.gsZ | (refine RenV.gsE (by (first | exact List.Mem.head _ | exact List.Mem.tail _ (List.Mem.head _) | exact List.Mem.tail _ (List.Mem.tail _ (List.Mem.head _)) | (simp; done))) ?_; (first | rfl | omega | (simp only [List.length_append, List.length_cons, List.length_nil, List.length_map, List.length_take, List.length_drop] <;> omega) | (simp only <;> omega) | (simp <;> omega))) | exact RenV.gsL (by decide) | exact RenV.slL (by decide) | (refine RenV.eq (scI_eq ?_) (nameless_sc _); (first | rfl | omega | (simp only [List.length_append, List.length_cons, List.length_nil, List.length_map, List.length_take, List.length_drop] <;> omega) | (simp only <;> omega) | (simp <;> omega))) | exact RenV.undef) | (with_unfolding_all exact (rfl : (_ : VObj) = _))))); (case fit => (repeat' (first | exact trivial | (refine And.intro ?_ ?_) | (refine Exists.intro _ (And.intro rfl ?_)) | (first | (refine RenV.eq (scI_eq ?_) (nameless_sc _); rw [hqn]; exact hor) | (with_reducible exact RenV.sc) | exact RenV.gsN | exact RenV.gsZ | (refine RenV.gsE (by (first | exact List.Mem.head _ | exact List.Mem.tail _ (List.Mem.head _) | exact List.Mem.tail _ (List.Mem.tail _ (List.Mem.head _)) | (simp; done))) ?_; (first | rfl | omega | (simp only [List.length_append, List.length_cons, List.length_nil, List.length_map, List.length_take, List.length_drop] <;> omega) | (simp only <;> omega) | (simp <;> omega))) | exact RenV.gsL (by decide) | exact RenV.slL (by decide) | (refine RenV.eq (scI_eq ?_) (nameless_sc _); (first | rfl | omega | (simp only [List.length_append, List.length_cons, List.length_nil, List.length_map, List.length_take, List.length_drop] <;> omega) | (simp only <;> omega) | (simp <;> omega))) | exact RenV.undef)))))
    · refine Done'.mk ?_
      rw [hbad (by rw [hk2 (by omega)]; simpa using bne_u8 hc)]
      exact Frz.tp (.cons Frz.nil0 (.cons (Frz.of (nameless_sc _)) .nil))
    · have hk : qok h i c = true := by rw [hk2 (by omega)]; simpa using beq_u8 hc
      (refine Done'.mk ⟨(i + 1), ⟨by omega, hg hk⟩, ?mu, KeptA.of [] rfl rfl (by repeat' (first | exact trivial | refine And.intro rfl ?_)) rfl ?fit ?ren⟩; (case mu => (first | omega | (simp only; omega))); (case ren => (repeat' (first | exact trivial | (refine And.intro ?_ ?_) | (refine Exists.intro _ (And.intro rfl ?_)) | (refine RenO.opt ?_) | (refine RenO.toOpt ?_) | (refine RenO.cells ?_) | exact RenO.defs | exact RenL.nil | (refine RenL.cons ?_ ?_) | (first | (refine RenV.eq (scI_eq ?_) (nameless_sc _); rw [hqn]; exact hor) | (with_reducible exact RenV.sc) | exact RenV.gsN | exact RenV.gsZ | (refine RenV.gsE (by (first | exact List.Mem.head _ | exact List.Mem.tail _ (List.Mem.head _) | exact List.Mem.tail _ (List.Mem.tail _ (List.Mem.head _)) | (simp; done))) ?_; (first | rfl | omega | (simp only [List.length_append, List.length_cons, List.length_nil, List.length_map, List.length_take, List.length_drop] <;> omega) | (simp only <;> omega) | (simp <;> omega))) | exact RenV.gsL (by decide) | exact RenV.slL (by decide) | (refine RenV.eq (scI_eq ?_) (nameless_sc _); (first | rfl | omega | (simp only [List.length_append, List.length_cons, List.length_nil, List.length_map, List.length_take, List.length_drop] <;> omega) | (simp only <;> omega) | (simp <;> omega))) | exact RenV.undef) | (with_unfolding_all exact (rfl : (_ : VObj) = _))))); (case fit => (repeat' (first | exact trivial | (refine And.intro ?_ ?_) | (refine Exists.intro _ (And.intro rfl ?_)) | (first | (refine RenV.eq (scI_eq ?_) (nameless_sc _); rw [hqn]; exact hor) | (with_reducible exact RenV.sc) | exact RenV.gsN | exact RenV.gsZ | (refine RenV.gsE (by (first | exact List.Mem.head _ | exact List.Mem.tail _ (List.Mem.head _) | exact List.Mem.tail _ (List.Mem.tail _ (List.Mem.head _)) | (simp; done))) ?_; (first | rfl | omega | (simp only [List.length_append, List.length_cons, List.length_nil, List.length_map, List.length_take, List.length_drop] <;> omega) | (simp only <;> omega) | (simp <;> omega))) | exact RenV.gsL (by decide) | exact RenV.slL (by decide) | (refine RenV.eq (scI_eq ?_) (nameless_sc _); (first | rfl | omega | (simp only [List.length_append, List.length_cons, List.length_nil, List.length_map, List.length_take, List.length_drop] <;> omega) | (simp only <;> omega) | (simp <;> omega))) | exact RenV.undef)))))
  · obtain rfl : i = 4 := by omega
    have hp4 : p.take 4 = p := List.take_of_length_le (by omega)
    rw [hp4]
    have hql := qn_lt p
    rw [hp] at hql
    have hq4 : qall h p p.length = true := by rw [hp]; exact hq
    have hs1 : shrZ .u64 ((qn p : Nat) : Int) 16 % 256 = ((UInt8.ofNat (qn p / 65536)).toNat : Int) := shr_byte (N := qn p) 16 (by omega)
    have hs2 : shrZ .u64 ((qn p : Nat) : Int) 8 % 256 = ((UInt8.ofNat (qn p / 256)).toNat : Int) := shr_byte (N := qn p) 8 (by omega)
    have hs3 : ((qn p : Nat) : Int) % 256 = ((UInt8.ofNat (qn p)).toNat : Int) := by rw [ofNat_mod]; omega
    have hcase : h < 2 ∨ h = 2 ∨ h = 3 ∨ h = 4 := by omega
    rcases hcase with h2 | h2 | h2 | h2
    · have hnone : quadR p = .tp [.ro 0 [], booV false] := quadR_none (by rw [hR]; unfold quadH; rw [if_neg (by simp [hq4]), if_pos h2])
      repeat' (first | (with_reducible refine And.intro ?_ ?_) | ((with_reducible intro hc); (try simp only [leZ_eq, ltZ_eq, eqZ_eq, str_size, str_list, str_nil, List.toList_toArray, decide_eq_true_eq, decide_eq_false_iff_not, beq_iff_eq, bne_iff_ne, beq_eq_false_iff_ne, bne_eq_false_iff_eq, ne_eq, Bool.not_eq_true', Bool.not_eq_false', Bool.not_true, Bool.not_false, gt_iff_lt, ge_iff_le, Int.not_lt, Int.not_le, Decidable.not_not] at hc); (first | (exact absurd rfl hc) | (exact absurd trivial hc) | (exfalso; omega) | skip)) | ((conv => whnf); first | (with_reducible refine And.intro ?_ ?_) | (refine ifB_intro (fun hc => ?_) (fun hc => ?_) <;> (try simp only [leZ_eq, ltZ_eq, eqZ_eq, str_size, str_list, str_nil, List.toList_toArray, decide_eq_true_eq, decide_eq_false_iff_not, beq_iff_eq, bne_iff_ne, beq_eq_false_iff_ne, bne_eq_false_iff_eq, ne_eq, Bool.not_eq_true', Bool.not_eq_false', Bool.not_true, Bool.not_false, gt_iff_lt, ge_iff_le, Int.not_lt, Int.not_le, Decidable.not_not] at hc) <;> (first | (exact absurd rfl hc) | (exact absurd trivial hc) | (exfalso; omega) | skip)) | (refine GAr.i64 (by omega) ?_) | ((refine GAr.i64w ?_); intro kw hk1 hk2) | (refine GAr.u8s (by omega) ?_) | (refine GAr.u8 ?_) | (refine GAr.u64s (by omega) ?_) | (refine GAr.u32s (by omega) ?_) | (refine GAr.u64 ?_) | (refine GAr.u32 ?_) | (refine GQuo.i64 (by omega) ?_) | (refine GRem.pos (by omega) ?_) | (with_reducible refine stopA ?_) | (refine Exists.intro _ (And.intro (by rfl) ?_)) | (refine GOp.via (by rfl) ?_) | (with_reducible refine stopO ?_) | (with_reducible refine stopE ?_) | (with_reducible refine stopD ?_) | (with_reducible refine stopW ?_) | (with_reducible refine stopG ?_) | (with_reducible refine stopC ?_) | (with_reducible refine stopR ?_)))
      all_goals (first | omega | skip)
      refine Done'.mk ?_
      rw [hnone]
      exact Frz.tp (.cons Frz.nil0 (.cons (Frz.of (nameless_sc _)) .nil))
    · subst h2
      have hl : bitZ .and .u64 (shlZ .u64 ((qn p : Nat) : Int) (8 * ((((2 : Nat) : Int)) - 1) + 8)) 4294967295 = ((qn p * 2 ^ 16 % 4294967296 : Nat) : Int) := low_and (N := qn p) (k := 16) (by omega) (by omega)
      have hb : quadP p = if qn p * 2 ^ 16 % 4294967296 ≠ 0 then none else some [UInt8.ofNat (qn p / 65536)] := by
        rw [hR]; unfold quadH; rw [if_neg (by simp [hq4]), if_neg (by omega)]; rfl
      generalize qn p = N at *
      repeat' (first | (with_reducible refine And.intro ?_ ?_) | ((with_reducible intro hc); (try simp only [leZ_eq, ltZ_eq, eqZ_eq, str_size, str_list, str_nil, List.toList_toArray, decide_eq_true_eq, decide_eq_false_iff_not, beq_iff_eq, bne_iff_ne, beq_eq_false_iff_ne, bne_eq_false_iff_eq, ne_eq, Bool.not_eq_true', Bool.not_eq_false', Bool.not_true, Bool.not_false, gt_iff_lt, ge_iff_le, Int.not_lt, Int.not_le, Decidable.not_not] at hc); (first | (exact absurd rfl hc) | (exact absurd trivial hc) | (exfalso; omega) | skip)) | ((conv => whnf); first | (with_reducible refine And.intro ?_ ?_) | (refine ifB_intro (fun hc => ?_) (fun hc => ?_) <;> (try simp only [leZ_eq, ltZ_eq, eqZ_eq, str_size, str_list, str_nil, List.toList_toArray, decide_eq_true_eq, decide_eq_false_iff_not, beq_iff_eq, bne_iff_ne, beq_eq_false_iff_ne, bne_eq_false_iff_eq, ne_eq, Bool.not_eq_true', Bool.not_eq_false', Bool.not_true, Bool.not_false, gt_iff_lt, ge_iff_le, Int.not_lt, Int.not_le, Decidable.not_not] at hc) <;> (first | (exact absurd rfl hc) | (exact absurd trivial hc) | (exfalso; omega) | skip)) | (refine GAr.i64 (by omega) ?_) | ((refine GAr.i64w ?_); intro kw hk1 hk2) | (refine GAr.u8s (by omega) ?_) | (refine GAr.u8 ?_) | (refine GAr.u64s (by omega) ?_) | (refine GAr.u32s (by omega) ?_) | (refine GAr.u64 ?_) | (refine GAr.u32 ?_) | (refine GQuo.i64 (by omega) ?_) | (refine GRem.pos (by omega) ?_) | (with_reducible refine stopA ?_) | (refine Exists.intro _ (And.intro (by rfl) ?_)) | (refine GOp.via (by rfl) ?_) | (with_reducible refine stopO ?_) | (with_reducible refine stopE ?_) | (with_reducible refine stopD ?_) | (with_reducible refine stopW ?_) | (with_reducible refine stopG ?_) | (with_reducible refine stopC ?_) | (with_reducible refine stopR ?_)))
      all_goals (first | omega | skip)
      · refine Done'.mk ?_
        show Frz _ (.tp [.sc (.slice none 0 0), booV false]) (quadR p)
        rw [quadR_none (by rw [hb, if_pos (by rw [hl] at hc; omega)])]
        exact Frz.tp (.cons Frz.nil0 (.cons (Frz.of (nameless_sc _)) .nil))
      · refine Done'.mk ?_
        show Frz ⟨[(0, .cells true [u8V (shrZ .u64 (N : Int) 16 % 256), u8V (shrZ .u64 (N : Int) 8 % 256), u8V ((N : Int) % 256)])], 1⟩ (.tp [.sl 0 0 1 (some 3) 1, booV true]) (quadR p)
        rw [quadR_some (by rw [hb, if_neg (by rw [hl] at hc; omega)]), hs1, hs2, hs3]
        exact Frz.tp (.cons (Frz.sl (vs := [bV (UInt8.ofNat (N / 65536)), bV (UInt8.ofNat (N / 256)), bV (UInt8.ofNat N)]) (o := 0) (n := 1) (z := 1) rfl (by simp) (nameless_map nameless_bV [UInt8.ofNat (N / 65536), UInt8.ofNat (N / 256), UInt8.ofNat N])) (.cons (Frz.of (nameless_sc _)) .nil))
    · subst h2
      have hl : bitZ .and .u64 (shlZ .u64 ((qn p : Nat) : Int) (8 * ((((3 : Nat) : Int)) - 1) + 8)) 4294967295 = ((qn p * 2 ^ 24 % 4294967296 : Nat) : Int) := low_and (N := qn p) (k := 24) (by omega) (by omega)
      have hb : quadP p = if qn p * 2 ^ 24 % 4294967296 ≠ 0 then none else some [UInt8.ofNat (qn p / 65536), UInt8.ofNat (qn p / 256)] := by
        rw [hR]; unfold quadH; rw [if_neg (by simp [hq4]), if_neg (by omega)]; rfl
      generalize qn p = N at *
      repeat' (first | (with_reducible refine And.intro ?_ ?_) | ((with_reducible intro hc); (try simp only [leZ_eq, ltZ_eq, eqZ_eq, str_size, str_list, str_nil, List.toList_toArray, decide_eq_true_eq, decide_eq_false_iff_not, beq_iff_eq, bne_iff_ne, beq_eq_false_iff_ne, bne_eq_false_iff_eq, ne_eq, Bool.not_eq_true', Bool.not_eq_false', Bool.not_true, Bool.not_false, gt_iff_lt, ge_iff_le, Int.not_lt, Int.not_le, Decidable.not_not] at hc); (first | (exact absurd rfl hc) | (exact absurd trivial hc) | (exfalso; omega) | skip)) | ((conv => whnf); first | (with_reducible refine And.intro ?_ ?_) | (refine ifB_intro (fun hc => ?_) (fun hc => ?_) <;> (try simp only [leZ_eq, ltZ_eq, eqZ_eq, str_size, str_list, str_nil, List.toList_toArray, decide_eq_true_eq, decide_eq_false_iff_not, beq_iff_eq, bne_iff_ne, beq_eq_false_iff_ne, bne_eq_false_iff_eq, ne_eq, Bool.not_eq_true', Bool.not_eq_false', Bool.not_true, Bool.not_false, gt_iff_lt, ge_iff_le, Int.not_lt, Int.not_le, Decidable.not_not] at hc) <;> (first | (exact absurd rfl hc) | (exact absurd trivial hc) | (exfalso; omega) | skip)) | (refine GAr.i64 (by omega) ?_) | ((refine GAr.i64w ?_); intro kw hk1 hk2) | (refine GAr.u8s (by omega) ?_) | (refine GAr.u8 ?_) | (refine GAr.u64s (by omega) ?_) | (refine GAr.u32s (by omega) ?_) | (refine GAr.u64 ?_) | (refine GAr.u32 ?_) | (refine GQuo.i64 (by omega) ?_) | (refine GRem.pos (by omega) ?_) | (with_reducible refine stopA ?_) | (refine Exists.intro _ (And.intro (by rfl) ?_)) | (refine GOp.via (by rfl) ?_) | (with_reducible refine stopO ?_) | (with_reducible refine stopE ?_) | (with_reducible refine stopD ?_) | (with_reducible refine stopW ?_) | (with_reducible refine stopG ?_) | (with_reducible refine stopC ?_) | (with_reducible refine stopR ?_)))
      all_goals (first | omega | skip)
      · refine Done'.mk ?_
        show Frz _ (.tp [.sc (.slice none 0 0), booV false]) (quadR p)
        rw [quadR_none (by rw [hb, if_pos (by rw [hl] at hc; omega)])]
        exact Frz.tp (.cons Frz.nil0 (.cons (Frz.of (nameless_sc _)) .nil))
      · refine Done'.mk ?_
        show Frz ⟨[(0, .cells true [u8V (shrZ .u64 (N : Int) 16 % 256), u8V (shrZ .u64 (N : Int) 8 % 256), u8V ((N : Int) % 256)])], 1⟩ (.tp [.sl 0 0 2 (some 3) 1, booV true]) (quadR p)
        rw [quadR_some (by rw [hb, if_neg (by rw [hl] at hc; omega)]), hs1, hs2, hs3]
        exact Frz.tp (.cons (Frz.sl (vs := [bV (UInt8.ofNat (N / 65536)), bV (UInt8.ofNat (N / 256)), bV (UInt8.ofNat N)]) (o := 0) (n := 2) (z := 1) rfl (by simp) (nameless_map nameless_bV [UInt8.ofNat (N / 65536), UInt8.ofNat (N / 256), UInt8.ofNat N])) (.cons (Frz.of (nameless_sc _)) .nil))
    · subst h2
      have hl : bitZ .and .u64 (shlZ .u64 ((qn p : Nat) : Int) (8 * ((((4 : Nat) : Int)) - 1) + 8)) 4294967295 = ((qn p * 2 ^ 32 % 4294967296 : Nat) : Int) := low_and (N := qn p) (k := 32) (by omega) (by omega)
      have hb : quadP p = if qn p * 2 ^ 32 % 4294967296 ≠ 0 then none else some [UInt8.ofNat (qn p / 65536), UInt8.ofNat (qn p / 256), UInt8.ofNat (qn p)] := by
        rw [hR]; unfold quadH; rw [if_neg (by simp [hq4]), if_neg (by omega)]; rfl
      generalize qn p = N at *
      repeat' (first | (with_reducible refine And.intro ?_ ?_) | ((with_reducible intro hc); (try simp only [leZ_eq, ltZ_eq, eqZ_eq, str_size, str_list, str_nil, List.toList_toArray, decide_eq_true_eq, decide_eq_false_iff_not, beq_iff_eq, bne_iff_ne, beq_eq_false_iff_ne, bne_eq_false_iff_eq, ne_eq, Bool.not_eq_true', Bool.not_eq_false', Bool.not_true, Bool.not_false, gt_iff_lt, ge_iff_le, Int.not_lt, Int.not_le, Decidable.not_not] at hc); (first | (exact absurd rfl hc) | (exact absurd trivial hc) | (exfalso; omega) | skip)) | ((conv => whnf); first | (with_reducible refine And.intro ?_ ?_) | (refine ifB_intro (fun hc => ?_) (fun hc => ?_) <;> (try simp only [leZ_eq, ltZ_eq, eqZ_eq, str_size, str_list, str_nil, List.toList_toArray, decide_eq_true_eq, decide_eq_false_iff_not, beq_iff_eq, bne_iff_ne, beq_eq_false_iff_ne, bne_eq_false_iff_eq, ne_eq, Bool.not_eq_true', Bool.not_eq_false', Bool.not_true, Bool.not_false, gt_iff_lt, ge_iff_le, Int.not_lt, Int.not_le, Decidable.not_not] at hc) <;> (first | (exact absurd rfl hc) | (exact absurd trivial hc) | (exfalso; omega) | skip)) | (refine GAr.i64 (by omega) ?_) | ((refine GAr.i64w ?_); intro kw hk1 hk2) | (refine GAr.u8s (by omega) ?_) | (refine GAr.u8 ?_) | (refine GAr.u64s (by omega) ?_) | (refine GAr.u32s (by omega) ?_) | (refine GAr.u64 ?_) | (refine GAr.u32 ?_) | (refine GQuo.i64 (by omega) ?_) | (refine GRem.pos (by omega) ?_) | (with_reducible refine stopA ?_) | (refine Exists.intro _ (And.intro (by rfl) ?_)) | (refine GOp.via (by rfl) ?_) | (with_reducible refine stopO ?_) | (with_reducible refine stopE ?_) | (with_reducible refine stopD ?_) | (with_reducible refine stopW ?_) | (with_reducible refine stopG ?_) | (with_reducible refine stopC ?_) | (with_reducible refine stopR ?_)))
      all_goals (first | omega | skip)
      · refine Done'.mk ?_
        show Frz ⟨[(0, .cells true [u8V (shrZ .u64 (N : Int) 16 % 256), u8V (shrZ .u64 (N : Int) 8 % 256), u8V ((N : Int) % 256)])], 1⟩ (.tp [.sl 0 0 3 (some 3) 1, booV true]) (quadR p)
        rw [quadR_some (by rw [hb, if_neg (by rw [hl] at hc; omega)]), hs1, hs2, hs3]
        exact Frz.tp (.cons (Frz.sl (vs := [bV (UInt8.ofNat (N / 65536)), bV (UInt8.ofNat (N / 256)), bV (UInt8.ofNat N)]) (o := 0) (n := 3) (z := 1) rfl (by simp) (nameless_map nameless_bV [UInt8.ofNat (N / 65536), UInt8.ofNat (N / 256), UInt8.ofNat N])) (.cons (Frz.of (nameless_sc _)) .nil))
end Go.Proofs.YtdgohabgjgdfeaaDoor
