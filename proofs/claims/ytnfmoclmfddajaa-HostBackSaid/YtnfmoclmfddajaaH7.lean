/- The statement HostLong, walked. -/
import Derived.Test.YtnfmoclmfddajaaH6
namespace Go.Proofs.Ytnfmoclmfddajaa
open Go Go.RowKit
set_option linter.unusedSimpArgs false
set_option linter.unusedVariables false
set_option maxRecDepth 100000
set_option maxHeartbeats 4000000
/-- Bytes in a slice whose rows lie in block nm; none: nil. -/
def byV (nm : Nat) : List UInt8 → VV
  | [] => .sc (.slice none 0 0)
  | a :: r => .sl nm 0 (r.length + 1) none 1
def byO (nm : Nat) : List UInt8 → List (Nat × VObj)
  | [] => []
  | a :: r => [(nm, .cells true (bV a :: r.map bV))]
theorem bytes_nameless (d : UInt8) (l : List UInt8) : ∀ v ∈ bV d :: l.map bV, Nameless v := nameless_map nameless_bV (d :: l)
theorem grow_by (d : UInt8) (l : List UInt8) (x : UInt8) {v : VV} (hv : v = bV x) : (bV d :: l.map bV).take ((l.length + 1) * 1) ++ [v] = bV d :: (l ++ [x]).map bV := by
  subst hv
  rw [List.take_of_length_le (by simp)]
  simp
theorem parseE_call (l : List UInt8) (H : Heap) {b n : Nat} {vs : List VV} (hg : H.get b = some (.cells true vs)) (hv : vs = l.map bV) (hn : n = l.length) (hl : l.length ≤ 100000) : VCall Try.prog 19 [.sl b 0 n none 1] H (fun x K => x = .tp [.junk, errV (hCode l)] ∧ K = H) := by
  subst hv hn
  refine VCall.viewed (args' := [roB l]) (Q := fun v K => v = .tp [.junk, errV (hCode l)]) (.cons ?_ .nil) ?_ (fun v K e => ?_)
  · have := View.sl (H := H) (b := b) (o := 0) (n := l.length) (z := 1) (c := none) hg (by simp) (nameless_map nameless_bV l)
    rw [List.drop_zero, Nat.mul_one, List.take_of_length_le (by simp)] at this
    unfold roB
    exact this
  · refine VCall.post (parse_call l ⟨[], 0⟩ hl) ?_
    rintro v K ⟨rfl, rfl⟩
    refine ⟨_, _, rfl, fun w Z ρ y h => ?_, Nat.le_refl _, fun _ _ h => h⟩
    cases h with
    | @tp _ cs h1 r1 =>
      refine .tp h1 fun i u c hu hc => ?_
      match i, hu with
      | 0, hu => injection hu with hu; subst hu; exact .junk
      | 1, hu => exact r1 1 u c hu hc
  · subst e
    refine Frx.of (exact_tp ?_)
    simp only [List.mem_cons, List.not_mem_nil, or_false, forall_eq_or_imp, forall_eq]
    exact ⟨fun w w' Z Z' ρ ρ' y h => .junk, exact_sc _⟩
theorem beq_dec {x : Int} {p : Prop} [Decidable p] : ((x == 0) = decide p) ↔ (x = 0 ↔ p) := by
  rw [Bool.eq_iff_iff, beq_iff_eq, decide_eq_true_eq]
theorem hostLong_walk (n0 n1 : Int) (b : UInt8) (h0 : -9223372036854775808 ≤ n0 ∧ n0 ≤ 9223372036854775807) (h1 : -9223372036854775808 ≤ n1 ∧ n1 ≤ 9223372036854775807) : VCall Try.prog 4 [iV n0, iV n1, bV b] ⟨[], 0⟩ (fun x _ => x = .sc (.bool true)) := by
  obtain ⟨np, hnp⟩ : ∃ np : Nat, ((np : Int)) = 1 + n0 % 18446744073709551616 % 10 := ⟨(1 + n0 % 18446744073709551616 % 10).toNat, by omega⟩
  obtain ⟨ns, hns⟩ : ∃ ns : Nat, ((ns : Int)) = 1 + n1 % 18446744073709551616 % 66 := ⟨(1 + n1 % 18446744073709551616 % 66).toNat, by omega⟩
  have hp1 : 1 ≤ np ∧ np ≤ 10 := by omega
  have hs1 : 1 ≤ ns ∧ ns ≤ 66 := by omega
  have hb := u8_lt b
  obtain ⟨x, hx⟩ : ∃ x : UInt8, (x.toNat : Int) = 97 + (b.toNat : Int) % 26 := ⟨UInt8.ofNat (97 + b.toNat % 26), by simp only [UInt8.toNat_ofNat']; omega⟩
  have hxV : VV.sc (.int .u8 (97 + (b.toNat : Int) % 26)) = bV x := by rw [← hx]; rfl
  refine VCall.go Try.func4 rfl ?_
  repeat' (first | (with_reducible refine And.intro ?_ ?_) | ((with_reducible intro hc); (try simp only [str_size, str_list, str_nil, decide_eq_true_eq, decide_eq_false_iff_not, beq_iff_eq, bne_iff_ne, beq_eq_false_iff_ne, bne_eq_false_iff_eq, ne_eq, Bool.not_eq_true', Bool.not_eq_false', Bool.not_true, Bool.not_false, gt_iff_lt, ge_iff_le, Int.not_lt, Int.not_le, Decidable.not_not] at hc); (first | (exact absurd rfl hc) | (exact absurd trivial hc) | (exfalso; omega) | skip)) | ((conv => whnf); first | (with_reducible refine And.intro ?_ ?_) | (refine ifB_intro (fun hc => ?_) (fun hc => ?_) <;> (try simp only [str_size, str_list, str_nil, decide_eq_true_eq, decide_eq_false_iff_not, beq_iff_eq, bne_iff_ne, beq_eq_false_iff_ne, bne_eq_false_iff_eq, ne_eq, Bool.not_eq_true', Bool.not_eq_false', Bool.not_true, Bool.not_false, gt_iff_lt, ge_iff_le, Int.not_lt, Int.not_le, Decidable.not_not] at hc) <;> (first | (exact absurd rfl hc) | (exact absurd trivial hc) | (exfalso; omega) | skip)) | (refine GAr.i64 (by omega) ?_) | ((refine GAr.i64w ?_); intro kw hk1 hk2) | (refine GAr.u8s (by omega) ?_) | (refine GAr.u8 ?_) | (refine GAr.u64s (by omega) ?_) | (refine GAr.u32s (by omega) ?_) | (refine GAr.u64 ?_) | (refine GAr.u32 ?_) | (refine GQuo.i64 (by omega) ?_) | (refine GRem.pos (by omega) ?_) | (with_reducible refine stopA ?_) | (refine Exists.intro _ (And.intro (by rfl) ?_)) | (refine GOp.via (by rfl) ?_) | (with_reducible refine stopO ?_) | (with_reducible refine stopE ?_) | (with_reducible refine stopD ?_) | (with_reducible refine stopW ?_) | (refine GCall.mk ((lives04_call _).mono ?_); rintro _ _ ⟨rfl, rfl⟩) | (with_reducible refine stopC ?_) | (with_reducible refine stopR ?_)))
  all_goals (first | omega | exact Done'.mk rfl | skip)
  refine GWP'.mk (GWP.loopA (α := Nat) [7, 8, 24, 25, 26, 27, 28, 29, 30, 31, 32, 33, 34, 35, 36, 37, 38, 39, 40, 41, 42] [] (fun i => i ≤ np) (fun i => [(7, byV 0 (tHost x ns i)), (24, iV i)]) (fun i => byO 0 (tHost x ns i)) 1 (fun i => np - i) 0 (Nat.zero_le _) ⟨rfl, rfl, (by repeat' (first | exact trivial | refine And.intro rfl ?_)), [], _, rfl, ⟨⟨_, rfl, .sc⟩, ⟨_, rfl, .sc⟩, trivial⟩, .nil⟩ ?_)
  rintro i hi
  have hlen : ∀ k, (tHost x ns (k + 1)).length = (k + 1) * ns + k := tHost_len x ns
  have hmul : ∀ k : Nat, k ≤ 10 → k * ns ≤ 660 := fun k hk => Nat.le_trans (Nat.mul_le_mul hk hs1.2) (by decide)
  by_cases hil : i < np
  · cases i with
    | zero =>
      repeat' (first | (with_reducible refine And.intro ?_ ?_) | ((with_reducible intro hc); (try simp only [str_size, str_list, str_nil, decide_eq_true_eq, decide_eq_false_iff_not, beq_iff_eq, bne_iff_ne, beq_eq_false_iff_ne, bne_eq_false_iff_eq, ne_eq, Bool.not_eq_true', Bool.not_eq_false', Bool.not_true, Bool.not_false, gt_iff_lt, ge_iff_le, Int.not_lt, Int.not_le, Decidable.not_not] at hc); (first | (exact absurd rfl hc) | (exact absurd trivial hc) | (exfalso; omega) | skip)) | ((conv => whnf); first | (with_reducible refine And.intro ?_ ?_) | (refine ifB_intro (fun hc => ?_) (fun hc => ?_) <;> (try simp only [str_size, str_list, str_nil, decide_eq_true_eq, decide_eq_false_iff_not, beq_iff_eq, bne_iff_ne, beq_eq_false_iff_ne, bne_eq_false_iff_eq, ne_eq, Bool.not_eq_true', Bool.not_eq_false', Bool.not_true, Bool.not_false, gt_iff_lt, ge_iff_le, Int.not_lt, Int.not_le, Decidable.not_not] at hc) <;> (first | (exact absurd rfl hc) | (exact absurd trivial hc) | (exfalso; omega) | skip)) | (refine GAr.i64 (by omega) ?_) | ((refine GAr.i64w ?_); intro kw hk1 hk2) | (refine GAr.u8s (by omega) ?_) | (refine GAr.u8 ?_) | (refine GAr.u64s (by omega) ?_) | (refine GAr.u32s (by omega) ?_) | (refine GAr.u64 ?_) | (refine GAr.u32 ?_) | (refine GQuo.i64 (by omega) ?_) | (refine GRem.pos (by omega) ?_) | (with_reducible refine stopA ?_) | (refine Exists.intro _ (And.intro (by rfl) ?_)) | (refine GOp.via (by rfl) ?_) | (with_reducible refine stopO ?_) | (with_reducible refine stopE ?_) | (with_reducible refine stopD ?_) | (with_reducible refine stopW ?_) | (with_reducible refine stopC ?_) | (with_reducible refine stopR ?_)))
      all_goals (first | omega | skip)
      refine GWP'.mk (GWP.loopA (α := Nat) [7, 33, 34, 35, 36, 37, 38, 39, 40, 41] [] (fun j => j ≤ ns) (fun j => [(7, byV 1 (List.replicate j x)), (33, iV j)]) (fun j => byO 1 (List.replicate j x)) 2 (fun j => ns - j) 0 (Nat.zero_le _) ⟨rfl, rfl, (by repeat' (first | exact trivial | refine And.intro rfl ?_)), [], _, rfl, ⟨⟨_, rfl, .sc⟩, ⟨_, rfl, .sc⟩, trivial⟩, .nil⟩ ?_)
      rintro j hj
      by_cases hjl : j < ns
      · cases j with
        | zero =>
          repeat' (first | (with_reducible refine And.intro ?_ ?_) | ((with_reducible intro hc); (try simp only [str_size, str_list, str_nil, decide_eq_true_eq, decide_eq_false_iff_not, beq_iff_eq, bne_iff_ne, beq_eq_false_iff_ne, bne_eq_false_iff_eq, ne_eq, Bool.not_eq_true', Bool.not_eq_false', Bool.not_true, Bool.not_false, gt_iff_lt, ge_iff_le, Int.not_lt, Int.not_le, Decidable.not_not] at hc); (first | (exact absurd rfl hc) | (exact absurd trivial hc) | (exfalso; omega) | skip)) | ((conv => whnf); first | (with_reducible refine And.intro ?_ ?_) | (refine ifB_intro (fun hc => ?_) (fun hc => ?_) <;> (try simp only [str_size, str_list, str_nil, decide_eq_true_eq, decide_eq_false_iff_not, beq_iff_eq, bne_iff_ne, beq_eq_false_iff_ne, bne_eq_false_iff_eq, ne_eq, Bool.not_eq_true', Bool.not_eq_false', Bool.not_true, Bool.not_false, gt_iff_lt, ge_iff_le, Int.not_lt, Int.not_le, Decidable.not_not] at hc) <;> (first | (exact absurd rfl hc) | (exact absurd trivial hc) | (exfalso; omega) | skip)) | (refine GAr.i64 (by omega) ?_) | ((refine GAr.i64w ?_); intro kw hk1 hk2) | (refine GAr.u8s (by omega) ?_) | (refine GAr.u8 ?_) | (refine GAr.u64s (by omega) ?_) | (refine GAr.u32s (by omega) ?_) | (refine GAr.u64 ?_) | (refine GAr.u32 ?_) | (refine GQuo.i64 (by omega) ?_) | (refine GRem.pos (by omega) ?_) | (with_reducible refine stopA ?_) | (refine Exists.intro _ (And.intro (by rfl) ?_)) | (refine GOp.via (by rfl) ?_) | (with_reducible refine stopO ?_) | (with_reducible refine stopE ?_) | (with_reducible refine stopD ?_) | (with_reducible refine stopW ?_) | (with_reducible refine stopC ?_) | (with_reducible refine stopR ?_)))
          all_goals (first | omega | skip)
          refine Done'.mk ⟨1, by omega, by omega, rfl, rfl, (by repeat' (first | exact trivial | refine And.intro rfl ?_)), [(3, 1)], _, rfl, ⟨⟨_, rfl, .sl (List.Mem.head _)⟩, ⟨_, rfl, RenV.eq rfl (nameless_sc _)⟩, trivial⟩, .cons rfl rfl (.cells (.cons (.eq hxV (nameless_sc _)) .nil)) .nil⟩
        | succ j =>
          repeat' (first | (with_reducible refine And.intro ?_ ?_) | ((with_reducible intro hc); (try simp only [str_size, str_list, str_nil, decide_eq_true_eq, decide_eq_false_iff_not, beq_iff_eq, bne_iff_ne, beq_eq_false_iff_ne, bne_eq_false_iff_eq, ne_eq, Bool.not_eq_true', Bool.not_eq_false', Bool.not_true, Bool.not_false, gt_iff_lt, ge_iff_le, Int.not_lt, Int.not_le, Decidable.not_not] at hc); (first | (exact absurd rfl hc) | (exact absurd trivial hc) | (exfalso; omega) | skip)) | ((conv => whnf); first | (with_reducible refine And.intro ?_ ?_) | (refine ifB_intro (fun hc => ?_) (fun hc => ?_) <;> (try simp only [str_size, str_list, str_nil, decide_eq_true_eq, decide_eq_false_iff_not, beq_iff_eq, bne_iff_ne, beq_eq_false_iff_ne, bne_eq_false_iff_eq, ne_eq, Bool.not_eq_true', Bool.not_eq_false', Bool.not_true, Bool.not_false, gt_iff_lt, ge_iff_le, Int.not_lt, Int.not_le, Decidable.not_not] at hc) <;> (first | (exact absurd rfl hc) | (exact absurd trivial hc) | (exfalso; omega) | skip)) | (refine GAr.i64 (by omega) ?_) | ((refine GAr.i64w ?_); intro kw hk1 hk2) | (refine GAr.u8s (by omega) ?_) | (refine GAr.u8 ?_) | (refine GAr.u64s (by omega) ?_) | (refine GAr.u32s (by omega) ?_) | (refine GAr.u64 ?_) | (refine GAr.u32 ?_) | (refine GQuo.i64 (by omega) ?_) | (refine GRem.pos (by omega) ?_) | (with_reducible refine stopA ?_) | (refine Exists.intro _ (And.intro (by rfl) ?_)) | (refine GOp.via (by rfl) ?_) | (with_reducible refine stopO ?_) | (with_reducible refine stopE ?_) | (with_reducible refine stopD ?_) | (with_reducible refine stopW ?_) | (with_reducible refine stopC ?_) | (with_reducible refine stopR ?_)))
          all_goals (first | omega | skip)
          apply GOp'.via
          case h => refine vop_append rfl (vapp_grow sty_b (d := .slice 5) Try.underlying22 (by intro k h; cases h) (b := 1) (n := (List.replicate j x).length + 1) (m := 1) (l := [.sc (.int .u8 (97 + (b.toNat : Int) % 26))]) (vs := bV x :: (List.replicate j x).map bV) (by rfl) (by rfl) (by omega) (by rfl) (by simp) (by rw [List.length_replicate]; omega) (by rw [List.length_replicate]; omega))
          repeat' (first | (with_reducible refine And.intro ?_ ?_) | ((with_reducible intro hc); (try simp only [str_size, str_list, str_nil, decide_eq_true_eq, decide_eq_false_iff_not, beq_iff_eq, bne_iff_ne, beq_eq_false_iff_ne, bne_eq_false_iff_eq, ne_eq, Bool.not_eq_true', Bool.not_eq_false', Bool.not_true, Bool.not_false, gt_iff_lt, ge_iff_le, Int.not_lt, Int.not_le, Decidable.not_not] at hc); (first | (exact absurd rfl hc) | (exact absurd trivial hc) | (exfalso; omega) | skip)) | ((conv => whnf); first | (with_reducible refine And.intro ?_ ?_) | (refine ifB_intro (fun hc => ?_) (fun hc => ?_) <;> (try simp only [str_size, str_list, str_nil, decide_eq_true_eq, decide_eq_false_iff_not, beq_iff_eq, bne_iff_ne, beq_eq_false_iff_ne, bne_eq_false_iff_eq, ne_eq, Bool.not_eq_true', Bool.not_eq_false', Bool.not_true, Bool.not_false, gt_iff_lt, ge_iff_le, Int.not_lt, Int.not_le, Decidable.not_not] at hc) <;> (first | (exact absurd rfl hc) | (exact absurd trivial hc) | (exfalso; omega) | skip)) | (refine GAr.i64 (by omega) ?_) | ((refine GAr.i64w ?_); intro kw hk1 hk2) | (refine GAr.u8s (by omega) ?_) | (refine GAr.u8 ?_) | (refine GAr.u64s (by omega) ?_) | (refine GAr.u32s (by omega) ?_) | (refine GAr.u64 ?_) | (refine GAr.u32 ?_) | (refine GQuo.i64 (by omega) ?_) | (refine GRem.pos (by omega) ?_) | (with_reducible refine stopA ?_) | (refine Exists.intro _ (And.intro (by first | rfl) ?_)) | (refine GOp.via (by rfl) ?_) | (with_reducible refine stopO ?_) | (with_reducible refine stopE ?_) | (with_reducible refine stopD ?_) | (with_reducible refine stopW ?_) | (with_reducible refine stopC ?_) | (with_reducible refine stopR ?_)))
          refine Done'.mk ⟨j + 1 + 1, by omega, by omega, rfl, rfl, (by repeat' (first | exact trivial | refine And.intro rfl ?_)), [(3, 1)], _, rfl, ⟨⟨_, rfl, .slE (List.Mem.head _) (by simp)⟩, ⟨_, rfl, RenV.eq rfl (nameless_sc _)⟩, trivial⟩, .cons rfl rfl (.cells (RenL.eq ((grow_by x (List.replicate j x) x hxV).trans ?_) (bytes_nameless _ _))) .nil⟩
          rw [← List.replicate_succ']
      · have hj : j = ns := by omega
        subst hj
        cases j with
        | zero => omega
        | succ j =>
          repeat' (first | (with_reducible refine And.intro ?_ ?_) | ((with_reducible intro hc); (try simp only [str_size, str_list, str_nil, decide_eq_true_eq, decide_eq_false_iff_not, beq_iff_eq, bne_iff_ne, beq_eq_false_iff_ne, bne_eq_false_iff_eq, ne_eq, Bool.not_eq_true', Bool.not_eq_false', Bool.not_true, Bool.not_false, gt_iff_lt, ge_iff_le, Int.not_lt, Int.not_le, Decidable.not_not] at hc); (first | (exact absurd rfl hc) | (exact absurd trivial hc) | (exfalso; omega) | skip)) | ((conv => whnf); first | (with_reducible refine And.intro ?_ ?_) | (refine ifB_intro (fun hc => ?_) (fun hc => ?_) <;> (try simp only [str_size, str_list, str_nil, decide_eq_true_eq, decide_eq_false_iff_not, beq_iff_eq, bne_iff_ne, beq_eq_false_iff_ne, bne_eq_false_iff_eq, ne_eq, Bool.not_eq_true', Bool.not_eq_false', Bool.not_true, Bool.not_false, gt_iff_lt, ge_iff_le, Int.not_lt, Int.not_le, Decidable.not_not] at hc) <;> (first | (exact absurd rfl hc) | (exact absurd trivial hc) | (exfalso; omega) | skip)) | (refine GAr.i64 (by omega) ?_) | ((refine GAr.i64w ?_); intro kw hk1 hk2) | (refine GAr.u8s (by omega) ?_) | (refine GAr.u8 ?_) | (refine GAr.u64s (by omega) ?_) | (refine GAr.u32s (by omega) ?_) | (refine GAr.u64 ?_) | (refine GAr.u32 ?_) | (refine GQuo.i64 (by omega) ?_) | (refine GRem.pos (by omega) ?_) | (with_reducible refine stopA ?_) | (refine Exists.intro _ (And.intro (by rfl) ?_)) | (refine GOp.via (by rfl) ?_) | (with_reducible refine stopO ?_) | (with_reducible refine stopE ?_) | (with_reducible refine stopD ?_) | (with_reducible refine stopW ?_) | (with_reducible refine stopC ?_) | (with_reducible refine stopR ?_)))
          all_goals (first | omega | skip)
          refine Done'.mk ⟨1, by omega, by omega, rfl, rfl, (by repeat' (first | exact trivial | refine And.intro rfl ?_)), [(1, 0)], _, rfl, ⟨⟨_, rfl, .sl (List.Mem.head _)⟩, ⟨_, rfl, RenV.eq rfl (nameless_sc _)⟩, trivial⟩, .cons rfl rfl (.cells (RenL.of (bytes_nameless x (List.replicate j x)))) .nil⟩
    | succ i =>
      have hT : ∃ a r, tHost x ns (i + 1) = a :: r := by
        have h := hlen i
        cases ht : tHost x ns (i + 1) with
        | nil => rw [ht] at h; simp only [List.length_nil] at h; have := hmul (i + 1) (by omega); have : 0 < (i + 1) * ns := Nat.mul_pos (by omega) (by omega); omega
        | cons a r => exact ⟨a, r, rfl⟩
      obtain ⟨a, r, hT⟩ := hT
      have hlr : r.length + 1 ≤ 1000 := by
        have h := hlen i
        have := hmul (i + 1) (by omega)
        rw [hT, List.length_cons] at h
        omega
      have hnext : tHost x ns (i + 1 + 1) = a :: (r ++ [46] ++ List.replicate ns x) := by
        rw [tHost_succ, hT]
        simp [sepB]
      rw [hT]
      repeat' (first | (with_reducible refine And.intro ?_ ?_) | ((with_reducible intro hc); (try simp only [str_size, str_list, str_nil, decide_eq_true_eq, decide_eq_false_iff_not, beq_iff_eq, bne_iff_ne, beq_eq_false_iff_ne, bne_eq_false_iff_eq, ne_eq, Bool.not_eq_true', Bool.not_eq_false', Bool.not_true, Bool.not_false, gt_iff_lt, ge_iff_le, Int.not_lt, Int.not_le, Decidable.not_not] at hc); (first | (exact absurd rfl hc) | (exact absurd trivial hc) | (exfalso; omega) | skip)) | ((conv => whnf); first | (with_reducible refine And.intro ?_ ?_) | (refine ifB_intro (fun hc => ?_) (fun hc => ?_) <;> (try simp only [str_size, str_list, str_nil, decide_eq_true_eq, decide_eq_false_iff_not, beq_iff_eq, bne_iff_ne, beq_eq_false_iff_ne, bne_eq_false_iff_eq, ne_eq, Bool.not_eq_true', Bool.not_eq_false', Bool.not_true, Bool.not_false, gt_iff_lt, ge_iff_le, Int.not_lt, Int.not_le, Decidable.not_not] at hc) <;> (first | (exact absurd rfl hc) | (exact absurd trivial hc) | (exfalso; omega) | skip)) | (refine GAr.i64 (by omega) ?_) | ((refine GAr.i64w ?_); intro kw hk1 hk2) | (refine GAr.u8s (by omega) ?_) | (refine GAr.u8 ?_) | (refine GAr.u64s (by omega) ?_) | (refine GAr.u32s (by omega) ?_) | (refine GAr.u64 ?_) | (refine GAr.u32 ?_) | (refine GQuo.i64 (by omega) ?_) | (refine GRem.pos (by omega) ?_) | (with_reducible refine stopA ?_) | (refine Exists.intro _ (And.intro (by rfl) ?_)) | (refine GOp.via (by rfl) ?_) | (with_reducible refine stopO ?_) | (with_reducible refine stopE ?_) | (with_reducible refine stopD ?_) | (with_reducible refine stopW ?_) | (with_reducible refine stopC ?_) | (with_reducible refine stopR ?_)))
      all_goals (first | omega | skip)
      apply GOp'.via
      case h => refine vop_append rfl (vapp_grow sty_b (d := .slice 5) Try.underlying22 (by intro k h; cases h) (b := 0) (n := r.length + 1) (m := 1) (l := [.sc (.int .u8 46)]) (vs := bV a :: r.map bV) (by rfl) (by rfl) (by omega) (by rfl) (by simp) (by omega) (by omega))
      repeat' (first | (with_reducible refine And.intro ?_ ?_) | ((with_reducible intro hc); (try simp only [str_size, str_list, str_nil, decide_eq_true_eq, decide_eq_false_iff_not, beq_iff_eq, bne_iff_ne, beq_eq_false_iff_ne, bne_eq_false_iff_eq, ne_eq, Bool.not_eq_true', Bool.not_eq_false', Bool.not_true, Bool.not_false, gt_iff_lt, ge_iff_le, Int.not_lt, Int.not_le, Decidable.not_not] at hc); (first | (exact absurd rfl hc) | (exact absurd trivial hc) | (exfalso; omega) | skip)) | ((conv => whnf); first | (with_reducible refine And.intro ?_ ?_) | (refine ifB_intro (fun hc => ?_) (fun hc => ?_) <;> (try simp only [str_size, str_list, str_nil, decide_eq_true_eq, decide_eq_false_iff_not, beq_iff_eq, bne_iff_ne, beq_eq_false_iff_ne, bne_eq_false_iff_eq, ne_eq, Bool.not_eq_true', Bool.not_eq_false', Bool.not_true, Bool.not_false, gt_iff_lt, ge_iff_le, Int.not_lt, Int.not_le, Decidable.not_not] at hc) <;> (first | (exact absurd rfl hc) | (exact absurd trivial hc) | (exfalso; omega) | skip)) | (refine GAr.i64 (by omega) ?_) | ((refine GAr.i64w ?_); intro kw hk1 hk2) | (refine GAr.u8s (by omega) ?_) | (refine GAr.u8 ?_) | (refine GAr.u64s (by omega) ?_) | (refine GAr.u32s (by omega) ?_) | (refine GAr.u64 ?_) | (refine GAr.u32 ?_) | (refine GQuo.i64 (by omega) ?_) | (refine GRem.pos (by omega) ?_) | (with_reducible refine stopA ?_) | (refine Exists.intro _ (And.intro (by first | rfl) ?_)) | (refine GOp.via (by rfl) ?_) | (with_reducible refine stopO ?_) | (with_reducible refine stopE ?_) | (with_reducible refine stopD ?_) | (with_reducible refine stopW ?_) | (with_reducible refine stopC ?_) | (with_reducible refine stopR ?_)))
      all_goals (first | omega | skip)
      refine GWP'.mk (GWP.loopA (α := Nat) [7, 33, 34, 35, 36, 37, 38, 39, 40, 41] [1, 2] (fun j => j ≤ ns) (fun j => [(7, byV 3 (a :: (r ++ [46] ++ List.replicate j x))), (33, iV j)]) (fun j => byO 3 (a :: (r ++ [46] ++ List.replicate j x))) 4 (fun j => ns - j) 0 (Nat.zero_le _) ⟨rfl, rfl, (by repeat' (first | exact trivial | refine And.intro rfl ?_)), [(2, 3)], _, rfl, ⟨⟨_, rfl, .slE (List.Mem.head _) (by simp)⟩, ⟨_, rfl, .sc⟩, trivial⟩, .cons rfl rfl (.cells (RenL.eq ((grow_by a r 46 rfl).trans (by simp)) (bytes_nameless _ _))) .nil⟩ ?_)
      rintro j hj
      have hrl : (r ++ [46] ++ List.replicate j x).length = r.length + 1 + j := by simp; omega
      by_cases hjl : j < ns
      · have hw2 : r ++ [46] ++ List.replicate j x ++ [x] = r ++ [46] ++ List.replicate (j + 1) x := by rw [List.append_assoc (r ++ [46]), ← List.replicate_succ']
        generalize r ++ [46] ++ List.replicate j x = w at *
        repeat' (first | (with_reducible refine And.intro ?_ ?_) | ((with_reducible intro hc); (try simp only [str_size, str_list, str_nil, decide_eq_true_eq, decide_eq_false_iff_not, beq_iff_eq, bne_iff_ne, beq_eq_false_iff_ne, bne_eq_false_iff_eq, ne_eq, Bool.not_eq_true', Bool.not_eq_false', Bool.not_true, Bool.not_false, gt_iff_lt, ge_iff_le, Int.not_lt, Int.not_le, Decidable.not_not] at hc); (first | (exact absurd rfl hc) | (exact absurd trivial hc) | (exfalso; omega) | skip)) | ((conv => whnf); first | (with_reducible refine And.intro ?_ ?_) | (refine ifB_intro (fun hc => ?_) (fun hc => ?_) <;> (try simp only [str_size, str_list, str_nil, decide_eq_true_eq, decide_eq_false_iff_not, beq_iff_eq, bne_iff_ne, beq_eq_false_iff_ne, bne_eq_false_iff_eq, ne_eq, Bool.not_eq_true', Bool.not_eq_false', Bool.not_true, Bool.not_false, gt_iff_lt, ge_iff_le, Int.not_lt, Int.not_le, Decidable.not_not] at hc) <;> (first | (exact absurd rfl hc) | (exact absurd trivial hc) | (exfalso; omega) | skip)) | (refine GAr.i64 (by omega) ?_) | ((refine GAr.i64w ?_); intro kw hk1 hk2) | (refine GAr.u8s (by omega) ?_) | (refine GAr.u8 ?_) | (refine GAr.u64s (by omega) ?_) | (refine GAr.u32s (by omega) ?_) | (refine GAr.u64 ?_) | (refine GAr.u32 ?_) | (refine GQuo.i64 (by omega) ?_) | (refine GRem.pos (by omega) ?_) | (with_reducible refine stopA ?_) | (refine Exists.intro _ (And.intro (by rfl) ?_)) | (refine GOp.via (by rfl) ?_) | (with_reducible refine stopO ?_) | (with_reducible refine stopE ?_) | (with_reducible refine stopD ?_) | (with_reducible refine stopW ?_) | (with_reducible refine stopC ?_) | (with_reducible refine stopR ?_)))
        all_goals (first | omega | skip)
        apply GOp'.via
        case h => refine vop_append rfl (vapp_grow sty_b (d := .slice 5) Try.underlying22 (by intro k h; cases h) (b := 3) (n := w.length + 1) (m := 1) (l := [.sc (.int .u8 (97 + (b.toNat : Int) % 26))]) (vs := bV a :: w.map bV) (by rfl) (by rfl) (by omega) (by rfl) (by simp) (by omega) (by omega))
        repeat' (first | (with_reducible refine And.intro ?_ ?_) | ((with_reducible intro hc); (try simp only [str_size, str_list, str_nil, decide_eq_true_eq, decide_eq_false_iff_not, beq_iff_eq, bne_iff_ne, beq_eq_false_iff_ne, bne_eq_false_iff_eq, ne_eq, Bool.not_eq_true', Bool.not_eq_false', Bool.not_true, Bool.not_false, gt_iff_lt, ge_iff_le, Int.not_lt, Int.not_le, Decidable.not_not] at hc); (first | (exact absurd rfl hc) | (exact absurd trivial hc) | (exfalso; omega) | skip)) | ((conv => whnf); first | (with_reducible refine And.intro ?_ ?_) | (refine ifB_intro (fun hc => ?_) (fun hc => ?_) <;> (try simp only [str_size, str_list, str_nil, decide_eq_true_eq, decide_eq_false_iff_not, beq_iff_eq, bne_iff_ne, beq_eq_false_iff_ne, bne_eq_false_iff_eq, ne_eq, Bool.not_eq_true', Bool.not_eq_false', Bool.not_true, Bool.not_false, gt_iff_lt, ge_iff_le, Int.not_lt, Int.not_le, Decidable.not_not] at hc) <;> (first | (exact absurd rfl hc) | (exact absurd trivial hc) | (exfalso; omega) | skip)) | (refine GAr.i64 (by omega) ?_) | ((refine GAr.i64w ?_); intro kw hk1 hk2) | (refine GAr.u8s (by omega) ?_) | (refine GAr.u8 ?_) | (refine GAr.u64s (by omega) ?_) | (refine GAr.u32s (by omega) ?_) | (refine GAr.u64 ?_) | (refine GAr.u32 ?_) | (refine GQuo.i64 (by omega) ?_) | (refine GRem.pos (by omega) ?_) | (with_reducible refine stopA ?_) | (refine Exists.intro _ (And.intro (by first | rfl) ?_)) | (refine GOp.via (by rfl) ?_) | (with_reducible refine stopO ?_) | (with_reducible refine stopE ?_) | (with_reducible refine stopD ?_) | (with_reducible refine stopW ?_) | (with_reducible refine stopC ?_) | (with_reducible refine stopR ?_)))
        refine Done'.mk ⟨j + 1, by omega, by omega, rfl, rfl, (by repeat' (first | exact trivial | refine And.intro rfl ?_)), [(5, 3)], _, rfl, ⟨⟨_, rfl, .slE (List.Mem.head _) (by rw [← hw2]; simp)⟩, ⟨_, rfl, RenV.eq rfl (nameless_sc _)⟩, trivial⟩, .cons rfl rfl (.cells (RenL.eq ((grow_by a w x hxV).trans (by rw [hw2])) (bytes_nameless _ _))) .nil⟩
      · have hj : j = ns := by omega
        subst hj
        generalize r ++ [46] ++ List.replicate j x = w at *
        repeat' (first | (with_reducible refine And.intro ?_ ?_) | ((with_reducible intro hc); (try simp only [str_size, str_list, str_nil, decide_eq_true_eq, decide_eq_false_iff_not, beq_iff_eq, bne_iff_ne, beq_eq_false_iff_ne, bne_eq_false_iff_eq, ne_eq, Bool.not_eq_true', Bool.not_eq_false', Bool.not_true, Bool.not_false, gt_iff_lt, ge_iff_le, Int.not_lt, Int.not_le, Decidable.not_not] at hc); (first | (exact absurd rfl hc) | (exact absurd trivial hc) | (exfalso; omega) | skip)) | ((conv => whnf); first | (with_reducible refine And.intro ?_ ?_) | (refine ifB_intro (fun hc => ?_) (fun hc => ?_) <;> (try simp only [str_size, str_list, str_nil, decide_eq_true_eq, decide_eq_false_iff_not, beq_iff_eq, bne_iff_ne, beq_eq_false_iff_ne, bne_eq_false_iff_eq, ne_eq, Bool.not_eq_true', Bool.not_eq_false', Bool.not_true, Bool.not_false, gt_iff_lt, ge_iff_le, Int.not_lt, Int.not_le, Decidable.not_not] at hc) <;> (first | (exact absurd rfl hc) | (exact absurd trivial hc) | (exfalso; omega) | skip)) | (refine GAr.i64 (by omega) ?_) | ((refine GAr.i64w ?_); intro kw hk1 hk2) | (refine GAr.u8s (by omega) ?_) | (refine GAr.u8 ?_) | (refine GAr.u64s (by omega) ?_) | (refine GAr.u32s (by omega) ?_) | (refine GAr.u64 ?_) | (refine GAr.u32 ?_) | (refine GQuo.i64 (by omega) ?_) | (refine GRem.pos (by omega) ?_) | (with_reducible refine stopA ?_) | (refine Exists.intro _ (And.intro (by rfl) ?_)) | (refine GOp.via (by rfl) ?_) | (with_reducible refine stopO ?_) | (with_reducible refine stopE ?_) | (with_reducible refine stopD ?_) | (with_reducible refine stopW ?_) | (with_reducible refine stopC ?_) | (with_reducible refine stopR ?_)))
        all_goals (first | omega | skip)
        refine Done'.mk ⟨i + 1 + 1, by omega, by omega, ?_⟩
        rw [hnext]
        exact ⟨rfl, rfl, (by repeat' (first | exact trivial | refine And.intro rfl ?_)), [(3, 0)], _, rfl, ⟨⟨_, rfl, .sl (List.Mem.head _)⟩, ⟨_, rfl, RenV.eq rfl (nameless_sc _)⟩, trivial⟩, .cons rfl rfl (.cells (RenL.of (bytes_nameless a w))) .nil⟩
  · have hi : i = np := by omega
    subst hi
    obtain ⟨m, rfl⟩ : ∃ m, i = m + 1 := ⟨i - 1, by omega⟩
    have hcode := tHost_code (x := x) (by omega) (by omega) (size := ns) (i := m) hs1.1
    have hlm := hlen m
    have hmm := hmul (m + 1) (by omega)
    have hT : ∃ a r, tHost x ns (m + 1) = a :: r := by
      cases ht : tHost x ns (m + 1) with
      | nil => rw [ht] at hlm; simp only [List.length_nil] at hlm; have : 0 < (m + 1) * ns := Nat.mul_pos (by omega) (by omega); omega
      | cons a r => exact ⟨a, r, rfl⟩
    obtain ⟨a, r, hT⟩ := hT
    rw [hT] at hcode hlm ⊢
    simp only [List.length_cons] at hcode hlm
    repeat' (first | (with_reducible refine And.intro ?_ ?_) | ((with_reducible intro hc); (try simp only [str_size, str_list, str_nil, decide_eq_true_eq, decide_eq_false_iff_not, beq_iff_eq, bne_iff_ne, beq_eq_false_iff_ne, bne_eq_false_iff_eq, ne_eq, Bool.not_eq_true', Bool.not_eq_false', Bool.not_true, Bool.not_false, gt_iff_lt, ge_iff_le, Int.not_lt, Int.not_le, Decidable.not_not] at hc); (first | (exact absurd rfl hc) | (exact absurd trivial hc) | (exfalso; omega) | skip)) | ((conv => whnf); first | (with_reducible refine And.intro ?_ ?_) | (refine ifB_intro (fun hc => ?_) (fun hc => ?_) <;> (try simp only [str_size, str_list, str_nil, decide_eq_true_eq, decide_eq_false_iff_not, beq_iff_eq, bne_iff_ne, beq_eq_false_iff_ne, bne_eq_false_iff_eq, ne_eq, Bool.not_eq_true', Bool.not_eq_false', Bool.not_true, Bool.not_false, gt_iff_lt, ge_iff_le, Int.not_lt, Int.not_le, Decidable.not_not] at hc) <;> (first | (exact absurd rfl hc) | (exact absurd trivial hc) | (exfalso; omega) | skip)) | (refine GAr.i64 (by omega) ?_) | ((refine GAr.i64w ?_); intro kw hk1 hk2) | (refine GAr.u8s (by omega) ?_) | (refine GAr.u8 ?_) | (refine GAr.u64s (by omega) ?_) | (refine GAr.u32s (by omega) ?_) | (refine GAr.u64 ?_) | (refine GAr.u32 ?_) | (refine GQuo.i64 (by omega) ?_) | (refine GRem.pos (by omega) ?_) | (with_reducible refine stopA ?_) | (refine Exists.intro _ (And.intro (by rfl) ?_)) | (refine GOp.via (by rfl) ?_) | (with_reducible refine stopO ?_) | (with_reducible refine stopE ?_) | (with_reducible refine stopD ?_) | (with_reducible refine stopW ?_) | (refine GCall.mk ((parseE_call (a :: r) _ rfl rfl rfl (by simp only [List.length_cons]; omega)).mono ?_); rintro _ _ ⟨rfl, rfl⟩) | (with_reducible refine stopC ?_) | (with_reducible refine stopR ?_)))
    all_goals (first | omega | skip)
    all_goals (refine Done'.mk (congrArg (fun b => VV.sc (.bool b)) (?_ : _ = true)))
    all_goals (
      have h4 : (hCode (a :: r) = 3 ∧ 253 < r.length + 1) ∨ (hCode (a :: r) = 0 ∧ ¬ 253 < r.length + 1 ∧ m + 1 ≤ 8 ∧ ns ≤ 63) ∨ (hCode (a :: r) = 2 ∧ ¬ 253 < r.length + 1 ∧ ¬ (m + 1 ≤ 8 ∧ ns ≤ 63)) := by
        by_cases e1 : 253 < r.length + 1
        · rw [if_pos e1] at hcode; exact .inl ⟨hcode, e1⟩
        · rw [if_neg e1] at hcode
          by_cases e2 : m + 1 ≤ 8 ∧ ns ≤ 63
          · rw [if_pos e2] at hcode; exact .inr (.inl ⟨hcode, e1, e2⟩)
          · rw [if_neg e2] at hcode; exact .inr (.inr ⟨hcode, e1, e2⟩)
      clear hcode
      rcases h4 with ⟨e, q⟩ | ⟨e, q⟩ | ⟨e, q⟩ <;> first | rfl | (rw [e]; rfl) | (exfalso; omega) | (exfalso; rw [beq_dec] at hc; omega) | (exfalso; rename_i hq _; rw [beq_dec] at hq; omega))
end Go.Proofs.Ytnfmoclmfddajaa
