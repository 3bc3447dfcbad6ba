/- The document's Write of sixty-four signs, walked. -/
import Derived.Test.YtmmjgbdihgdekaaDoorB1
namespace Go.Proofs.YtmmjgbdihgdekaaDoor
open Go Go.RowKit
set_option linter.unusedSimpArgs false
set_option linter.unusedVariables false
set_option maxRecDepth 100000
set_option maxHeartbeats 4000000
theorem sgn_ext : ∀ n : Fin 64, (⟨sgnT.toArray⟩ : ByteArray).extract n.val (n.val + 1) = ⟨[sgn n.val].toArray⟩ := by decide +kernel
theorem sign_call (n : Nat) (hn : n < 64) (z : Int) (hz : z = n) (H : Heap) : VCall Tryd.prog 68 [iV z] H (fun x K => x = strV [sgn n] ∧ K = H) := by
  subst hz
  refine VCall.go Tryd.func68 rfl ?_
  repeat' (first | with_reducible refine And.intro ?_ ?_ | ((with_reducible intro hc); (try simp only [zA, zB, zC, zD, zE, zF, zG, zH, zI, zJ, zK, zL, zM, zN, zO, zP, zQ, zR, zS, zT, zU, zV, zW] at hc); (first | (exact absurd rfl hc) | (exact absurd trivial hc) | (exfalso; omega) | skip)) | ((conv => whnf); first | with_reducible refine And.intro ?_ ?_ | refine ifB_intro ?_ ?_ | refine xA (by omega) ?_ | ((refine xB ?_); intro kw hk1 hk2) | refine xC (by omega) ?_ | refine xD ?_ | refine xE (by omega) ?_ | refine xF (by omega) ?_ | refine xG ?_ | refine xH ?_ | refine xI (by omega) ?_ | refine xJ (by omega) ?_ | (with_reducible refine stopA ?_) | refine Exists.intro _ (And.intro (by rfl) ?_) | refine GOp.via (by rfl) ?_ | (with_reducible first | refine stopO ?_ | refine stopE ?_ | refine stopD ?_ | refine stopW ?_ | refine stopG ?_ | refine stopC ?_ | refine stopR ?_)))
  all_goals (first | omega | skip)
  · show (n : Int) + 1 ≤ ((64 : Nat) : Int)
    omega
  refine Done'.mk ⟨?_, rfl⟩
  have := sgn_ext ⟨n, hn⟩
  refine congrArg (fun b => VV.sc (.string b)) ?_
  exact this
theorem bit_and : ∀ k : Fin 8, ∀ b : Fin 256, bitZ .and .u8 (shrZ .u8 ((b.val : Nat) : Int) ((k.val : Nat) : Int)) 1 = ((b.val / 2 ^ k.val % 2 : Nat) : Int) := by rw [bitZ_def, shrZ_def]; decide +kernel
theorem bit_at {b : UInt8} {i : Nat} : bitZ .and .u8 (shrZ .u8 (b.toNat : Int) (7 - (i : Int) % 8)) 1 = ((b.toNat / 2 ^ (7 - i % 8) % 2 : Nat) : Int) := by
  have h := bit_and ⟨7 - i % 8, by omega⟩ ⟨b.toNat, b.toNat_lt⟩
  have e : (7 - (i : Int) % 8) = ((7 - i % 8 : Nat) : Int) := by omega
  rw [e]
  exact h
theorem bitsL_at : ∀ (l : List UInt8) (i : Nat) (b : UInt8), l[i / 8]? = some b → (bitsL l)[i]? = some (b.toNat / 2 ^ (7 - i % 8) % 2)
  | [], i, b, h => by simp at h
  | a :: r, i, b, h => by
    by_cases hi : i < 8
    · have e : i / 8 = 0 := by omega
      rw [e] at h
      simp at h
      subst h
      have : ∀ j : Fin 8, (bits8 a ++ bitsL r)[j.val]? = some (a.toNat / 2 ^ (7 - j.val % 8) % 2) := by
        intro j
        match j with
        | ⟨0, _⟩ => rfl
        | ⟨1, _⟩ => rfl
        | ⟨2, _⟩ => rfl
        | ⟨3, _⟩ => rfl
        | ⟨4, _⟩ => rfl
        | ⟨5, _⟩ => rfl
        | ⟨6, _⟩ => rfl
        | ⟨7, _⟩ => simp [bits8]
      exact this ⟨i, hi⟩
    · have h2 : r[(i - 8) / 8]? = some b := by
        rw [show i / 8 = (i - 8) / 8 + 1 by omega] at h
        simpa using h
      have := bitsL_at r (i - 8) b h2
      show (bits8 a ++ bitsL r)[i]? = _
      rw [List.getElem?_append_right (by simp [bits8]; omega)]
      have e8 : (bits8 a).length = 8 := rfl
      rw [e8, this, show (i - 8) % 8 = i % 8 by omega]
theorem bitsL_len : ∀ l : List UInt8, (bitsL l).length = 8 * l.length
  | [] => rfl
  | a :: r => by
    show (bits8 a ++ bitsL r).length = _
    rw [List.length_append, bitsL_len r]
    simp [bits8]; omega
/-- The state behind so many bits. -/
def wS (l : List UInt8) (i : Nat) : List UInt8 × Nat × Nat := ((bitsL l).take i).foldl wst ([], 0, 0)
theorem wS_next {l : List UInt8} {i : Nat} {b : Nat} (h : (bitsL l)[i]? = some b) : wS l (i + 1) = wst (wS l i) b := by
  obtain ⟨hi, e⟩ := List.getElem?_eq_some_iff.1 h
  unfold wS
  rw [List.take_succ_eq_append_getElem hi, e, List.foldl_append]
  rfl
theorem wst_ok {s : List UInt8 × Nat × Nat} {b : Nat} (hb : b < 2) (h : s.2.2 < 6 ∧ s.2.1 < 2 ^ s.2.2) : (wst s b).2.2 < 6 ∧ (wst s b).2.1 < 2 ^ (wst s b).2.2 ∧ (wst s b).1.length ≤ s.1.length + 1 := by
  obtain ⟨o, n, k⟩ := s
  simp only at h
  unfold wst
  split
  · simp
  · rename_i hk
    simp only at hk ⊢
    refine ⟨by omega, ?_, by omega⟩
    rw [Nat.pow_succ]
    omega
theorem wS_ok (l : List UInt8) : ∀ i, i ≤ (bitsL l).length → (wS l i).2.2 < 6 ∧ (wS l i).2.1 < 2 ^ (wS l i).2.2 ∧ (wS l i).1.length ≤ i := by
  intro i
  induction i with
  | zero => intro _; exact ⟨by simp [wS], by simp [wS], by simp [wS]⟩
  | succ i ih =>
    intro hi
    have hb : (bitsL l)[i]? = some (bitsL l)[i] := List.getElem?_eq_getElem (by omega)
    have hlt : (bitsL l)[i] < 2 := by
      have h8 : i / 8 < l.length := by rw [bitsL_len] at hi; omega
      have := bitsL_at l i l[i / 8] (List.getElem?_eq_getElem h8)
      rw [hb] at this
      injection this with this
      rw [this]
      exact Nat.mod_lt _ (by omega)
    obtain ⟨a, b, c⟩ := ih (by omega)
    rw [wS_next hb]
    have := wst_ok hlt ⟨a, b⟩
    exact ⟨this.1, this.2.1, by omega⟩
theorem szk {a c : List UInt8} (h : a.length + c.length ≤ 4611686018427387904) : ¬ (((⟨a.toArray⟩ : ByteArray).size + (⟨c.toArray⟩ : ByteArray).size : Nat) : Int) > IntKind.i64.max := by
  have h2 : (IntKind.i64.max : Int) = 9223372036854775807 := by decide
  rw [h2, str_size, str_size]
  omega
theorem app_str (a c : List UInt8) : ((⟨a.toArray⟩ : ByteArray) ++ ⟨c.toArray⟩) = ⟨(a ++ c).toArray⟩ := by
  apply ByteArray.ext
  simp
theorem str_app (a c : List UInt8) : VV.sc (.string (⟨a.toArray⟩ ++ ⟨c.toArray⟩)) = strV (a ++ c) := by
  rw [app_str]; rfl
theorem padE_end {f : Nat} {o : List UInt8} (h : o.length % 4 = 0) : padE f o = o := by
  cases f with
  | zero => rfl
  | succ f => unfold padE; rw [if_pos h]
theorem padE_go {f : Nat} {o : List UInt8} (h : ¬ o.length % 4 = 0) : padE (f + 1) o = padE f (o ++ [61]) := by
  rw [padE, if_neg h]
theorem rwrite_call (l : List UInt8) (H : Heap) (hl : l.length ≤ 1000) : VCall Tryd.prog 18 [roB l] H (fun x K => x = strV (b64 l) ∧ K = H) := by
  refine VCall.pure (by simp [nameless_roB]) (nameless_sc _) ?_
  refine VCall.go Tryd.func18 rfl ?_
  repeat' (first | with_reducible refine And.intro ?_ ?_ | ((with_reducible intro hc); (try simp only [zA, zB, zC, zD, zE, zF, zG, zH, zI, zJ, zK, zL, zM, zN, zO, zP, zQ, zR, zS, zT, zU, zV, zW] at hc); (first | (exact absurd rfl hc) | (exact absurd trivial hc) | (exfalso; omega) | skip)) | ((conv => whnf); first | with_reducible refine And.intro ?_ ?_ | refine ifB_intro ?_ ?_ | refine xA (by omega) ?_ | ((refine xB ?_); intro kw hk1 hk2) | refine xC (by omega) ?_ | refine xD ?_ | refine xE (by omega) ?_ | refine xF (by omega) ?_ | refine xG ?_ | refine xH ?_ | refine xI (by omega) ?_ | refine xJ (by omega) ?_ | (with_reducible refine stopA ?_) | refine Exists.intro _ (And.intro (by rfl) ?_) | refine GOp.via (by rfl) ?_ | (with_reducible first | refine stopO ?_ | refine stopE ?_ | refine stopD ?_ | refine stopW ?_ | refine stopG ?_ | refine stopC ?_ | refine stopR ?_)))
  refine GWP'.mk (GWP.loopA (α := Nat) [7, 8, 9, 10, 11, 12, 13, 14, 15, 16, 17, 18, 19, 20, 21, 22, 23, 24, 25, 26, 27, 28, 29, 30, 31, 32, 33, 34, 35] [] (fun i => i ≤ 8 * l.length) (fun i => [(3, strV (wS l i).1), (4, iV (wS l i).2.1), (5, iV (wS l i).2.2), (6, iV i)]) (fun _ => []) 0 (fun i => 8 * l.length - i) 0 (Nat.zero_le _) ⟨rfl, rfl, (by repeat' (first | exact trivial | refine And.intro rfl ?_)), [], _, rfl, ⟨⟨_, rfl, .sc⟩, ⟨_, rfl, .sc⟩, ⟨_, rfl, .sc⟩, ⟨_, rfl, .sc⟩, trivial⟩, .nil⟩ ?_)
  rintro i hi
  obtain ⟨w1, w2, w3⟩ := wS_ok l i (by rw [bitsL_len]; exact hi)
  by_cases hil : i < 8 * l.length
  · obtain ⟨b, hb⟩ : ∃ b, l[i / 8]? = some b := ⟨l[i / 8]'(by omega), List.getElem?_eq_getElem _⟩
    have hbit := bitsL_at l i b hb
    have hnext := wS_next hbit
    have hba := @bit_at b i
    have hb2 : b.toNat / 2 ^ (7 - i % 8) % 2 < 2 := Nat.mod_lt _ (by omega)
    generalize b.toNat / 2 ^ (7 - i % 8) % 2 = bb at hbit hnext hba hb2
    obtain ⟨⟨o, n, k⟩, hst⟩ : ∃ s, wS l i = s := ⟨_, rfl⟩
    rw [hst] at hnext w1 w2 w3 ⊢
    simp only at w1 w2 w3 ⊢
    have hpow : 2 ^ k ≤ 2 ^ 5 := Nat.pow_le_pow_right (by omega) (by omega)
    have hn : n < 32 := by omega
    have hq : ((i : Int) / 8).toNat = i / 8 := by omega
    by_cases hk5 : k = 5
    · subst hk5
      have hnx : wS l (i + 1) = (o ++ [sgn (2 * n + bb)], 0, 0) := hnext
      repeat' (first | with_reducible refine And.intro ?_ ?_ | ((with_reducible intro hc); (try simp only [zA, zB, zC, zD, zE, zF, zG, zH, zI, zJ, zK, zL, zM, zN, zO, zP, zQ, zR, zS, zT, zU, zV, zW] at hc); (first | (exact absurd rfl hc) | (exact absurd trivial hc) | (exfalso; omega) | skip)) | ((conv => whnf); first | with_reducible refine And.intro ?_ ?_ | refine ifB_intro ?_ ?_ | refine xA (by omega) ?_ | ((refine xB ?_); intro kw hk1 hk2) | refine xC (by omega) ?_ | refine xD ?_ | refine xE (by omega) ?_ | refine xF (by omega) ?_ | refine xG ?_ | refine xH ?_ | refine xI (by omega) ?_ | refine xJ (by omega) ?_ | (with_reducible refine stopA ?_) | refine Exists.intro _ (And.intro (by (first | exact vat_of vagg_u8 (map_at hb) (mul1 rfl hq) | rfl)) ?_) | refine GOp.via (by rfl) ?_ | (with_reducible first | refine stopO ?_ | refine stopE ?_ | refine stopD ?_ | refine stopW ?_ | refine stopG ?_) | (refine GCall.mk ((sign_call (2 * n + bb) (by omega) _ (by omega) _).mono ?_); rintro _ _ ⟨rfl, rfl⟩) | (with_reducible refine stopC ?_) | (with_reducible refine stopR ?_)))
      all_goals (first | omega | exact szk (by simp; omega) | skip)
      exact Done'.mk ⟨i + 1, by omega, by omega, rfl, rfl, (by repeat' (first | exact trivial | refine And.intro rfl ?_)), [], _, rfl, ⟨⟨_, rfl, RenV.eq (by rw [hnx]; exact str_app o [sgn (2 * n + bb)]) (nameless_sc _)⟩, ⟨_, rfl, RenV.eq (by rw [hnx]; rfl) (nameless_sc _)⟩, ⟨_, rfl, RenV.eq (by rw [hnx]; rfl) (nameless_sc _)⟩, ⟨_, rfl, RenV.eq (intV_eq (by omega)) (nameless_sc _)⟩, trivial⟩, .nil⟩
    · have hnx : wS l (i + 1) = (o, 2 * n + bb, k + 1) := by rw [hnext]; unfold wst; rw [if_neg hk5]
      repeat' (first | with_reducible refine And.intro ?_ ?_ | ((with_reducible intro hc); (try simp only [zA, zB, zC, zD, zE, zF, zG, zH, zI, zJ, zK, zL, zM, zN, zO, zP, zQ, zR, zS, zT, zU, zV, zW] at hc); (first | (exact absurd rfl hc) | (exact absurd trivial hc) | (exfalso; omega) | skip)) | ((conv => whnf); first | with_reducible refine And.intro ?_ ?_ | refine ifB_intro ?_ ?_ | refine xA (by omega) ?_ | ((refine xB ?_); intro kw hk1 hk2) | refine xC (by omega) ?_ | refine xD ?_ | refine xE (by omega) ?_ | refine xF (by omega) ?_ | refine xG ?_ | refine xH ?_ | refine xI (by omega) ?_ | refine xJ (by omega) ?_ | (with_reducible refine stopA ?_) | refine Exists.intro _ (And.intro (by first | exact vat_of vagg_u8 (map_at hb) (mul1 rfl hq) | rfl) ?_) | refine GOp.via (by rfl) ?_ | (with_reducible first | refine stopO ?_ | refine stopE ?_ | refine stopD ?_ | refine stopW ?_ | refine stopG ?_ | refine stopC ?_ | refine stopR ?_)))
      all_goals (first | omega | skip)
      exact Done'.mk ⟨i + 1, by omega, by omega, rfl, rfl, (by repeat' (first | exact trivial | refine And.intro rfl ?_)), [], _, rfl, ⟨⟨_, rfl, RenV.eq (by rw [hnx]; rfl) (nameless_sc _)⟩, ⟨_, rfl, RenV.eq (by rw [hnx]; refine intV_eq ?_; simp only; omega) (nameless_sc _)⟩, ⟨_, rfl, RenV.eq (by rw [hnx]; refine intV_eq ?_; simp only; omega) (nameless_sc _)⟩, ⟨_, rfl, RenV.eq (intV_eq (by omega)) (nameless_sc _)⟩, trivial⟩, .nil⟩
  · have hie : i = 8 * l.length := by omega
    have hfin : wfin (wS l i) = b64 l := by
      unfold wS
      rw [List.take_of_length_le (by rw [bitsL_len]; omega)]
      exact rwrite_eq l
    obtain ⟨⟨o, n, k⟩, hst⟩ : ∃ s, wS l i = s := ⟨_, rfl⟩
    rw [hst] at hfin w1 w2 w3 ⊢
    simp only at w1 w2 w3 ⊢
    unfold wfin at hfin
    simp only at hfin
    by_cases hk0 : k = 0
    · subst hk0
      rw [if_pos rfl] at hfin
      repeat' (first | with_reducible refine And.intro ?_ ?_ | ((with_reducible intro hc); (try simp only [zA, zB, zC, zD, zE, zF, zG, zH, zI, zJ, zK, zL, zM, zN, zO, zP, zQ, zR, zS, zT, zU, zV, zW] at hc); (first | (exact absurd rfl hc) | (exact absurd trivial hc) | (exfalso; omega) | skip)) | ((conv => whnf); first | with_reducible refine And.intro ?_ ?_ | refine ifB_intro ?_ ?_ | refine xA (by omega) ?_ | ((refine xB ?_); intro kw hk1 hk2) | refine xC (by omega) ?_ | refine xD ?_ | refine xE (by omega) ?_ | refine xF (by omega) ?_ | refine xG ?_ | refine xH ?_ | refine xI (by omega) ?_ | refine xJ (by omega) ?_ | (with_reducible refine stopA ?_) | refine Exists.intro _ (And.intro (by rfl) ?_) | refine GOp.via (by rfl) ?_ | (with_reducible first | refine stopO ?_ | refine stopE ?_ | refine stopD ?_ | refine stopW ?_ | refine stopG ?_ | refine stopC ?_ | refine stopR ?_)))
      all_goals (first | omega | skip)
      (have hol : (o).length ≤ 9000 := by (first | (simp; omega) | omega)); (refine GWP'.mk (GWP.loopA (α := Nat × List UInt8) [48, 49, 50, 51, 52, 53] [] (fun a => padE a.1 a.2 = b64 l ∧ a.1 ≤ 3 ∧ (a.2.length % 4 = 0 ∨ 4 - a.2.length % 4 ≤ a.1) ∧ a.2.length + a.1 ≤ 9100) (fun a => [(3, strV a.2)]) (fun _ => []) 0 (fun a => a.1) (3, o) ⟨hfin, Nat.le_refl _, by simp only; omega, by simp only; omega⟩ ⟨rfl, rfl, (by repeat' (first | exact trivial | refine And.intro rfl ?_)), [], _, rfl, ⟨⟨_, rfl, RenV.eq (by first | rfl | exact str_app _ _) (nameless_sc _)⟩, trivial⟩, .nil⟩ ?_)); rintro ⟨f, q⟩ ⟨f1, f2, f3, f4⟩; simp only at f1 f2 f3 f4 ⊢; have hqs := str_size q; (refine Decidable.byCases (p := q.length % 4 = 0) (fun hq4 => ?_) (fun hq4 => ?_)); (focus (rw [padE_end hq4] at f1; subst f1; (repeat' (first | with_reducible refine And.intro ?_ ?_ | ((with_reducible intro hc); (try simp only [zA, zB, zC, zD, zE, zF, zG, zH, zI, zJ, zK, zL, zM, zN, zO, zP, zQ, zR, zS, zT, zU, zV, zW] at hc); (first | (exact absurd rfl hc) | (exact absurd trivial hc) | (exfalso; omega) | skip)) | ((conv => whnf); first | with_reducible refine And.intro ?_ ?_ | refine ifB_intro ?_ ?_ | refine xA (by omega) ?_ | ((refine xB ?_); intro kw hk1 hk2) | refine xC (by omega) ?_ | refine xD ?_ | refine xE (by omega) ?_ | refine xF (by omega) ?_ | refine xG ?_ | refine xH ?_ | refine xI (by omega) ?_ | refine xJ (by omega) ?_ | (with_reducible refine stopA ?_) | refine Exists.intro _ (And.intro (by rfl) ?_) | refine GOp.via (by rfl) ?_ | (with_reducible first | refine stopO ?_ | refine stopE ?_ | refine stopD ?_ | refine stopW ?_ | refine stopG ?_ | refine stopC ?_ | refine stopR ?_)))); (all_goals (first | omega | exact Done'.mk rfl)))); (focus (obtain ⟨f', rfl⟩ : ∃ f', f = f' + 1 := ⟨f - 1, by omega⟩; rw [padE_go hq4] at f1; (repeat' (first | with_reducible refine And.intro ?_ ?_ | ((with_reducible intro hc); (try simp only [zA, zB, zC, zD, zE, zF, zG, zH, zI, zJ, zK, zL, zM, zN, zO, zP, zQ, zR, zS, zT, zU, zV, zW] at hc); (first | (exact absurd rfl hc) | (exact absurd trivial hc) | (exfalso; omega) | skip)) | ((conv => whnf); first | with_reducible refine And.intro ?_ ?_ | refine ifB_intro ?_ ?_ | refine xA (by omega) ?_ | ((refine xB ?_); intro kw hk1 hk2) | refine xC (by omega) ?_ | refine xD ?_ | refine xE (by omega) ?_ | refine xF (by omega) ?_ | refine xG ?_ | refine xH ?_ | refine xI (by omega) ?_ | refine xJ (by omega) ?_ | (with_reducible refine stopA ?_) | refine Exists.intro _ (And.intro (by rfl) ?_) | refine GOp.via (by rfl) ?_ | (with_reducible first | refine stopO ?_ | refine stopE ?_ | refine stopD ?_ | refine stopW ?_ | refine stopG ?_ | refine stopC ?_ | refine stopR ?_)))); (all_goals (first | omega | exact szk (by simp; omega) | (refine Done'.mk ?_; exact ⟨(f', q ++ [61]), ⟨f1, by simp only; omega, by simp only [List.length_append, List.length_cons, List.length_nil]; omega, by simp only [List.length_append, List.length_cons, List.length_nil]; omega⟩, by simp only; omega, rfl, rfl, (by repeat' (first | exact trivial | refine And.intro rfl ?_)), [], _, rfl, ⟨⟨_, rfl, RenV.eq (str_app _ _) (nameless_sc _)⟩, trivial⟩, .nil⟩)))))
    · rw [if_neg hk0] at hfin
      repeat' (first | with_reducible refine And.intro ?_ ?_ | ((with_reducible intro hc); (try simp only [zA, zB, zC, zD, zE, zF, zG, zH, zI, zJ, zK, zL, zM, zN, zO, zP, zQ, zR, zS, zT, zU, zV, zW] at hc); (first | (exact absurd rfl hc) | (exact absurd trivial hc) | (exfalso; omega) | skip)) | ((conv => whnf); first | with_reducible refine And.intro ?_ ?_ | refine ifB_intro ?_ ?_ | refine xA (by omega) ?_ | ((refine xB ?_); intro kw hk1 hk2) | refine xC (by omega) ?_ | refine xD ?_ | refine xE (by omega) ?_ | refine xF (by omega) ?_ | refine xG ?_ | refine xH ?_ | refine xI (by omega) ?_ | refine xJ (by omega) ?_ | (with_reducible refine stopA ?_) | refine Exists.intro _ (And.intro (by rfl) ?_) | refine GOp.via (by rfl) ?_ | (with_reducible first | refine stopO ?_ | refine stopE ?_ | refine stopD ?_ | refine stopW ?_ | refine stopG ?_ | refine stopC ?_ | refine stopR ?_)))
      all_goals (first | omega | skip)
      refine GWP'.mk (GWP.loopA (α := Nat) [38, 39, 40, 41, 42, 43] [] (fun j => k ≤ j ∧ j ≤ 6) (fun j => [(4, iV ((n * 2 ^ (j - k) : Nat) : Int)), (5, iV j)]) (fun _ => []) 0 (fun j => 6 - j) k ⟨Nat.le_refl _, by omega⟩ ⟨rfl, rfl, (by repeat' (first | exact trivial | refine And.intro rfl ?_)), [], _, rfl, ⟨⟨_, rfl, RenV.eq (by rw [Nat.sub_self, Nat.pow_zero, Nat.mul_one]; rfl) (nameless_sc _)⟩, ⟨_, rfl, .sc⟩, trivial⟩, .nil⟩ ?_)
      rintro j ⟨j1, j2⟩
      have hj : n * 2 ^ (j - k) < 2 ^ j := by
        have : 2 ^ j = 2 ^ k * 2 ^ (j - k) := by rw [← Nat.pow_add]; congr 1; omega
        rw [this]
        exact Nat.mul_lt_mul_of_pos_right w2 (Nat.two_pow_pos _)
      have hj6 : 2 ^ j ≤ 2 ^ 6 := Nat.pow_le_pow_right (by omega) j2
      by_cases hjl : j < 6
      · have hn2 : n * 2 ^ (j + 1 - k) = 2 * (n * 2 ^ (j - k)) := by
          rw [show j + 1 - k = (j - k) + 1 by omega, Nat.pow_succ, ← Nat.mul_assoc, Nat.mul_comm 2]
        generalize hm : n * 2 ^ (j - k) = mm at *
        repeat' (first | with_reducible refine And.intro ?_ ?_ | ((with_reducible intro hc); (try simp only [zA, zB, zC, zD, zE, zF, zG, zH, zI, zJ, zK, zL, zM, zN, zO, zP, zQ, zR, zS, zT, zU, zV, zW] at hc); (first | (exact absurd rfl hc) | (exact absurd trivial hc) | (exfalso; omega) | skip)) | ((conv => whnf); first | with_reducible refine And.intro ?_ ?_ | refine ifB_intro ?_ ?_ | refine xA (by omega) ?_ | ((refine xB ?_); intro kw hk1 hk2) | refine xC (by omega) ?_ | refine xD ?_ | refine xE (by omega) ?_ | refine xF (by omega) ?_ | refine xG ?_ | refine xH ?_ | refine xI (by omega) ?_ | refine xJ (by omega) ?_ | (with_reducible refine stopA ?_) | refine Exists.intro _ (And.intro (by rfl) ?_) | refine GOp.via (by rfl) ?_ | (with_reducible first | refine stopO ?_ | refine stopE ?_ | refine stopD ?_ | refine stopW ?_ | refine stopG ?_ | refine stopC ?_ | refine stopR ?_)))
        all_goals (first | omega | skip)
        exact Done'.mk ⟨j + 1, ⟨by omega, by omega⟩, by omega, rfl, rfl, (by repeat' (first | exact trivial | refine And.intro rfl ?_)), [], _, rfl, ⟨⟨_, rfl, RenV.eq (intV_eq (by rw [hn2]; omega)) (nameless_sc _)⟩, ⟨_, rfl, RenV.eq (intV_eq (by omega)) (nameless_sc _)⟩, trivial⟩, .nil⟩
      · have hje : j = 6 := by omega
        subst hje
        generalize n * 2 ^ (6 - k) = mm at *
        repeat' (first | with_reducible refine And.intro ?_ ?_ | ((with_reducible intro hc); (try simp only [zA, zB, zC, zD, zE, zF, zG, zH, zI, zJ, zK, zL, zM, zN, zO, zP, zQ, zR, zS, zT, zU, zV, zW] at hc); (first | (exact absurd rfl hc) | (exact absurd trivial hc) | (exfalso; omega) | skip)) | ((conv => whnf); first | with_reducible refine And.intro ?_ ?_ | refine ifB_intro ?_ ?_ | refine xA (by omega) ?_ | ((refine xB ?_); intro kw hk1 hk2) | refine xC (by omega) ?_ | refine xD ?_ | refine xE (by omega) ?_ | refine xF (by omega) ?_ | refine xG ?_ | refine xH ?_ | refine xI (by omega) ?_ | refine xJ (by omega) ?_ | (with_reducible refine stopA ?_) | refine Exists.intro _ (And.intro (by rfl) ?_) | refine GOp.via (by rfl) ?_ | (with_reducible first | refine stopO ?_ | refine stopE ?_ | refine stopD ?_ | refine stopW ?_ | refine stopG ?_) | (refine GCall.mk ((sign_call mm (by omega) _ (by omega) _).mono ?_); rintro _ _ ⟨rfl, rfl⟩) | (with_reducible refine stopC ?_) | (with_reducible refine stopR ?_)))
        all_goals (first | omega | exact szk (by simp; omega) | skip)
        (have hol : ((o ++ [sgn mm])).length ≤ 9000 := by (first | (simp; omega) | omega)); (refine GWP'.mk (GWP.loopA (α := Nat × List UInt8) [48, 49, 50, 51, 52, 53] [] (fun a => padE a.1 a.2 = b64 l ∧ a.1 ≤ 3 ∧ (a.2.length % 4 = 0 ∨ 4 - a.2.length % 4 ≤ a.1) ∧ a.2.length + a.1 ≤ 9100) (fun a => [(3, strV a.2)]) (fun _ => []) 0 (fun a => a.1) (3, (o ++ [sgn mm])) ⟨hfin, Nat.le_refl _, by simp only; omega, by simp only; omega⟩ ⟨rfl, rfl, (by repeat' (first | exact trivial | refine And.intro rfl ?_)), [], _, rfl, ⟨⟨_, rfl, RenV.eq (by first | rfl | exact str_app _ _) (nameless_sc _)⟩, trivial⟩, .nil⟩ ?_)); rintro ⟨f, q⟩ ⟨f1, f2, f3, f4⟩; simp only at f1 f2 f3 f4 ⊢; have hqs := str_size q; (refine Decidable.byCases (p := q.length % 4 = 0) (fun hq4 => ?_) (fun hq4 => ?_)); (focus (rw [padE_end hq4] at f1; subst f1; (repeat' (first | with_reducible refine And.intro ?_ ?_ | ((with_reducible intro hc); (try simp only [zA, zB, zC, zD, zE, zF, zG, zH, zI, zJ, zK, zL, zM, zN, zO, zP, zQ, zR, zS, zT, zU, zV, zW] at hc); (first | (exact absurd rfl hc) | (exact absurd trivial hc) | (exfalso; omega) | skip)) | ((conv => whnf); first | with_reducible refine And.intro ?_ ?_ | refine ifB_intro ?_ ?_ | refine xA (by omega) ?_ | ((refine xB ?_); intro kw hk1 hk2) | refine xC (by omega) ?_ | refine xD ?_ | refine xE (by omega) ?_ | refine xF (by omega) ?_ | refine xG ?_ | refine xH ?_ | refine xI (by omega) ?_ | refine xJ (by omega) ?_ | (with_reducible refine stopA ?_) | refine Exists.intro _ (And.intro (by rfl) ?_) | refine GOp.via (by rfl) ?_ | (with_reducible first | refine stopO ?_ | refine stopE ?_ | refine stopD ?_ | refine stopW ?_ | refine stopG ?_ | refine stopC ?_ | refine stopR ?_)))); (all_goals (first | omega | exact Done'.mk rfl)))); (focus (obtain ⟨f', rfl⟩ : ∃ f', f = f' + 1 := ⟨f - 1, by omega⟩; rw [padE_go hq4] at f1; (repeat' (first | with_reducible refine And.intro ?_ ?_ | ((with_reducible intro hc); (try simp only [zA, zB, zC, zD, zE, zF, zG, zH, zI, zJ, zK, zL, zM, zN, zO, zP, zQ, zR, zS, zT, zU, zV, zW] at hc); (first | (exact absurd rfl hc) | (exact absurd trivial hc) | (exfalso; omega) | skip)) | ((conv => whnf); first | with_reducible refine And.intro ?_ ?_ | refine ifB_intro ?_ ?_ | refine xA (by omega) ?_ | ((refine xB ?_); intro kw hk1 hk2) | refine xC (by omega) ?_ | refine xD ?_ | refine xE (by omega) ?_ | refine xF (by omega) ?_ | refine xG ?_ | refine xH ?_ | refine xI (by omega) ?_ | refine xJ (by omega) ?_ | (with_reducible refine stopA ?_) | refine Exists.intro _ (And.intro (by rfl) ?_) | refine GOp.via (by rfl) ?_ | (with_reducible first | refine stopO ?_ | refine stopE ?_ | refine stopD ?_ | refine stopW ?_ | refine stopG ?_ | refine stopC ?_ | refine stopR ?_)))); (all_goals (first | omega | exact szk (by simp; omega) | (refine Done'.mk ?_; exact ⟨(f', q ++ [61]), ⟨f1, by simp only; omega, by simp only [List.length_append, List.length_cons, List.length_nil]; omega, by simp only [List.length_append, List.length_cons, List.length_nil]; omega⟩, by simp only; omega, rfl, rfl, (by repeat' (first | exact trivial | refine And.intro rfl ?_)), [], _, rfl, ⟨⟨_, rfl, RenV.eq (str_app _ _) (nameless_sc _)⟩, trivial⟩, .nil⟩)))))
end Go.Proofs.YtmmjgbdihgdekaaDoor
