import Derived.Test.YtmmjgbdihgdekaaDoorG1
import Derived.Test.YtmmjgbdihgdekaaDoorG2
import Derived.Test.YtmmjgbdihgdekaaDoorE6
/- sign, Token, Same; Letter, Token of the document. -/
namespace Go.Proofs.YtmmjgbdihgdekaaDoor
open Go Go.RowKit
set_option linter.unusedSimpArgs false
set_option linter.unusedVariables false
set_option maxRecDepth 100000
set_option maxHeartbeats 4000000
def letB (b : UInt8) : Bool := ([97, 98, 99, 100, 101, 102, 103, 104, 105, 106, 107, 108, 109, 110, 111, 112, 113, 114, 115, 116, 117, 118, 119, 120, 121, 122] : List UInt8).contains b || ([65, 66, 67, 68, 69, 70, 71, 72, 73, 74, 75, 76, 77, 78, 79, 80, 81, 82, 83, 84, 85, 86, 87, 88, 89, 90] : List UInt8).contains b
def dgB (b : UInt8) : Bool := Nat.ble 48 b.toNat && Nat.ble b.toNat 57
def puncB (b : UInt8) : Bool := ([33, 35, 36, 37, 38, 39, 42, 43, 45, 46, 94, 95, 96, 124, 126] : List UInt8).contains b
def tokB (b : UInt8) : Bool := dgB b || letB b || puncB b
theorem dgB_eq (b : UInt8) : decide (48 ≤ b.toNat ∧ b.toNat ≤ 57) = dgB b := by
  unfold dgB
  rw [Bool.eq_iff_iff]
  simp
theorem csign_call (b : UInt8) (H : Heap) : VCall Tryd.prog 157 [bV b] H (fun x K => x = booV (tokB b) ∧ K = H) := VCall.bytes mixed 30 tokB (by kernel_rfl) b H
theorem letter_call (b : UInt8) (H : Heap) : VCall Tryd.prog 126 [bV b] H (fun x K => x = booV (letB b) ∧ K = H) := by
  refine VCall.go Tryd.func126 rfl ?_
  repeat' (first | with_reducible refine And.intro ?_ ?_ | ((with_reducible intro hc); (try simp only [zA, zB, zC, zD, zE, zF, zG, zH, zI, zJ, zK, zL, zM, zN, zO, zP, zQ, zR, zS, zT, zU, zV, zW] at hc); (first | (exact absurd rfl hc) | (exact absurd trivial hc) | (exfalso; omega) | skip)) | ((conv => whnf); first | with_reducible refine And.intro ?_ ?_ | refine ifB_intro ?_ ?_ | refine xA (by omega) ?_ | ((refine xB ?_); intro kw hk1 hk2) | refine xC (by omega) ?_ | refine xD ?_ | refine xE (by omega) ?_ | refine xF (by omega) ?_ | refine xG ?_ | refine xH ?_ | refine xI (by omega) ?_ | refine xJ (by omega) ?_ | (with_reducible refine stopA ?_) | refine Exists.intro _ (And.intro (by rfl) ?_) | refine GOp.via (by rfl) ?_ | (with_reducible first | refine stopO ?_ | refine stopE ?_ | refine stopD ?_ | refine stopW ?_ | refine stopG ?_) | (first | (refine GCall.mk ((in_call b [97, 98, 99, 100, 101, 102, 103, 104, 105, 106, 107, 108, 109, 110, 111, 112, 113, 114, 115, 116, 117, 118, 119, 120, 121, 122] _ (by simp)).mono ?_); rintro _ _ ⟨rfl, rfl⟩) | (refine GCall.mk ((in_call b [65, 66, 67, 68, 69, 70, 71, 72, 73, 74, 75, 76, 77, 78, 79, 80, 81, 82, 83, 84, 85, 86, 87, 88, 89, 90] _ (by simp)).mono ?_); rintro _ _ ⟨rfl, rfl⟩)) | (with_reducible refine stopC ?_) | (with_reducible refine stopR ?_)))
  · refine Done'.mk ⟨?_, rfl⟩
    unfold letB
    rw [hc]
    rfl
  · refine Done'.mk ⟨?_, rfl⟩
    unfold letB
    rw [hc]
    rfl
def tokenB (l : List UInt8) : Bool := l.all tokB && !(l == [])
theorem all_at {l : List UInt8} {i : Nat} {c : UInt8} (p : UInt8 → Bool) (h : l[i]? = some c) : (l.drop i).all p = (p c && (l.drop (i + 1)).all p) := by
  obtain ⟨hi, e⟩ := List.getElem?_eq_some_iff.1 h
  rw [List.drop_eq_getElem_cons hi, e, List.all_cons]
theorem token_call (l : List UInt8) (H : Heap) (hl : l.length ≤ 4611686018427387904) : VCall Tryd.prog 123 [roB l] H (fun x K => x = booV (tokenB l) ∧ K = H) := by
  refine VCall.go Tryd.func123 rfl ?_
  repeat' (first | with_reducible refine And.intro ?_ ?_ | ((with_reducible intro hc); (try simp only [zA, zB, zC, zD, zE, zF, zG, zH, zI, zJ, zK, zL, zM, zN, zO, zP, zQ, zR, zS, zT, zU, zV, zW] at hc); (first | (exact absurd rfl hc) | (exact absurd trivial hc) | (exfalso; omega) | skip)) | ((conv => whnf); first | with_reducible refine And.intro ?_ ?_ | refine ifB_intro ?_ ?_ | refine xA (by omega) ?_ | ((refine xB ?_); intro kw hk1 hk2) | refine xC (by omega) ?_ | refine xD ?_ | refine xE (by omega) ?_ | refine xF (by omega) ?_ | refine xG ?_ | refine xH ?_ | refine xI (by omega) ?_ | refine xJ (by omega) ?_ | (with_reducible refine stopA ?_) | refine Exists.intro _ (And.intro (by rfl) ?_) | refine GOp.via (by rfl) ?_ | (with_reducible first | refine stopO ?_ | refine stopE ?_ | refine stopD ?_ | refine stopW ?_ | refine stopG ?_ | refine stopC ?_ | refine stopR ?_)))
  refine GWP'.mk (GWP.loopK (α := Nat) (fun i => i ≤ l.length ∧ (l.drop i).all tokB = l.all tokB) (fun i => [(0, roB l), (5, roB l), (6, iV l.length), (7, iV i)]) (fun _ => H) [] 18 (fun i => l.length - i) 0 ⟨Nat.zero_le _, rfl⟩ ⟨rfl, ⟨rfl, rfl, rfl, rfl, trivial⟩, rfl, rfl⟩ ?_)
  rintro i ⟨hi, hgo⟩
  by_cases hil : i < l.length
  · have hb : ∃ c, l[i]? = some c := ⟨l[i], by simp⟩
    obtain ⟨c, hb⟩ := hb
    rw [all_at tokB hb] at hgo
    repeat' (first | with_reducible refine And.intro ?_ ?_ | ((with_reducible intro hc); (try simp only [zA, zB, zC, zD, zE, zF, zG, zH, zI, zJ, zK, zL, zM, zN, zO, zP, zQ, zR, zS, zT, zU, zV, zW] at hc); (first | (exact absurd rfl hc) | (exact absurd trivial hc) | (exfalso; omega) | skip)) | ((conv => whnf); first | with_reducible refine And.intro ?_ ?_ | refine ifB_intro ?_ ?_ | refine xA (by omega) ?_ | ((refine xB ?_); intro kw hk1 hk2) | refine xC (by omega) ?_ | refine xD ?_ | refine xE (by omega) ?_ | refine xF (by omega) ?_ | refine xG ?_ | refine xH ?_ | refine xI (by omega) ?_ | refine xJ (by omega) ?_ | (with_reducible refine stopA ?_) | refine Exists.intro _ (And.intro (by (first | exact vat_of vagg_u8 (map_at hb) (mul1 rfl rfl) | rfl)) ?_) | refine GOp.via (by rfl) ?_ | (with_reducible first | refine stopO ?_ | refine stopE ?_ | refine stopD ?_ | refine stopW ?_ | refine stopG ?_) | (refine GCall.mk ((csign_call c _).mono ?_); rintro _ _ ⟨rfl, rfl⟩) | (with_reducible refine stopC ?_) | (with_reducible refine stopR ?_)))
    all_goals (first | omega | refine Done'.mk ?_)
    · refine ⟨?_, rfl⟩
      rw [hc, Bool.false_and] at hgo
      unfold tokenB
      rw [← hgo]
      rfl
    · rw [hc, Bool.true_and] at hgo
      refine ⟨i + 1, ⟨by omega, hgo⟩, by omega, rfl, ⟨rfl, rfl, rfl, iv_eq ?_, trivial⟩, rfl, rfl⟩
      push_cast
      omega
  · repeat' (first | with_reducible refine And.intro ?_ ?_ | ((with_reducible intro hc); (try simp only [zA, zB, zC, zD, zE, zF, zG, zH, zI, zJ, zK, zL, zM, zN, zO, zP, zQ, zR, zS, zT, zU, zV, zW] at hc); (first | (exact absurd rfl hc) | (exact absurd trivial hc) | (exfalso; omega) | skip)) | ((conv => whnf); first | with_reducible refine And.intro ?_ ?_ | refine ifB_intro ?_ ?_ | refine xA (by omega) ?_ | ((refine xB ?_); intro kw hk1 hk2) | refine xC (by omega) ?_ | refine xD ?_ | refine xE (by omega) ?_ | refine xF (by omega) ?_ | refine xG ?_ | refine xH ?_ | refine xI (by omega) ?_ | refine xJ (by omega) ?_ | (with_reducible refine stopA ?_) | refine Exists.intro _ (And.intro (by rfl) ?_) | refine GOp.via (by rfl) ?_ | (with_reducible first | refine stopO ?_ | refine stopE ?_ | refine stopD ?_ | refine stopW ?_ | refine stopG ?_ | refine stopC ?_ | refine stopR ?_)))
    all_goals (first | omega | refine Done'.mk ⟨?_, rfl⟩)
    have : i = l.length := by omega
    subst this
    rw [List.drop_length] at hgo
    unfold tokenB
    rw [← hgo]
    show booV (ltZ 0 (l.length : Int)) = _
    rw [ltZ_eq]
    cases l
    · rfl
    · simp [booV]
end Go.Proofs.YtmmjgbdihgdekaaDoor

/- Lower and Token of the document. -/
namespace Go.Proofs.YtmmjgbdihgdekaaDoor
open Go Go.RowKit
set_option linter.unusedSimpArgs false
set_option linter.unusedVariables false
set_option maxRecDepth 100000
set_option maxHeartbeats 4000000
theorem rtoken_call (l : List UInt8) (H : Heap) (hl : l.length ≤ 4611686018427387904) : VCall Tryd.prog 82 [strV l] H (fun x K => x = booV (tokenB l) ∧ K = H) := by
  refine VCall.go Tryd.func82 rfl ?_
  repeat' (first | with_reducible refine And.intro ?_ ?_ | ((with_reducible intro hc); (try simp only [zA, zB, zC, zD, zE, zF, zG, zH, zI, zJ, zK, zL, zM, zN, zO, zP, zQ, zR, zS, zT, zU, zV, zW] at hc); (first | (exact absurd rfl hc) | (exact absurd trivial hc) | (exfalso; omega) | skip)) | ((conv => whnf); first | with_reducible refine And.intro ?_ ?_ | refine ifB_intro ?_ ?_ | refine xA (by omega) ?_ | ((refine xB ?_); intro kw hk1 hk2) | refine xC (by omega) ?_ | refine xD ?_ | refine xE (by omega) ?_ | refine xF (by omega) ?_ | refine xG ?_ | refine xH ?_ | refine xI (by omega) ?_ | refine xJ (by omega) ?_ | (with_reducible refine stopA ?_) | refine Exists.intro _ (And.intro (by rfl) ?_) | refine GOp.via (by rfl) ?_ | (with_reducible first | refine stopO ?_ | refine stopE ?_ | refine stopD ?_ | refine stopW ?_ | refine stopG ?_ | refine stopC ?_ | refine stopR ?_)))
  refine GWP'.mk (GWP.loopK (α := Nat) (fun i => i ≤ l.length ∧ (l.drop i).all tokB = l.all tokB) (fun i => [(0, strV l), (3, iV i)]) (fun _ => H) [] 31 (fun i => l.length - i) 0 ⟨Nat.zero_le _, rfl⟩ ⟨rfl, ⟨rfl, rfl, trivial⟩, rfl, rfl⟩ ?_)
  rintro i ⟨hi, hgo⟩
  by_cases hil : i < l.length
  · have hb : ∃ c, l[i]? = some c := ⟨l[i], by simp⟩
    obtain ⟨c, hb⟩ := hb
    have hd := dgB_eq c
    have ht : tokB c = (decide (48 ≤ c.toNat ∧ c.toNat ≤ 57) || letB c || puncB c) := by rw [hd]; rfl
    rw [all_at tokB hb, ht] at hgo
    have good : (decide (48 ≤ c.toNat ∧ c.toNat ≤ 57) || letB c || puncB c) = true → ∃ b, (b ≤ l.length ∧ (l.drop b).all tokB = l.all tokB) ∧ l.length - b < l.length - i ∧ b = i + 1 := by
      intro h
      rw [h, Bool.true_and] at hgo
      exact ⟨i + 1, ⟨by omega, hgo⟩, by omega, rfl⟩
    have bad : (decide (48 ≤ c.toNat ∧ c.toNat ≤ 57) || letB c || puncB c) = false → tokenB l = false := by
      intro h
      rw [h, Bool.false_and] at hgo
      unfold tokenB
      rw [← hgo]
      rfl
    have hdec : ∀ p : Prop, [Decidable p] → p → decide p = true := fun p _ h => decide_eq_true h
    repeat' (first | with_reducible refine And.intro ?_ ?_ | ((with_reducible intro hc); (try simp only [zA, zB, zC, zD, zE, zF, zG, zH, zI, zJ, zK, zL, zM, zN, zO, zP, zQ, zR, zS, zT, zU, zV, zW] at hc); (first | (exact absurd rfl hc) | (exact absurd trivial hc) | (exfalso; omega) | skip)) | ((conv => whnf); first | with_reducible refine And.intro ?_ ?_ | refine ifB_intro ?_ ?_ | refine xA (by omega) ?_ | ((refine xB ?_); intro kw hk1 hk2) | refine xC (by omega) ?_ | refine xD ?_ | refine xE (by omega) ?_ | refine xF (by omega) ?_ | refine xG ?_ | refine xH ?_ | refine xI (by omega) ?_ | refine xJ (by omega) ?_ | (with_reducible refine stopA ?_) | refine Exists.intro _ (And.intro (by (first | exact hb | rfl)) ?_) | refine GOp.via (by rfl) ?_ | (with_reducible first | refine stopO ?_ | refine stopE ?_ | refine stopD ?_ | refine stopW ?_ | refine stopG ?_) | (first | (refine GCall.mk ((digit_call c _).mono ?_); rintro _ _ ⟨rfl, rfl⟩) | (refine GCall.mk ((letter_call c _).mono ?_); rintro _ _ ⟨rfl, rfl⟩) | (refine GCall.mk ((in_call c [33, 35, 36, 37, 38, 39, 42, 43, 45, 46, 94, 95, 96, 124, 126] _ (by simp)).mono ?_); rintro _ _ ⟨rfl, rfl⟩)) | (with_reducible refine stopC ?_) | (with_reducible refine stopR ?_)))
    all_goals (first | omega | refine Done'.mk ?_)
    all_goals (first | (refine ⟨?_, rfl⟩; rw [bad (by simp_all [puncB])]; rfl) | skip)
    all_goals (
      have hg : (decide (48 ≤ c.toNat ∧ c.toNat ≤ 57) || letB c || puncB c) = true := by simp_all [puncB]
      obtain ⟨b, h1, h2, rfl⟩ := good hg
      refine ⟨i + 1, h1, h2, rfl, ⟨rfl, iv_eq ?_, trivial⟩, rfl, rfl⟩
      push_cast
      omega)
  · repeat' (first | with_reducible refine And.intro ?_ ?_ | ((with_reducible intro hc); (try simp only [zA, zB, zC, zD, zE, zF, zG, zH, zI, zJ, zK, zL, zM, zN, zO, zP, zQ, zR, zS, zT, zU, zV, zW] at hc); (first | (exact absurd rfl hc) | (exact absurd trivial hc) | (exfalso; omega) | skip)) | ((conv => whnf); first | with_reducible refine And.intro ?_ ?_ | refine ifB_intro ?_ ?_ | refine xA (by omega) ?_ | ((refine xB ?_); intro kw hk1 hk2) | refine xC (by omega) ?_ | refine xD ?_ | refine xE (by omega) ?_ | refine xF (by omega) ?_ | refine xG ?_ | refine xH ?_ | refine xI (by omega) ?_ | refine xJ (by omega) ?_ | (with_reducible refine stopA ?_) | refine Exists.intro _ (And.intro (by rfl) ?_) | refine GOp.via (by rfl) ?_ | (with_reducible first | refine stopO ?_ | refine stopE ?_ | refine stopD ?_ | refine stopW ?_ | refine stopG ?_ | refine stopC ?_ | refine stopR ?_)))
    all_goals (first | omega | refine Done'.mk ⟨?_, rfl⟩)
    have : i = l.length := by omega
    subst this
    rw [List.drop_length] at hgo
    unfold tokenB
    rw [← hgo]
    refine Eq.trans (b := booV (!((⟨l.toArray⟩ : ByteArray).data.toList == (⟨#[]⟩ : ByteArray).data.toList))) rfl ?_
    rw [str_list, str_nil]
    rfl
end Go.Proofs.YtmmjgbdihgdekaaDoor

/- Lower of the document. -/
namespace Go.Proofs.YtmmjgbdihgdekaaDoor
open Go Go.RowKit
set_option linter.unusedSimpArgs false
set_option linter.unusedVariables false
set_option maxRecDepth 100000
set_option maxHeartbeats 4000000
end Go.Proofs.YtmmjgbdihgdekaaDoor

/- All that the headers' texts import. -/

