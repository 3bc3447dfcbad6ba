import Derived.Test.YtmmjgbdihgdekaaDoorI2
import Derived.Test.YtmmjgbdihgdekaaDoorH5
/- Cut, At. -/
namespace Go.Proofs.YtmmjgbdihgdekaaDoor
open Go Go.RowKit
set_option linter.unusedSimpArgs false
set_option linter.unusedVariables false
set_option maxRecDepth 100000
set_option maxHeartbeats 4000000
/-- What is ahead of the first b, what is behind it, and whether there is one. -/
def cutB (l : List UInt8) (b : UInt8) : List UInt8 × List UInt8 × Bool := if l.contains b then (l.take (l.idxOf b), l.drop (l.idxOf b + 1), true) else (l, [], false)
theorem cut_call (l : List UInt8) (b : UInt8) (hl : l.length ≤ 140737488355328) : VCall Tryd.prog 116 [roB l, .sl 0 0 1 (some 1) 1] (H1 b) (fun x K => (x = .tp [roB (cutB l b).1, roB (cutB l b).2.1, booV (cutB l b).2.2] ∨ (cutB l b).2.1 = [] ∧ ∃ n, x = .tp [roB (cutB l b).1, .sc (.slice none 0 n), booV (cutB l b).2.2]) ∧ K = H1 b) := by
  have hr := idxB_range l b
  have hk : ∀ h : 0 ≤ idxB l b, l.contains b = true ∧ (idxB l b).toNat = l.idxOf b ∧ l.idxOf b < l.length := by
    intro h
    by_cases hb : l.contains b = true
    · have := List.idxOf_lt_length_of_mem (a := b) (l := l) (by simpa using hb)
      refine ⟨hb, ?_, this⟩
      unfold idxB
      rw [if_pos hb]
      rfl
    · unfold idxB at h
      rw [if_neg hb] at h
      omega
  have hn : idxB l b < 0 → l.contains b = false := by
    intro h
    by_cases hb : l.contains b = true
    · unfold idxB at h
      rw [if_pos hb] at h
      omega
    · simpa using hb
  refine VCall.go Tryd.func116 rfl ?_
  repeat' (first | with_reducible refine And.intro ?_ ?_ | ((with_reducible intro hc); (try simp only [zA, zB, zC, zD, zE, zF, zG, zH, zI, zJ, zK, zL, zM, zN, zO, zP, zQ, zR, zS, zT, zU, zV, zW] at hc); (first | (exact absurd rfl hc) | (exact absurd trivial hc) | (exfalso; omega) | skip)) | exact Is.mk rfl rfl | ((conv => whnf); first | with_reducible refine And.intro ?_ ?_ | exact Is.mk rfl rfl | (with_reducible apply Val.via) | refine ifB_intro ?_ ?_ | refine xA (by omega) ?_ | ((refine xB ?_); intro kw hk1 hk2) | refine xC (by omega) ?_ | refine xD ?_ | refine xE (by omega) ?_ | refine xF (by omega) ?_ | refine xG ?_ | refine xH ?_ | refine xI (by omega) ?_ | refine xJ (by omega) ?_ | (with_reducible refine stopA ?_) | refine Exists.intro _ (And.intro (by rfl) ?_) | refine GOp.drawn (by rfl) (by rfl) (Nat.le_of_ble_eq_true (by rfl)) (by rfl) | refine GOp.via (by rfl) ?_ | (refine GWP.draw mixed _ (by kernel_rfl) (by rfl) ?_) | (with_reducible first | refine stopO ?_ | refine stopE ?_ | refine stopD ?_ | refine stopW ?_ | refine stopG ?_) | (refine GCall.mk ((index_call l b).mono ?_); rintro _ _ ⟨rfl, rfl⟩) | (with_reducible refine stopC ?_) | (with_reducible refine stopR ?_)))
  all_goals (first | omega | refine Done'.mk ⟨?_, rfl⟩)
  · obtain ⟨h1, h2, h3⟩ := hk hc
    refine .inl (tp3 ?_ ?_ ?_)
    · refine (roB_slice (l := l) rfl ?_ ?_).trans ?_
      · omega
      · omega
      · unfold cutB
        rw [if_pos h1, h2]
        simp
    · refine (roB_slice (l := l) rfl ?_ ?_).trans ?_
      · omega
      · omega
      · unfold cutB
        rw [if_pos h1]
        have : (idxB l b + ((1 : Nat) : Int)).toNat = l.idxOf b + 1 := by omega
        rw [this, List.take_of_length_le (by simp)]
    · unfold cutB
      rw [if_pos h1]
      rfl
  · have h1 := hn hc
    refine .inr ⟨?_, 0, tp3 ?_ rfl ?_⟩
    · unfold cutB; rw [if_neg (by rw [h1]; simp)]
    · unfold cutB; rw [if_neg (by rw [h1]; simp)]; rfl
    · unfold cutB; rw [if_neg (by rw [h1]; simp)]; rfl
end Go.Proofs.YtmmjgbdihgdekaaDoor

/- At. -/
namespace Go.Proofs.YtmmjgbdihgdekaaDoor
open Go Go.RowKit
set_option linter.unusedSimpArgs false
set_option linter.unusedVariables false
set_option maxRecDepth 100000
set_option maxHeartbeats 4000000
theorem cutB_len (l : List UInt8) (b : UInt8) : (cutB l b).1.length ≤ l.length ∧ (cutB l b).2.1.length ≤ l.length := by
  unfold cutB
  split <;> simp <;> omega
/-- A call with less that is known of its arguments. -/
theorem VCall.less {P : Program} {f : FuncId} {args args' : List VV} {H : Heap} {Q : VV → Heap → Prop} (ha : ∀ w Z ρ cs, Pw (VRel w Z ρ) args cs → Pw (VRel w Z ρ) args' cs) (h : VCall P f args' H Q) : VCall P f args H Q := fun B M Z ρ w ra h1 h2 => h B M Z ρ w ra h1 (ha _ _ _ _ h2)
theorem clone_nil (n : Nat) (H : Heap) : VCall Tryd.prog 70 [.sc (.slice none 0 n)] H (fun x K => x = roB [] ∧ K = H) :=
  VCall.less (args' := [roB []]) (fun w Z ρ cs h => ⟨h.1, fun i u c hu hc => by
    cases i with
    | zero =>
      have := h.2 0 _ c rfl hc
      cases this
      simp at hu
      subst hu
      exact .ro0
    | succ i => simp at hu⟩) (clone_call [] H (by simp))
theorem at_call (l : List UInt8) (b : UInt8) (H : Heap) (hl : l.length ≤ 140737488355328) : VCall Tryd.prog 73 [roB l, bV b] H (fun x K => x = .tp [roB (cutB l b).1, roB (cutB l b).2.1, booV (cutB l b).2.2] ∧ K = H) := by
  have hb := cutB_len l b
  refine VCall.frozen (Q := fun v K => Frz K v (.tp [roB (cutB l b).1, roB (cutB l b).2.1, booV (cutB l b).2.2])) (by simp [nameless_roB, nameless_bV]) ?_ (fun v K h => h)
  have hfz : ∀ K, Frz K (.tp [roB (cutB l b).1, roB (cutB l b).2.1, booV (cutB l b).2.2]) (.tp [roB (cutB l b).1, roB (cutB l b).2.1, booV (cutB l b).2.2]) := fun K => Frz.of (nameless_tp (by simp [nameless_roB, booV, nameless_sc]))
  refine VCall.go Tryd.func73 rfl ?_
  repeat' (first | with_reducible refine And.intro ?_ ?_ | ((with_reducible intro hc); (try simp only [zA, zB, zC, zD, zE, zF, zG, zH, zI, zJ, zK, zL, zM, zN, zO, zP, zQ, zR, zS, zT, zU, zV, zW] at hc); (first | (exact absurd rfl hc) | (exact absurd trivial hc) | (exfalso; omega) | skip)) | ((conv => whnf); first | with_reducible refine And.intro ?_ ?_ | refine ifB_intro ?_ ?_ | refine xA (by omega) ?_ | ((refine xB ?_); intro kw hk1 hk2) | refine xC (by omega) ?_ | refine xD ?_ | refine xE (by omega) ?_ | refine xF (by omega) ?_ | refine xG ?_ | refine xH ?_ | refine xI (by omega) ?_ | refine xJ (by omega) ?_ | (with_reducible refine stopA ?_) | refine Exists.intro _ (And.intro (by rfl) ?_) | refine GOp.via (by rfl) ?_ | (with_reducible first | refine stopO ?_ | refine stopE ?_ | refine stopD ?_ | refine stopW ?_ | refine stopG ?_ | refine stopC ?_ | refine stopR ?_)))
  refine GCall'.mk ((cut_call l b hl).mono ?_)
  rintro _ _ ⟨rfl | ⟨hnil, n, rfl⟩, rfl⟩
  · repeat' (first | with_reducible refine And.intro ?_ ?_ | ((with_reducible intro hc); (try simp only [zA, zB, zC, zD, zE, zF, zG, zH, zI, zJ, zK, zL, zM, zN, zO, zP, zQ, zR, zS, zT, zU, zV, zW] at hc); (first | (exact absurd rfl hc) | (exact absurd trivial hc) | (exfalso; omega) | skip)) | ((conv => whnf); first | with_reducible refine And.intro ?_ ?_ | refine ifB_intro ?_ ?_ | refine xA (by omega) ?_ | ((refine xB ?_); intro kw hk1 hk2) | refine xC (by omega) ?_ | refine xD ?_ | refine xE (by omega) ?_ | refine xF (by omega) ?_ | refine xG ?_ | refine xH ?_ | refine xI (by omega) ?_ | refine xJ (by omega) ?_ | (with_reducible refine stopA ?_) | refine Exists.intro _ (And.intro (by rfl) ?_) | refine GOp.via (by rfl) ?_ | (with_reducible first | refine stopO ?_ | refine stopE ?_ | refine stopD ?_ | refine stopW ?_ | refine stopG ?_) | (first | (refine GCall.mk ((clone_call (cutB l b).1 _ (by omega)).mono ?_); rintro _ _ ⟨rfl, rfl⟩) | (refine GCall.mk ((clone_call (cutB l b).2.1 _ (by omega)).mono ?_); rintro _ _ ⟨rfl, rfl⟩)) | (with_reducible refine stopC ?_) | (with_reducible refine stopR ?_)))
    exact Done'.mk (hfz _)
  · rw [hnil] at hfz ⊢
    repeat' (first | with_reducible refine And.intro ?_ ?_ | ((with_reducible intro hc); (try simp only [zA, zB, zC, zD, zE, zF, zG, zH, zI, zJ, zK, zL, zM, zN, zO, zP, zQ, zR, zS, zT, zU, zV, zW] at hc); (first | (exact absurd rfl hc) | (exact absurd trivial hc) | (exfalso; omega) | skip)) | ((conv => whnf); first | with_reducible refine And.intro ?_ ?_ | refine ifB_intro ?_ ?_ | refine xA (by omega) ?_ | ((refine xB ?_); intro kw hk1 hk2) | refine xC (by omega) ?_ | refine xD ?_ | refine xE (by omega) ?_ | refine xF (by omega) ?_ | refine xG ?_ | refine xH ?_ | refine xI (by omega) ?_ | refine xJ (by omega) ?_ | (with_reducible refine stopA ?_) | refine Exists.intro _ (And.intro (by rfl) ?_) | refine GOp.via (by rfl) ?_ | (with_reducible first | refine stopO ?_ | refine stopE ?_ | refine stopD ?_ | refine stopW ?_ | refine stopG ?_) | (first | (refine GCall.mk ((clone_call (cutB l b).1 _ (by omega)).mono ?_); rintro _ _ ⟨rfl, rfl⟩) | (refine GCall.mk ((clone_nil n _).mono ?_); rintro _ _ ⟨rfl, rfl⟩)) | (with_reducible refine stopC ?_) | (with_reducible refine stopR ?_)))
    exact Done'.mk (hfz _)
end Go.Proofs.YtmmjgbdihgdekaaDoor

/- In, Digit, Number of the document. -/
namespace Go.Proofs.YtmmjgbdihgdekaaDoor
open Go Go.RowKit
set_option linter.unusedSimpArgs false
set_option linter.unusedVariables false
set_option maxRecDepth 100000
set_option maxHeartbeats 4000000
end Go.Proofs.YtmmjgbdihgdekaaDoor

/- lower; At of the document. -/
namespace Go.Proofs.YtmmjgbdihgdekaaDoor
open Go Go.RowKit
set_option linter.unusedSimpArgs false
set_option linter.unusedVariables false
set_option maxRecDepth 100000
set_option maxHeartbeats 4000000
end Go.Proofs.YtmmjgbdihgdekaaDoor

/- Lower. -/
namespace Go.Proofs.YtmmjgbdihgdekaaDoor
open Go Go.RowKit
set_option linter.unusedSimpArgs false
set_option linter.unusedVariables false
set_option maxRecDepth 100000
set_option maxHeartbeats 4000000
end Go.Proofs.YtmmjgbdihgdekaaDoor

/- sign, Token, Same; Letter, Token of the document. -/
namespace Go.Proofs.YtmmjgbdihgdekaaDoor
open Go Go.RowKit
set_option linter.unusedSimpArgs false
set_option linter.unusedVariables false
set_option maxRecDepth 100000
set_option maxHeartbeats 4000000
end Go.Proofs.YtmmjgbdihgdekaaDoor

