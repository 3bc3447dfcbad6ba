import Derived.Test.YtmmjgbdihgdekaaDoorI2
import Derived.Test.YtmmjgbdihgdekaaDoorH5
/- Cut, At. -/
namespace Go.Proofs.YtmmjgbdihgdekaaDoor
open Go Go.RowKit
set_option linter.unusedSimpArgs false
set_option linter.unusedVariables false
set_option maxRecDepth 100000
set_option maxHeartbeats 4000000
/-- What is ahead of the first b, what is behind it, and whether there is one. -/
def cutB (l : List UInt8) (b : UInt8) : List UInt8 × List UInt8 × Bool := if l.contains b then (l.take (l.idxOf b), l.drop (l.idxOf b + 1), true) else (l, [], false)
theorem cut_call (l : List UInt8) (b : UInt8) (hl : l.length ≤ 140737488355328) : VCall Tryd.prog 116 [roB l, .sl 0 0 1 (some 1) 1] (H1 b) (fun x K => (x = .tp [roB (cutB l b).1, roB (cutB l b).2.1, booV (cutB l b).2.2] ∨ (cutB l b).2.1 = [] ∧ ∃ n, x = .tp [roB (cutB l b).1, .sc (.slice none 0 n), booV (cutB l b).2.2]) ∧ K = H1 b) := by
  have hr := idxB_range l b
  have hk : ∀ h : 0 ≤ idxB l b, l.contains b = true ∧ (idxB l b).toNat = l.idxOf b ∧ l.idxOf b < l.length := by
    intro h
    by_cases hb : l.contains b = true
    · have := List.idxOf_lt_length_of_mem (a := b) (l := l) (by simpa using hb)
      refine ⟨hb, ?_, this⟩
      unfold idxB
      rw [if_pos hb]
      rfl
    · unfold idxB at h
      rw [if_neg hb] at h
      omega
  have hn : idxB l b < 0 → l.contains b = false := by
    intro h
    by_cases hb : l.contains b = true
    · unfold idxB at h
      rw [if_pos hb] at h
      omega
    · simpa using hb
  refine VCall.go Tryd.func116 rfl ?_
  repeat' (first | with_reducible refine And.intro ?_ ?_ | ((with_reducible intro hc); (try simp only [zA, zB, zC, zD, zE, zF, zG, zH, zI, zJ, zK, zL, zM, zN, zO, zP, zQ, zR, zS, zT, zU, zV, zW] at hc); (first | (exact absurd rfl hc) | (exact absurd trivial hc) | (exfalso; omega) | skip)) | exact Is.mk rfl rfl | ((conv => whnf); first | with_reducible refine And.intro ?_ ?_ | exact Is.mk rfl rfl | (with_reducible apply Val.via) | refine ifB_intro ?_ ?_ | refine xA (by omega) ?_ | ((refine xB ?_); intro kw hk1 hk2) | refine xC (by omega) ?_ | refine xD ?_ | refine xE (by omega) ?_ | refine xF (by omega) ?_ | refine xG ?_ | refine xH ?_ | refine xI (by omega) ?_ | refine xJ (by omega) ?_ | (with_reducible refine stopA ?_) | refine Exists.intro _ (And.intro (by rfl) ?_) | refine GOp.drawn (by rfl) (by rfl) (Nat.le_of_ble_eq_true (by rfl)) (by rfl) | refine GOp.via (by rfl) ?_ | (refine GWP.draw mixed _ (by kernel_rfl) (by rfl) ?_) | (with_reducible first | refine stopO ?_ | refine stopE ?_ | refine stopD ?_ | refine stopW ?_ | refine stopG ?_) | (refine GCall.mk ((index_call l b).mono ?_); rintro _ _ ⟨rfl, rfl⟩) | (with_reducible refine stopC ?_) | (with_reducible refine stopR ?_)))
  all_goals (first | omega | refine Done'.mk ⟨?_, rfl⟩)
  · obtain ⟨h1, h2, h3⟩ := hk hc
    refine .inl (tp3 ?_ ?_ ?_)
    · refine (roB_slice (l := l) rfl ?_ ?_).trans ?_
      · omega
      · omega
      · unfold cutB
        rw [if_pos h1, h2]
        simp
    · refine (roB_slice (l := l) rfl ?_ ?_).trans ?_
      · omega
      · omega
      · unfold cutB
        rw [if_pos h1]
        have : (idxB l b + ((1 : Nat) : Int)).toNat = l.idxOf b + 1 := by omega
        rw [this, List.take_of_length_le (by simp)]
    · unfold cutB
      rw [if_pos h1]
      rfl
  · have h1 := hn hc
    refine .inr ⟨?_, 0, tp3 ?_ rfl ?_⟩
    · unfold cutB; rw [if_neg (by rw [h1]; simp)]
    · unfold cutB; rw [if_neg (by rw [h1]; simp)]; rfl
    · unfold cutB; rw [if_neg (by rw [h1]; simp)]; rfl
end Go.Proofs.YtmmjgbdihgdekaaDoor

/- At. -/
namespace Go.Proofs.YtmmjgbdihgdekaaDoor
open Go Go.RowKit
set_option linter.unusedSimpArgs false
set_option linter.unusedVariables false
set_option maxRecDepth 100000
set_option maxHeartbeats 4000000
theorem cutB_len (l : List UInt8) (b : UInt8) : (cutB l b).1.length ≤ l.length ∧ (cutB l b).2.1.length ≤ l.length := by
  unfold cutB
  split <;> simp <;> omega
/-- A call with less that is known of its arguments. -/
theorem VCall.less {P : Program} {f : FuncId} {args args' : List VV} {H : Heap} {Q : VV → Heap → Prop} (ha : ∀ w Z ρ cs, Pw (VRel w Z ρ) args cs → Pw (VRel w Z ρ) args' cs) (h : VCall P f args' H Q) : VCall P f args H Q := fun B M Z ρ w ra h1 h2 => h B M Z ρ w ra h1 (ha _ _ _ _ h2)
theorem clone_nil (n : Nat) (H : Heap) : VCall Tryd.prog 70 [.sc (.slice none 0 n)] H (fun x K => x = roB [] ∧ K = H) :=
  VCall.less (args' := [roB []]) (fun w Z ρ cs h => ⟨h.1, fun i u c hu hc => by
    cases i with
    | zero =>
      have := h.2 0 _ c rfl hc
      cases this
      simp at hu
      subst hu
      exact .ro0
    | succ i => simp at hu⟩) (clone_call [] H (by simp))
theorem at_call (l : List UInt8) (b : UInt8) (H : Heap) (hl : l.length ≤ 140737488355328) : VCall Tryd.prog 73 [roB l, bV b] H (fun x K => x = .tp [roB (cutB l b).1, roB (cutB l b).2.1, booV (cutB l b).2.2] ∧ K = H) := by
  have hb := cutB_len l b
  refine VCall.frozen (Q := fun v K => Frz K v (.tp [roB (cutB l b).1, roB (cutB l b).2.1, booV (cutB l b).2.2])) (by simp [nameless_roB, nameless_bV]) ?_ (fun v K h => h)
  have hfz : ∀ K, Frz K (.tp [roB (cutB l b).1, roB (cutB l b).2.1, booV (cutB l b).2.2]) (.tp [roB (cutB l b).1, roB (cutB l b).2.1, booV (cutB l b).2.2]) := fun K => Frz.of (nameless_tp (by simp [nameless_roB, booV, nameless_sc]))
  refine VCall.go Tryd.func73 rfl ?_
  repeat' (first | with_reducible refine And.intro ?_ ?_ | ((with_reducible intro hc); (try simp only [zA, zB, zC, zD, zE, zF, zG, zH, zI, zJ, zK, zL, zM, zN, zO, zP, zQ, zR, zS, zT, zU, zV, zW] at hc); (first | (exact absurd rfl hc) | (exact absurd trivial hc) | (exfalso; omega) | skip)) | ((conv => whnf); first | with_reducible refine And.intro ?_ ?_ | refine ifB_intro ?_ ?_ | refine xA (by omega) ?_ | ((refine xB ?_); intro kw hk1 hk2) | refine xC (by omega) ?_ | refine xD ?_ | refine xE (by omega) ?_ | refine xF (by omega) ?_ | refine xG ?_ | refine xH ?_ | refine xI (by omega) ?_ | refine xJ (by omega) ?_ | (with_reducible refine stopA ?_) | refine Exists.intro _ (And.intro (by rfl) ?_) | refine GOp.via (by rfl) ?_ | (with_reducible first | refine stopO ?_ | refine stopE ?_ | refine stopD ?_ | refine stopW ?_ | refine stopG ?_ | refine stopC ?_ | refine stopR ?_)))
  refine GCall'.mk ((cut_call l b hl).mono ?_)
  rintro _ _ ⟨rfl | ⟨hnil, n, rfl⟩, rfl⟩
  · repeat' (first | with_reducible refine And.intro ?_ ?_ | ((with_reducible intro hc); (try simp only [zA, zB, zC, zD, zE, zF, zG, zH, zI, zJ, zK, zL, zM, zN, zO, zP, zQ, zR, zS, zT, zU, zV, zW] at hc); (first | (exact absurd rfl hc) | (exact absurd trivial hc) | (exfalso; omega) | skip)) | ((conv => whnf); first | with_reducible refine And.intro ?_ ?_ | refine ifB_intro ?_ ?_ | refine xA (by omega) ?_ | ((refine xB ?_); intro kw hk1 hk2) | refine xC (by omega) ?_ | refine xD ?_ | refine xE (by omega) ?_ | refine xF (by omega) ?_ | refine xG ?_ | refine xH ?_ | refine xI (by omega) ?_ | refine xJ (by omega) ?_ | (with_reducible refine stopA ?_) | refine Exists.intro _ (And.intro (by rfl) ?_) | refine GOp.via (by rfl) ?_ | (with_reducible first | refine stopO ?_ | refine stopE ?_ | refine stopD ?_ | refine stopW ?_ | refine stopG ?_) | (first | (refine GCall.mk ((clone_call (cutB l b).1 _ (by omega)).mono ?_); rintro _ _ ⟨rfl, rfl⟩) | (refine GCall.mk ((clone_call (cutB l b).2.1 _ (by omega)).mono ?_); rintro _ _ ⟨rfl, rfl⟩)) | (with_reducible refine stopC ?_) | (with_reducible refine stopR ?_)))
    exact Done'.mk (hfz _)
  · rw [hnil] at hfz ⊢
    repeat' (first | with_reducible refine And.intro ?_ ?_ | ((with_reducible intro hc); (try simp only [zA, zB, zC, zD, zE, zF, zG, zH, zI, zJ, zK, zL, zM, zN, zO, zP, zQ, zR, zS, zT, zU, zV, zW] at hc); (first | (exact absurd rfl hc) | (exact absurd trivial hc) | (exfalso; omega) | skip)) | ((conv => whnf); first | with_reducible refine And.intro ?_ ?_ | refine ifB_intro ?_ ?_ | refine xA (by omega) ?_ | ((refine xB ?_); intro kw hk1 hk2) | refine xC (by omega) ?_ | refine xD ?_ | refine xE (by omega) ?_ | refine xF (by omega) ?_ | refine xG ?_ | refine xH ?_ | refine xI (by omega) ?_ | refine xJ (by omega) ?_ | (with_reducible refine stopA ?_) | refine Exists.intro _ (And.intro (by rfl) ?_) | refine GOp.via (by rfl) ?_ | (with_reducible first | refine stopO ?_ | refine stopE ?_ | refine stopD ?_ | refine stopW ?_ | refine stopG ?_) | (first | (refine GCall.mk ((clone_call (cutB l b).1 _ (by omega)).mono ?_); rintro _ _ ⟨rfl, rfl⟩) | (refine GCall.mk ((clone_nil n _).mono ?_); rintro _ _ ⟨rfl, rfl⟩)) | (with_reducible refine stopC ?_) | (with_reducible refine stopR ?_)))
    exact Done'.mk (hfz _)
end Go.Proofs.YtmmjgbdihgdekaaDoor

/- In, Digit, Number of the document. -/
namespace Go.Proofs.YtmmjgbdihgdekaaDoor
open Go Go.RowKit
set_option linter.unusedSimpArgs false
set_option linter.unusedVariables false
set_option maxRecDepth 100000
set_option maxHeartbeats 4000000
theorem in_call (b : UInt8) (s : List UInt8) (H : Heap) (hs : s.length ≤ 4611686018427387904) : VCall Tryd.prog 102 [bV b, strV s] H (fun x K => x = booV (s.contains b) ∧ K = H) := by
  refine VCall.go Tryd.func102 rfl ?_
  repeat' (first | with_reducible refine And.intro ?_ ?_ | ((with_reducible intro hc); (try simp only [zA, zB, zC, zD, zE, zF, zG, zH, zI, zJ, zK, zL, zM, zN, zO, zP, zQ, zR, zS, zT, zU, zV, zW] at hc); (first | (exact absurd rfl hc) | (exact absurd trivial hc) | (exfalso; omega) | skip)) | ((conv => whnf); first | with_reducible refine And.intro ?_ ?_ | refine ifB_intro ?_ ?_ | refine xA (by omega) ?_ | ((refine xB ?_); intro kw hk1 hk2) | refine xC (by omega) ?_ | refine xD ?_ | refine xE (by omega) ?_ | refine xF (by omega) ?_ | refine xG ?_ | refine xH ?_ | refine xI (by omega) ?_ | refine xJ (by omega) ?_ | (with_reducible refine stopA ?_) | refine Exists.intro _ (And.intro (by rfl) ?_) | refine GOp.via (by rfl) ?_ | (with_reducible first | refine stopO ?_ | refine stopE ?_ | refine stopD ?_ | refine stopW ?_ | refine stopG ?_ | refine stopC ?_ | refine stopR ?_)))
  refine GWP'.mk (GWP.loopK (α := Nat) (fun i => i ≤ s.length ∧ (s.drop i).contains b = s.contains b) (fun i => [(0, bV b), (1, strV s), (5, iV i)]) (fun _ => H) [] 17 (fun i => s.length - i) 0 ⟨Nat.zero_le _, rfl⟩ ⟨rfl, ⟨rfl, rfl, rfl, trivial⟩, rfl, rfl⟩ ?_)
  rintro i ⟨hi, hgo⟩
  obtain ⟨k5, e5, e51, e52⟩ := wrap_i64 ((i : Int) + 1)
  by_cases hil : i < s.length
  · have hb : ∃ c, s[i]? = some c := ⟨s[i], by simp⟩
    obtain ⟨c, hb⟩ := hb
    obtain ⟨h, e⟩ := List.getElem?_eq_some_iff.1 hb
    rw [List.drop_eq_getElem_cons h, e, List.contains_cons] at hgo
    repeat' (first | with_reducible refine And.intro ?_ ?_ | ((with_reducible intro hc); (try simp only [zA, zB, zC, zD, zE, zF, zG, zH, zI, zJ, zK, zL, zM, zN, zO, zP, zQ, zR, zS, zT, zU, zV, zW] at hc); (first | (exact absurd rfl hc) | (exact absurd trivial hc) | (exfalso; omega) | skip)) | ((conv => whnf); first | with_reducible refine And.intro ?_ ?_ | refine ifB_intro ?_ ?_ | refine xA (by omega) ?_ | ((refine xB ?_); intro kw hk1 hk2) | refine xC (by omega) ?_ | refine xD ?_ | refine xE (by omega) ?_ | refine xF (by omega) ?_ | refine xG ?_ | refine xH ?_ | refine xI (by omega) ?_ | refine xJ (by omega) ?_ | (with_reducible refine stopA ?_) | refine Exists.intro _ (And.intro (by first | exact hb | rfl) ?_) | refine GOp.via (by rfl) ?_ | (with_reducible first | refine stopO ?_ | refine stopE ?_ | refine stopD ?_ | refine stopW ?_ | refine stopG ?_ | refine stopC ?_ | refine stopR ?_)))
    all_goals (first | omega | refine Done'.mk ?_)
    · have : c = b := UInt8.toNat_inj.1 (by omega)
      subst this
      rw [← hgo]
      exact ⟨by simp [booV], rfl⟩
    · have : (b == c) = false := by
        simp only [beq_eq_false_iff_ne, ne_eq]
        intro e
        subst e
        exact hc rfl
      rw [this, Bool.false_or] at hgo
      refine ⟨i + 1, ⟨by omega, hgo⟩, by omega, rfl, ⟨rfl, rfl, iv_eq ?_, trivial⟩, rfl, rfl⟩
      push_cast
      omega
  · repeat' (first | with_reducible refine And.intro ?_ ?_ | ((with_reducible intro hc); (try simp only [zA, zB, zC, zD, zE, zF, zG, zH, zI, zJ, zK, zL, zM, zN, zO, zP, zQ, zR, zS, zT, zU, zV, zW] at hc); (first | (exact absurd rfl hc) | (exact absurd trivial hc) | (exfalso; omega) | skip)) | ((conv => whnf); first | with_reducible refine And.intro ?_ ?_ | refine ifB_intro ?_ ?_ | refine xA (by omega) ?_ | ((refine xB ?_); intro kw hk1 hk2) | refine xC (by omega) ?_ | refine xD ?_ | refine xE (by omega) ?_ | refine xF (by omega) ?_ | refine xG ?_ | refine xH ?_ | refine xI (by omega) ?_ | refine xJ (by omega) ?_ | (with_reducible refine stopA ?_) | refine Exists.intro _ (And.intro (by first | rfl) ?_) | refine GOp.via (by rfl) ?_ | (with_reducible first | refine stopO ?_ | refine stopE ?_ | refine stopD ?_ | refine stopW ?_ | refine stopG ?_ | refine stopC ?_ | refine stopR ?_)))
    all_goals (first | omega | refine Done'.mk ?_)
    have : i = s.length := by omega
    subst this
    rw [List.drop_length] at hgo
    exact ⟨by rw [← hgo]; rfl, rfl⟩
def digB (b : UInt8) : Bool := decide (48 ≤ b.toNat ∧ b.toNat ≤ 57)
theorem dig_eq (b : UInt8) : ([48, 49, 50, 51, 52, 53, 54, 55, 56, 57] : List UInt8).contains b = digB b := by
  unfold digB
  simp only [List.contains_cons, List.contains_nil, Bool.or_false]
  rw [Bool.eq_iff_iff]
  simp only [Bool.or_eq_true, beq_iff_eq, decide_eq_true_eq, ← UInt8.toNat_inj]
  simp
  omega
theorem ndigit_call (b : UInt8) (H : Heap) : VCall Tryd.prog 125 [bV b] H (fun x K => x = booV (decide (48 ≤ b.toNat ∧ b.toNat ≤ 57)) ∧ K = H) := by
  refine VCall.go Tryd.func125 rfl ?_
  repeat' (first | with_reducible refine And.intro ?_ ?_ | ((with_reducible intro hc); (try simp only [zA, zB, zC, zD, zE, zF, zG, zH, zI, zJ, zK, zL, zM, zN, zO, zP, zQ, zR, zS, zT, zU, zV, zW] at hc); (first | (exact absurd rfl hc) | (exact absurd trivial hc) | (exfalso; omega) | skip)) | ((conv => whnf); first | with_reducible refine And.intro ?_ ?_ | refine ifB_intro ?_ ?_ | refine xA (by omega) ?_ | ((refine xB ?_); intro kw hk1 hk2) | refine xC (by omega) ?_ | refine xD ?_ | refine xE (by omega) ?_ | refine xF (by omega) ?_ | refine xG ?_ | refine xH ?_ | refine xI (by omega) ?_ | refine xJ (by omega) ?_ | (with_reducible refine stopA ?_) | refine Exists.intro _ (And.intro (by rfl) ?_) | refine GOp.via (by rfl) ?_ | (with_reducible first | refine stopO ?_ | refine stopE ?_ | refine stopD ?_ | refine stopW ?_ | refine stopG ?_ | refine stopC ?_ | refine stopR ?_)))
  refine GCall'.mk ((in_call b [48, 49, 50, 51, 52, 53, 54, 55, 56, 57] H (by simp)).mono ?_)
  rintro _ _ ⟨rfl, rfl⟩
  rw [dig_eq]
  repeat' (first | with_reducible refine And.intro ?_ ?_ | ((with_reducible intro hc); (try simp only [zA, zB, zC, zD, zE, zF, zG, zH, zI, zJ, zK, zL, zM, zN, zO, zP, zQ, zR, zS, zT, zU, zV, zW] at hc); (first | (exact absurd rfl hc) | (exact absurd trivial hc) | (exfalso; omega) | skip)) | ((conv => whnf); first | with_reducible refine And.intro ?_ ?_ | refine ifB_intro ?_ ?_ | refine xA (by omega) ?_ | ((refine xB ?_); intro kw hk1 hk2) | refine xC (by omega) ?_ | refine xD ?_ | refine xE (by omega) ?_ | refine xF (by omega) ?_ | refine xG ?_ | refine xH ?_ | refine xI (by omega) ?_ | refine xJ (by omega) ?_ | (with_reducible refine stopA ?_) | refine Exists.intro _ (And.intro (by rfl) ?_) | refine GOp.via (by rfl) ?_ | (with_reducible first | refine stopO ?_ | refine stopE ?_ | refine stopD ?_ | refine stopW ?_ | refine stopG ?_ | refine stopC ?_ | refine stopR ?_)))
  exact ⟨rfl, rfl⟩
end Go.Proofs.YtmmjgbdihgdekaaDoor

/- lower; At of the document. -/
namespace Go.Proofs.YtmmjgbdihgdekaaDoor
open Go Go.RowKit
set_option linter.unusedSimpArgs false
set_option linter.unusedVariables false
set_option maxRecDepth 100000
set_option maxHeartbeats 4000000
def lowB (b : UInt8) : UInt8 := if 65 ≤ b.toNat ∧ b.toNat ≤ 90 then b + 32 else b
theorem lowB_nat (b : UInt8) : ((lowB b).toNat : Int) = if 65 ≤ b.toNat ∧ b.toNat ≤ 90 then (b.toNat : Int) + 32 else b.toNat := by
  unfold lowB
  split
  · have := u8_lt b
    simp only [UInt8.toNat_add]
    simp
    omega
  · rfl
theorem ext_str (l : List UInt8) (a b : Nat) : (⟨l.toArray⟩ : ByteArray).extract a b = ⟨((l.drop a).take (b - a)).toArray⟩ := by
  apply ByteArray.ext
  rw [ByteArray.data_extract]
  simp [List.extract_eq_take_drop]
theorem ext_eq {l m : List UInt8} {a b : Nat} (h : (l.drop a).take (b - a) = m) : VV.sc (.string ((⟨l.toArray⟩ : ByteArray).extract a b)) = strV m := by
  rw [ext_str, h]; rfl
theorem idx_at {l : List UInt8} {i : Nat} {b : UInt8} (hn : (l.take i).contains b = false) (h : l[i]? = some b) : l.contains b = true ∧ l.idxOf b = i := by
  obtain ⟨hi, e⟩ := List.getElem?_eq_some_iff.1 h
  have hs : l = l.take i ++ b :: l.drop (i + 1) := by
    rw [← e, ← List.drop_eq_getElem_cons hi, List.take_append_drop]
  have hm : ¬ b ∈ l.take i := by
    intro h
    have : (l.take i).contains b = true := by simpa using h
    rw [hn] at this
    cases this
  constructor
  · simp only [List.contains_eq_mem, decide_eq_true_eq]
    exact List.mem_of_getElem? h
  · rw [hs, List.idxOf_append, if_neg hm]
    simp
    omega
theorem take_nextC {l : List UInt8} {i : Nat} {b c : UInt8} (hn : (l.take i).contains b = false) (h : l[i]? = some c) (hc : ¬ c = b) : (l.take (i + 1)).contains b = false := by
  obtain ⟨hi, e⟩ := List.getElem?_eq_some_iff.1 h
  rw [List.take_succ_eq_append_getElem hi, e]
  simp at hn ⊢
  exact ⟨hn, fun q => hc q.symm⟩
theorem rat_call (l : List UInt8) (b : UInt8) (H : Heap) (hl : l.length ≤ 4611686018427387904) : VCall Tryd.prog 84 [strV l, bV b] H (fun x K => x = .tp [strV (cutB l b).1, strV (cutB l b).2.1, booV (cutB l b).2.2] ∧ K = H) := by
  refine VCall.go Tryd.func84 rfl ?_
  repeat' (first | with_reducible refine And.intro ?_ ?_ | ((with_reducible intro hc); (try simp only [zA, zB, zC, zD, zE, zF, zG, zH, zI, zJ, zK, zL, zM, zN, zO, zP, zQ, zR, zS, zT, zU, zV, zW] at hc); (first | (exact absurd rfl hc) | (exact absurd trivial hc) | (exfalso; omega) | skip)) | ((conv => whnf); first | with_reducible refine And.intro ?_ ?_ | refine ifB_intro ?_ ?_ | refine xA (by omega) ?_ | ((refine xB ?_); intro kw hk1 hk2) | refine xC (by omega) ?_ | refine xD ?_ | refine xE (by omega) ?_ | refine xF (by omega) ?_ | refine xG ?_ | refine xH ?_ | refine xI (by omega) ?_ | refine xJ (by omega) ?_ | (with_reducible refine stopA ?_) | refine Exists.intro _ (And.intro (by rfl) ?_) | refine GOp.via (by rfl) ?_ | (with_reducible first | refine stopO ?_ | refine stopE ?_ | refine stopD ?_ | refine stopW ?_ | refine stopG ?_ | refine stopC ?_ | refine stopR ?_)))
  refine GWP'.mk (GWP.loopK (α := Nat) (fun i => i ≤ l.length ∧ (l.take i).contains b = false) (fun i => [(0, strV l), (1, bV b), (7, iV i)]) (fun _ => H) [] 27 (fun i => l.length - i) 0 ⟨Nat.zero_le _, by simp⟩ ⟨rfl, ⟨rfl, rfl, rfl, trivial⟩, rfl, rfl⟩ ?_)
  rintro i ⟨hi, hgo⟩
  by_cases hil : i < l.length
  · have hb : ∃ c, l[i]? = some c := ⟨l[i], by simp⟩
    obtain ⟨c, hb⟩ := hb
    repeat' (first | with_reducible refine And.intro ?_ ?_ | ((with_reducible intro hc); (try simp only [zA, zB, zC, zD, zE, zF, zG, zH, zI, zJ, zK, zL, zM, zN, zO, zP, zQ, zR, zS, zT, zU, zV, zW] at hc); (first | (exact absurd rfl hc) | (exact absurd trivial hc) | (exfalso; omega) | skip)) | exact Is.mk rfl rfl | ((conv => whnf); first | with_reducible refine And.intro ?_ ?_ | exact Is.mk rfl rfl | (with_reducible apply Val.via) | refine ifB_intro ?_ ?_ | refine xA (by omega) ?_ | ((refine xB ?_); intro kw hk1 hk2) | refine xC (by omega) ?_ | refine xD ?_ | refine xE (by omega) ?_ | refine xF (by omega) ?_ | refine xG ?_ | refine xH ?_ | refine xI (by omega) ?_ | refine xJ (by omega) ?_ | (with_reducible refine stopA ?_) | refine Exists.intro _ (And.intro (by (first | exact hb | rfl)) ?_) | refine GOp.drawn (by rfl) (by rfl) (Nat.le_of_ble_eq_true (by rfl)) (by rfl) | refine GOp.via (by rfl) ?_ | (refine GWP.draw mixed _ (by kernel_rfl) (by rfl) ?_) | (with_reducible first | refine stopO ?_ | refine stopE ?_ | refine stopD ?_ | refine stopW ?_ | refine stopG ?_) | fail | (with_reducible refine stopC ?_) | (with_reducible refine stopR ?_)))
    all_goals (try simp only [str_size])
    all_goals (first | omega | refine Done'.mk ?_)
    · have : c = b := UInt8.toNat_inj.1 (by omega)
      subst this
      obtain ⟨h1, h2⟩ := idx_at hgo hb
      refine ⟨tp3 (ext_eq ?_) (ext_eq ?_) ?_, by trivial⟩
      · unfold cutB
        rw [if_pos h1, h2]
        simp
      · unfold cutB
        rw [if_pos h1, h2]
        have : ((i : Int) + 1).toNat = i + 1 := by omega
        rw [this, List.take_of_length_le (by simp [str_size])]
      · unfold cutB
        rw [if_pos h1]
        rfl
    · have hc' : ¬ c = b := fun e => hc (by rw [e])
      refine ⟨i + 1, ⟨by omega, take_nextC hgo hb hc'⟩, by omega, rfl, ⟨rfl, rfl, iv_eq ?_, trivial⟩, rfl, rfl⟩
      push_cast
      omega
  · repeat' (first | with_reducible refine And.intro ?_ ?_ | ((with_reducible intro hc); (try simp only [zA, zB, zC, zD, zE, zF, zG, zH, zI, zJ, zK, zL, zM, zN, zO, zP, zQ, zR, zS, zT, zU, zV, zW] at hc); (first | (exact absurd rfl hc) | (exact absurd trivial hc) | (exfalso; omega) | skip)) | ((conv => whnf); first | with_reducible refine And.intro ?_ ?_ | refine ifB_intro ?_ ?_ | refine xA (by omega) ?_ | ((refine xB ?_); intro kw hk1 hk2) | refine xC (by omega) ?_ | refine xD ?_ | refine xE (by omega) ?_ | refine xF (by omega) ?_ | refine xG ?_ | refine xH ?_ | refine xI (by omega) ?_ | refine xJ (by omega) ?_ | (with_reducible refine stopA ?_) | refine Exists.intro _ (And.intro (by rfl) ?_) | refine GOp.via (by rfl) ?_ | (with_reducible first | refine stopO ?_ | refine stopE ?_ | refine stopD ?_ | refine stopW ?_ | refine stopG ?_ | refine stopC ?_ | refine stopR ?_)))
    all_goals (first | omega | refine Done'.mk ?_)
    have : i = l.length := by omega
    subst this
    rw [List.take_length] at hgo
    unfold cutB
    rw [if_neg (by rw [hgo]; simp)]
    exact ⟨rfl, rfl⟩
end Go.Proofs.YtmmjgbdihgdekaaDoor

/- Lower. -/
namespace Go.Proofs.YtmmjgbdihgdekaaDoor
open Go Go.RowKit
set_option linter.unusedSimpArgs false
set_option linter.unusedVariables false
set_option maxRecDepth 100000
set_option maxHeartbeats 4000000
end Go.Proofs.YtmmjgbdihgdekaaDoor

/- sign, Token, Same; Letter, Token of the document. -/
namespace Go.Proofs.YtmmjgbdihgdekaaDoor
open Go Go.RowKit
set_option linter.unusedSimpArgs false
set_option linter.unusedVariables false
set_option maxRecDepth 100000
set_option maxHeartbeats 4000000
def letB (b : UInt8) : Bool := ([97, 98, 99, 100, 101, 102, 103, 104, 105, 106, 107, 108, 109, 110, 111, 112, 113, 114, 115, 116, 117, 118, 119, 120, 121, 122] : List UInt8).contains b || ([65, 66, 67, 68, 69, 70, 71, 72, 73, 74, 75, 76, 77, 78, 79, 80, 81, 82, 83, 84, 85, 86, 87, 88, 89, 90] : List UInt8).contains b
def dgB (b : UInt8) : Bool := Nat.ble 48 b.toNat && Nat.ble b.toNat 57
def puncB (b : UInt8) : Bool := ([33, 35, 36, 37, 38, 39, 42, 43, 45, 46, 94, 95, 96, 124, 126] : List UInt8).contains b
def tokB (b : UInt8) : Bool := dgB b || letB b || puncB b
theorem dgB_eq (b : UInt8) : decide (48 ≤ b.toNat ∧ b.toNat ≤ 57) = dgB b := by
  unfold dgB
  rw [Bool.eq_iff_iff]
  simp
theorem csign_call (b : UInt8) (H : Heap) : VCall Tryd.prog 157 [bV b] H (fun x K => x = booV (tokB b) ∧ K = H) := VCall.bytes mixed 30 tokB (by kernel_rfl) b H
theorem letter_call (b : UInt8) (H : Heap) : VCall Tryd.prog 126 [bV b] H (fun x K => x = booV (letB b) ∧ K = H) := by
  refine VCall.go Tryd.func126 rfl ?_
  repeat' (first | with_reducible refine And.intro ?_ ?_ | ((with_reducible intro hc); (try simp only [zA, zB, zC, zD, zE, zF, zG, zH, zI, zJ, zK, zL, zM, zN, zO, zP, zQ, zR, zS, zT, zU, zV, zW] at hc); (first | (exact absurd rfl hc) | (exact absurd trivial hc) | (exfalso; omega) | skip)) | ((conv => whnf); first | with_reducible refine And.intro ?_ ?_ | refine ifB_intro ?_ ?_ | refine xA (by omega) ?_ | ((refine xB ?_); intro kw hk1 hk2) | refine xC (by omega) ?_ | refine xD ?_ | refine xE (by omega) ?_ | refine xF (by omega) ?_ | refine xG ?_ | refine xH ?_ | refine xI (by omega) ?_ | refine xJ (by omega) ?_ | (with_reducible refine stopA ?_) | refine Exists.intro _ (And.intro (by rfl) ?_) | refine GOp.via (by rfl) ?_ | (with_reducible first | refine stopO ?_ | refine stopE ?_ | refine stopD ?_ | refine stopW ?_ | refine stopG ?_) | (first | (refine GCall.mk ((in_call b [97, 98, 99, 100, 101, 102, 103, 104, 105, 106, 107, 108, 109, 110, 111, 112, 113, 114, 115, 116, 117, 118, 119, 120, 121, 122] _ (by simp)).mono ?_); rintro _ _ ⟨rfl, rfl⟩) | (refine GCall.mk ((in_call b [65, 66, 67, 68, 69, 70, 71, 72, 73, 74, 75, 76, 77, 78, 79, 80, 81, 82, 83, 84, 85, 86, 87, 88, 89, 90] _ (by simp)).mono ?_); rintro _ _ ⟨rfl, rfl⟩)) | (with_reducible refine stopC ?_) | (with_reducible refine stopR ?_)))
  · refine Done'.mk ⟨?_, rfl⟩
    unfold letB
    rw [hc]
    rfl
  · refine Done'.mk ⟨?_, rfl⟩
    unfold letB
    rw [hc]
    rfl
def tokenB (l : List UInt8) : Bool := l.all tokB && !(l == [])
theorem all_at {l : List UInt8} {i : Nat} {c : UInt8} (p : UInt8 → Bool) (h : l[i]? = some c) : (l.drop i).all p = (p c && (l.drop (i + 1)).all p) := by
  obtain ⟨hi, e⟩ := List.getElem?_eq_some_iff.1 h
  rw [List.drop_eq_getElem_cons hi, e, List.all_cons]
theorem token_call (l : List UInt8) (H : Heap) (hl : l.length ≤ 4611686018427387904) : VCall Tryd.prog 123 [roB l] H (fun x K => x = booV (tokenB l) ∧ K = H) := by
  refine VCall.go Tryd.func123 rfl ?_
  repeat' (first | with_reducible refine And.intro ?_ ?_ | ((with_reducible intro hc); (try simp only [zA, zB, zC, zD, zE, zF, zG, zH, zI, zJ, zK, zL, zM, zN, zO, zP, zQ, zR, zS, zT, zU, zV, zW] at hc); (first | (exact absurd rfl hc) | (exact absurd trivial hc) | (exfalso; omega) | skip)) | ((conv => whnf); first | with_reducible refine And.intro ?_ ?_ | refine ifB_intro ?_ ?_ | refine xA (by omega) ?_ | ((refine xB ?_); intro kw hk1 hk2) | refine xC (by omega) ?_ | refine xD ?_ | refine xE (by omega) ?_ | refine xF (by omega) ?_ | refine xG ?_ | refine xH ?_ | refine xI (by omega) ?_ | refine xJ (by omega) ?_ | (with_reducible refine stopA ?_) | refine Exists.intro _ (And.intro (by rfl) ?_) | refine GOp.via (by rfl) ?_ | (with_reducible first | refine stopO ?_ | refine stopE ?_ | refine stopD ?_ | refine stopW ?_ | refine stopG ?_ | refine stopC ?_ | refine stopR ?_)))
  refine GWP'.mk (GWP.loopK (α := Nat) (fun i => i ≤ l.length ∧ (l.drop i).all tokB = l.all tokB) (fun i => [(0, roB l), (5, roB l), (6, iV l.length), (7, iV i)]) (fun _ => H) [] 18 (fun i => l.length - i) 0 ⟨Nat.zero_le _, rfl⟩ ⟨rfl, ⟨rfl, rfl, rfl, rfl, trivial⟩, rfl, rfl⟩ ?_)
  rintro i ⟨hi, hgo⟩
  by_cases hil : i < l.length
  · have hb : ∃ c, l[i]? = some c := ⟨l[i], by simp⟩
    obtain ⟨c, hb⟩ := hb
    rw [all_at tokB hb] at hgo
    repeat' (first | with_reducible refine And.intro ?_ ?_ | ((with_reducible intro hc); (try simp only [zA, zB, zC, zD, zE, zF, zG, zH, zI, zJ, zK, zL, zM, zN, zO, zP, zQ, zR, zS, zT, zU, zV, zW] at hc); (first | (exact absurd rfl hc) | (exact absurd trivial hc) | (exfalso; omega) | skip)) | ((conv => whnf); first | with_reducible refine And.intro ?_ ?_ | refine ifB_intro ?_ ?_ | refine xA (by omega) ?_ | ((refine xB ?_); intro kw hk1 hk2) | refine xC (by omega) ?_ | refine xD ?_ | refine xE (by omega) ?_ | refine xF (by omega) ?_ | refine xG ?_ | refine xH ?_ | refine xI (by omega) ?_ | refine xJ (by omega) ?_ | (with_reducible refine stopA ?_) | refine Exists.intro _ (And.intro (by (first | exact vat_of vagg_u8 (map_at hb) (mul1 rfl rfl) | rfl)) ?_) | refine GOp.via (by rfl) ?_ | (with_reducible first | refine stopO ?_ | refine stopE ?_ | refine stopD ?_ | refine stopW ?_ | refine stopG ?_) | (refine GCall.mk ((csign_call c _).mono ?_); rintro _ _ ⟨rfl, rfl⟩) | (with_reducible refine stopC ?_) | (with_reducible refine stopR ?_)))
    all_goals (first | omega | refine Done'.mk ?_)
    · refine ⟨?_, rfl⟩
      rw [hc, Bool.false_and] at hgo
      unfold tokenB
      rw [← hgo]
      rfl
    · rw [hc, Bool.true_and] at hgo
      refine ⟨i + 1, ⟨by omega, hgo⟩, by omega, rfl, ⟨rfl, rfl, rfl, iv_eq ?_, trivial⟩, rfl, rfl⟩
      push_cast
      omega
  · repeat' (first | with_reducible refine And.intro ?_ ?_ | ((with_reducible intro hc); (try simp only [zA, zB, zC, zD, zE, zF, zG, zH, zI, zJ, zK, zL, zM, zN, zO, zP, zQ, zR, zS, zT, zU, zV, zW] at hc); (first | (exact absurd rfl hc) | (exact absurd trivial hc) | (exfalso; omega) | skip)) | ((conv => whnf); first | with_reducible refine And.intro ?_ ?_ | refine ifB_intro ?_ ?_ | refine xA (by omega) ?_ | ((refine xB ?_); intro kw hk1 hk2) | refine xC (by omega) ?_ | refine xD ?_ | refine xE (by omega) ?_ | refine xF (by omega) ?_ | refine xG ?_ | refine xH ?_ | refine xI (by omega) ?_ | refine xJ (by omega) ?_ | (with_reducible refine stopA ?_) | refine Exists.intro _ (And.intro (by rfl) ?_) | refine GOp.via (by rfl) ?_ | (with_reducible first | refine stopO ?_ | refine stopE ?_ | refine stopD ?_ | refine stopW ?_ | refine stopG ?_ | refine stopC ?_ | refine stopR ?_)))
    all_goals (first | omega | refine Done'.mk ⟨?_, rfl⟩)
    have : i = l.length := by omega
    subst this
    rw [List.drop_length] at hgo
    unfold tokenB
    rw [← hgo]
    show booV (ltZ 0 (l.length : Int)) = _
    rw [ltZ_eq]
    cases l
    · rfl
    · simp [booV]
end Go.Proofs.YtmmjgbdihgdekaaDoor

