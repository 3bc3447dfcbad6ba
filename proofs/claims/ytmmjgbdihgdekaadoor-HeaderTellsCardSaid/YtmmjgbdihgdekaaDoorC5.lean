/- lower; At of the document. -/
import Derived.Test.YtmmjgbdihgdekaaDoorC4
import Derived.Test.YtmmjgbdihgdekaaDoorN2
namespace Go.Proofs.YtmmjgbdihgdekaaDoor
open Go Go.RowKit
set_option linter.unusedSimpArgs false
set_option linter.unusedVariables false
set_option maxRecDepth 100000
set_option maxHeartbeats 4000000
def lowB (b : UInt8) : UInt8 := if 65 ≤ b.toNat ∧ b.toNat ≤ 90 then b + 32 else b
theorem lowB_nat (b : UInt8) : ((lowB b).toNat : Int) = if 65 ≤ b.toNat ∧ b.toNat ≤ 90 then (b.toNat : Int) + 32 else b.toNat := by
  unfold lowB
  split
  · have := u8_lt b
    simp only [UInt8.toNat_add]
    simp
    omega
  · rfl
theorem u8v_eq {x : Int} {b : UInt8} (h : x = b.toNat) : VV.sc (.int .u8 x) = bV b := by subst h; rfl
theorem lower_call (b : UInt8) (H : Heap) : VCall Tryd.prog 176 [bV b] H (fun x K => x = bV (lowB b) ∧ K = H) := by
  have hb := u8_lt b
  have e := lowB_nat b
  refine VCall.go Tryd.func176 rfl ?_
  repeat' (first | with_reducible refine And.intro ?_ ?_ | ((with_reducible intro hc); (try simp only [zA, zB, zC, zD, zE, zF, zG, zH, zI, zJ, zK, zL, zM, zN, zO, zP, zQ, zR, zS, zT, zU, zV, zW] at hc); (first | (exact absurd rfl hc) | (exact absurd trivial hc) | (exfalso; omega) | skip)) | ((conv => whnf); first | with_reducible refine And.intro ?_ ?_ | refine ifB_intro ?_ ?_ | refine xA (by omega) ?_ | ((refine xB ?_); intro kw hk1 hk2) | refine xC (by omega) ?_ | refine xD ?_ | refine xE (by omega) ?_ | refine xF (by omega) ?_ | refine xG ?_ | refine xH ?_ | refine xI (by omega) ?_ | refine xJ (by omega) ?_ | (with_reducible refine stopA ?_) | refine Exists.intro _ (And.intro (by rfl) ?_) | refine GOp.via (by rfl) ?_ | (with_reducible first | refine stopO ?_ | refine stopE ?_ | refine stopD ?_ | refine stopW ?_ | refine stopG ?_ | refine stopC ?_ | refine stopR ?_)))
  all_goals (refine Done'.mk ⟨?_, rfl⟩; refine u8v_eq ?_)
  · rw [if_pos (by omega)] at e
    omega
  · rw [if_neg (by omega)] at e
    omega
  · rw [if_neg (by omega)] at e
    omega
theorem ext_str (l : List UInt8) (a b : Nat) : (⟨l.toArray⟩ : ByteArray).extract a b = ⟨((l.drop a).take (b - a)).toArray⟩ := by
  apply ByteArray.ext
  rw [ByteArray.data_extract]
  simp [List.extract_eq_take_drop]
theorem str_eq {l m : List UInt8} (h : l = m) : VV.sc (.string ⟨l.toArray⟩) = strV m := by subst h; rfl
theorem ext_eq {l m : List UInt8} {a b : Nat} (h : (l.drop a).take (b - a) = m) : VV.sc (.string ((⟨l.toArray⟩ : ByteArray).extract a b)) = strV m := by
  rw [ext_str, h]; rfl
theorem idx_at {l : List UInt8} {i : Nat} {b : UInt8} (hn : (l.take i).contains b = false) (h : l[i]? = some b) : l.contains b = true ∧ l.idxOf b = i := by
  obtain ⟨hi, e⟩ := List.getElem?_eq_some_iff.1 h
  have hs : l = l.take i ++ b :: l.drop (i + 1) := by
    rw [← e, ← List.drop_eq_getElem_cons hi, List.take_append_drop]
  have hm : ¬ b ∈ l.take i := by
    intro h
    have : (l.take i).contains b = true := by simpa using h
    rw [hn] at this
    cases this
  constructor
  · simp only [List.contains_eq_mem, decide_eq_true_eq]
    exact List.mem_of_getElem? h
  · rw [hs, List.idxOf_append, if_neg hm]
    simp
    omega
theorem take_nextC {l : List UInt8} {i : Nat} {b c : UInt8} (hn : (l.take i).contains b = false) (h : l[i]? = some c) (hc : ¬ c = b) : (l.take (i + 1)).contains b = false := by
  obtain ⟨hi, e⟩ := List.getElem?_eq_some_iff.1 h
  rw [List.take_succ_eq_append_getElem hi, e]
  simp at hn ⊢
  exact ⟨hn, fun q => hc q.symm⟩
theorem rat_call (l : List UInt8) (b : UInt8) (H : Heap) (hl : l.length ≤ 4611686018427387904) : VCall Tryd.prog 84 [strV l, bV b] H (fun x K => x = .tp [strV (cutB l b).1, strV (cutB l b).2.1, booV (cutB l b).2.2] ∧ K = H) := by
  refine VCall.go Tryd.func84 rfl ?_
  repeat' (first | with_reducible refine And.intro ?_ ?_ | ((with_reducible intro hc); (try simp only [zA, zB, zC, zD, zE, zF, zG, zH, zI, zJ, zK, zL, zM, zN, zO, zP, zQ, zR, zS, zT, zU, zV, zW] at hc); (first | (exact absurd rfl hc) | (exact absurd trivial hc) | (exfalso; omega) | skip)) | ((conv => whnf); first | with_reducible refine And.intro ?_ ?_ | refine ifB_intro ?_ ?_ | refine xA (by omega) ?_ | ((refine xB ?_); intro kw hk1 hk2) | refine xC (by omega) ?_ | refine xD ?_ | refine xE (by omega) ?_ | refine xF (by omega) ?_ | refine xG ?_ | refine xH ?_ | refine xI (by omega) ?_ | refine xJ (by omega) ?_ | (with_reducible refine stopA ?_) | refine Exists.intro _ (And.intro (by rfl) ?_) | refine GOp.via (by rfl) ?_ | (with_reducible first | refine stopO ?_ | refine stopE ?_ | refine stopD ?_ | refine stopW ?_ | refine stopG ?_ | refine stopC ?_ | refine stopR ?_)))
  refine GWP'.mk (GWP.loopK (α := Nat) (fun i => i ≤ l.length ∧ (l.take i).contains b = false) (fun i => [(0, strV l), (1, bV b), (7, iV i)]) (fun _ => H) [] 27 (fun i => l.length - i) 0 ⟨Nat.zero_le _, by simp⟩ ⟨rfl, ⟨rfl, rfl, rfl, trivial⟩, rfl, rfl⟩ ?_)
  rintro i ⟨hi, hgo⟩
  by_cases hil : i < l.length
  · have hb : ∃ c, l[i]? = some c := ⟨l[i], by simp⟩
    obtain ⟨c, hb⟩ := hb
    repeat' (first | with_reducible refine And.intro ?_ ?_ | ((with_reducible intro hc); (try simp only [zA, zB, zC, zD, zE, zF, zG, zH, zI, zJ, zK, zL, zM, zN, zO, zP, zQ, zR, zS, zT, zU, zV, zW] at hc); (first | (exact absurd rfl hc) | (exact absurd trivial hc) | (exfalso; omega) | skip)) | exact Is.mk rfl rfl | ((conv => whnf); first | with_reducible refine And.intro ?_ ?_ | exact Is.mk rfl rfl | (with_reducible apply Val.via) | refine ifB_intro ?_ ?_ | refine xA (by omega) ?_ | ((refine xB ?_); intro kw hk1 hk2) | refine xC (by omega) ?_ | refine xD ?_ | refine xE (by omega) ?_ | refine xF (by omega) ?_ | refine xG ?_ | refine xH ?_ | refine xI (by omega) ?_ | refine xJ (by omega) ?_ | (with_reducible refine stopA ?_) | refine Exists.intro _ (And.intro (by (first | exact hb | rfl)) ?_) | refine GOp.drawn (by rfl) (by rfl) (Nat.le_of_ble_eq_true (by rfl)) (by rfl) | refine GOp.via (by rfl) ?_ | (refine GWP.draw mixed _ (by kernel_rfl) (by rfl) ?_) | (with_reducible first | refine stopO ?_ | refine stopE ?_ | refine stopD ?_ | refine stopW ?_ | refine stopG ?_) | fail | (with_reducible refine stopC ?_) | (with_reducible refine stopR ?_)))
    all_goals (try simp only [str_size])
    all_goals (first | omega | refine Done'.mk ?_)
    · have : c = b := UInt8.toNat_inj.1 (by omega)
      subst this
      obtain ⟨h1, h2⟩ := idx_at hgo hb
      refine ⟨tp3 (ext_eq ?_) (ext_eq ?_) ?_, by trivial⟩
      · unfold cutB
        rw [if_pos h1, h2]
        simp
      · unfold cutB
        rw [if_pos h1, h2]
        have : ((i : Int) + 1).toNat = i + 1 := by omega
        rw [this, List.take_of_length_le (by simp [str_size])]
      · unfold cutB
        rw [if_pos h1]
        rfl
    · have hc' : ¬ c = b := fun e => hc (by rw [e])
      refine ⟨i + 1, ⟨by omega, take_nextC hgo hb hc'⟩, by omega, rfl, ⟨rfl, rfl, iv_eq ?_, trivial⟩, rfl, rfl⟩
      push_cast
      omega
  · repeat' (first | with_reducible refine And.intro ?_ ?_ | ((with_reducible intro hc); (try simp only [zA, zB, zC, zD, zE, zF, zG, zH, zI, zJ, zK, zL, zM, zN, zO, zP, zQ, zR, zS, zT, zU, zV, zW] at hc); (first | (exact absurd rfl hc) | (exact absurd trivial hc) | (exfalso; omega) | skip)) | ((conv => whnf); first | with_reducible refine And.intro ?_ ?_ | refine ifB_intro ?_ ?_ | refine xA (by omega) ?_ | ((refine xB ?_); intro kw hk1 hk2) | refine xC (by omega) ?_ | refine xD ?_ | refine xE (by omega) ?_ | refine xF (by omega) ?_ | refine xG ?_ | refine xH ?_ | refine xI (by omega) ?_ | refine xJ (by omega) ?_ | (with_reducible refine stopA ?_) | refine Exists.intro _ (And.intro (by rfl) ?_) | refine GOp.via (by rfl) ?_ | (with_reducible first | refine stopO ?_ | refine stopE ?_ | refine stopD ?_ | refine stopW ?_ | refine stopG ?_ | refine stopC ?_ | refine stopR ?_)))
    all_goals (first | omega | refine Done'.mk ?_)
    have : i = l.length := by omega
    subst this
    rw [List.take_length] at hgo
    unfold cutB
    rw [if_neg (by rw [hgo]; simp)]
    exact ⟨rfl, rfl⟩
end Go.Proofs.YtmmjgbdihgdekaaDoor
